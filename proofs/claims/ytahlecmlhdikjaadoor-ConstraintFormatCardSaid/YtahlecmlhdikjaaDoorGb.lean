/-
  Joined by a program: LinW, LinN, QTail, LinE, LinEw, Lin3, LinO.
-/
import Derived.Test.YtahlecmlhdikjaaDoorGa
import Derived.StillTail
import Derived.Deep.QuietTactic
import Derived.Deep.Slices
import Derived.Deep.Fields
import Derived.ChangeSame
import Derived.Lib.SmallJoins

section
namespace Go.Proofs.YtahlecmlhdikjaaDoor
set_option linter.unusedSimpArgs false
open Go.ChangeShapes Go.WideShapes Go.ChangeAt Go.RowKit
set_option linter.unusedVariables false

/-- Three cells of block b. -/
structure W3 (w : World) (b : Nat) (h m l : Int) : Prop where
  lt : b < w.heap.size
  c0 : w.cell? ⟨b, 0, none⟩ = some (.int .u64 h)
  c1 : w.cell? ⟨b, 1, none⟩ = some (.int .u64 m)
  c2 : w.cell? ⟨b, 2, none⟩ = some (.int .u64 l)
  fz : ∀ o, w.frozen? ⟨b, o, none⟩ = false

theorem W3.set {w : World} {b : Nat} {h m l : Int} (x : W3 w b h m l) (h' m' l' : Int) :
    W3 (((w.setCell ⟨b, 2, none⟩ (.int .u64 l')).setCell ⟨b, 1, none⟩ (.int .u64 m')).setCell ⟨b, 0, none⟩ (.int .u64 h')) b h' m' l' where
  lt := by rw [set_size, set_size, set_size]; exact x.lt
  c0 := set_eq _ _ _ _ _ (((set_ne _ _ _ _ _ (by omega)).trans (set_ne _ _ _ _ _ (by omega))).trans x.c0)
  c1 := (set_ne _ _ _ _ _ (by omega)).trans (set_eq _ _ _ _ _ ((set_ne _ _ _ _ _ (by omega)).trans x.c1))
  c2 := (set_ne _ _ _ _ _ (by omega)).trans ((set_ne _ _ _ _ _ (by omega)).trans (set_eq _ _ _ _ _ x.c2))
  fz := fun o => by rw [World.frozen?_setCell, World.frozen?_setCell, World.frozen?_setCell]; exact x.fz o
theorem W3.but (w : World) (b : Nat) (h' m' l' : Int) : UpBut b w (((w.setCell ⟨b, 2, none⟩ (.int .u64 l')).setCell ⟨b, 1, none⟩ (.int .u64 m')).setCell ⟨b, 0, none⟩ (.int .u64 h')) :=
  (((UpBut.refl b w).setCell _ _ _).setCell _ _ _).setCell _ _ _
theorem W3.up {w w' : World} {b : Nat} {h m l : Int} (x : W3 w b h m l) (u : Up w w') : W3 w' b h m l :=
  ⟨Nat.lt_of_lt_of_le x.lt u.size, (u.cell _ _ x.lt).trans x.c0, (u.cell _ _ x.lt).trans x.c1, (u.cell _ _ x.lt).trans x.c2, fun o => (u.frozen _ _ x.lt).trans (x.fz o)⟩

/-- Three digits that stand for n, modulo 2^192. -/
def Dig (h m l n : Int) : Prop := (0 ≤ h ∧ h < 18446744073709551616) ∧ (0 ≤ m ∧ m < 18446744073709551616) ∧ (0 ≤ l ∧ l < 18446744073709551616) ∧ (h * 340282366920938463463374607431768211456 + m * 18446744073709551616 + l - n) % 6277101735386680763835789423207666416102355444464034512896 = 0
def WAt (w : World) (b : Nat) (n : Int) : Prop := ∃ h m l, Dig h m l n ∧ W3 w b h m l

theorem xor_max (x : Int) (h0 : 0 ≤ x) (h1 : x < 18446744073709551616) : bits .xor .u64 IntKind.u64.max x = 18446744073709551615 - x := by
  obtain ⟨a, rfl⟩ := Int.eq_ofNat_of_zero_le h0
  show IntKind.u64.wrap ((BitVec.ofInt 64 IntKind.u64.max ^^^ BitVec.ofInt 64 (a : Int)).toNat : Int) = _
  have e1 : BitVec.ofInt 64 IntKind.u64.max = BitVec.allOnes 64 := by decide
  have h2 : (BitVec.ofInt 64 (a : Int)).toNat = a := by
    rw [BitVec.ofInt_natCast, BitVec.toNat_ofNat]; exact Nat.mod_eq_of_lt (by omega)
  rw [e1, BitVec.allOnes_xor, BitVec.toNat_not, h2, IntKind.wrap_u64]
  omega

set_option maxHeartbeats 4000000 in
theorem wide_add_pos (b : Nat) (h m l hi lo : Int) (h0 : 0 ≤ h) (h1 : h < 18446744073709551616) (m0 : 0 ≤ m) (m1 : m < 18446744073709551616) (l0 : 0 ≤ l) (l1 : l < 18446744073709551616)
    (a0 : 0 ≤ hi) (a1 : hi < 18446744073709551616) (b0 : 0 ≤ lo) (b1 : lo < 18446744073709551616) (w : World) (hw : W3 w b h m l) (n p : Int) (hn : Dig h m l n) (hp : p = n + (hi * 18446744073709551616 + lo)) :
    Calls Tryd.prog 91 #[.pointer (some ⟨b, 0, none⟩), .int .u64 hi, .int .u64 lo, .bool false] w fun e w' => e = .returned (.tuple #[]) ∧ WAt w' b p ∧ UpBut b w w' := by
  have HW := Lib.hid hw
  have HD := Lib.hid hn
  have HP := Lib.hid hp
  clear hn hp
  obtain ⟨lt, c0, c1, c2, fz⟩ := hw
  go_enter Tryd.func91, Tryd.ntmps91
  go_wp2
  all_goals
    go_end0
    refine ⟨rfl, ⟨_, _, _, ?_, HW.out.set _ _ _⟩, W3.but _ _ _ _ _⟩
    have hd := HD.out
    have hp := HP.out
    clear c0 c1 c2 fz HW HD HP
    simp only [IntKind.wrap_u64] at *
    unfold Dig at *
    omega

set_option maxHeartbeats 8000000 in
theorem wide_add_neg (b : Nat) (h m l hi lo : Int) (h0 : 0 ≤ h) (h1 : h < 18446744073709551616) (m0 : 0 ≤ m) (m1 : m < 18446744073709551616) (l0 : 0 ≤ l) (l1 : l < 18446744073709551616)
    (a0 : 0 ≤ hi) (a1 : hi < 18446744073709551616) (b0 : 0 ≤ lo) (b1 : lo < 18446744073709551616) (w : World) (hw : W3 w b h m l) (n p : Int) (hn : Dig h m l n) (hp : p = n - (hi * 18446744073709551616 + lo)) :
    Calls Tryd.prog 91 #[.pointer (some ⟨b, 0, none⟩), .int .u64 hi, .int .u64 lo, .bool true] w fun e w' => e = .returned (.tuple #[]) ∧ WAt w' b p ∧ UpBut b w w' := by
  have HW := Lib.hid hw
  have HD := Lib.hid hn
  have HP := Lib.hid hp
  clear hn hp
  obtain ⟨lt, c0, c1, c2, fz⟩ := hw
  obtain ⟨H, hH⟩ : ∃ H, 18446744073709551615 - hi = H := ⟨_, rfl⟩
  obtain ⟨L, hL⟩ : ∃ L, 18446744073709551615 - lo = L := ⟨_, rfl⟩
  have x0 : bits .xor .u64 (if IntKind.u64.signed = true then -1 else IntKind.u64.max) 0 = 18446744073709551615 := xor_max 0 (by omega) (by omega)
  have x1 : bits .xor .u64 (if IntKind.u64.signed = true then -1 else IntKind.u64.max) hi = H := (xor_max hi a0 a1).trans hH
  have x2 : bits .xor .u64 (if IntKind.u64.signed = true then -1 else IntKind.u64.max) lo = L := (xor_max lo b0 b1).trans hL
  have HH := Lib.hid hH
  have HL := Lib.hid hL
  by_cases e1 : lo = 0
  · by_cases e2 : hi = 0
    · have f1 : IntKind.u64.wrap (L + 1) = 0 := by rw [IntKind.wrap_u64]; omega
      have f2 : IntKind.u64.wrap (H + 1) = 0 := by rw [IntKind.wrap_u64]; omega
      have f3 : IntKind.u64.wrap (18446744073709551615 + 1) = 0 := by rw [IntKind.wrap_u64]; rfl
      clear hH hL
      go_enter Tryd.func91, Tryd.ntmps91
      go_wp2
      all_goals
        go_end0
        refine ⟨rfl, ⟨_, _, _, ?_, HW.out.set _ _ _⟩, W3.but _ _ _ _ _⟩
        have hd := HD.out
        have hp := HP.out
        have hh := HH.out
        have hl := HL.out
        clear c0 c1 c2 fz HW HD HP HH HL x0 x1 x2
        simp only [IntKind.wrap_u64] at *
        unfold Dig at *
        omega
    · have f1 : IntKind.u64.wrap (L + 1) = 0 := by rw [IntKind.wrap_u64]; omega
      have f2 : IntKind.u64.wrap (H + 1) = H + 1 := by rw [IntKind.wrap_u64]; omega
      have f4 : (H + 1 == 0) = false := by simp; omega
      have f5 : ¬ (H + 1 = 0) := by omega
      clear hH hL
      go_enter Tryd.func91, Tryd.ntmps91
      go_wp2
      all_goals
        go_end0
        refine ⟨rfl, ⟨_, _, _, ?_, HW.out.set _ _ _⟩, W3.but _ _ _ _ _⟩
        have hd := HD.out
        have hp := HP.out
        have hh := HH.out
        have hl := HL.out
        clear c0 c1 c2 fz HW HD HP HH HL x0 x1 x2 f1 f2 f4
        simp only [IntKind.wrap_u64] at *
        unfold Dig at *
        omega
  · have f1 : IntKind.u64.wrap (L + 1) = L + 1 := by rw [IntKind.wrap_u64]; omega
    have f4 : (L + 1 == 0) = false := by simp; omega
    have f5 : ¬ (L + 1 = 0) := by omega
    clear hH hL
    go_enter Tryd.func91, Tryd.ntmps91
    go_wp2
    all_goals
      go_end0
      refine ⟨rfl, ⟨_, _, _, ?_, HW.out.set _ _ _⟩, W3.but _ _ _ _ _⟩
      have hd := HD.out
      have hp := HP.out
      have hh := HH.out
      have hl := HL.out
      clear c0 c1 c2 fz HW HD HP HH HL x0 x1 x2 f1 f4
      simp only [IntKind.wrap_u64] at *
      unfold Dig at *
      omega
end Go.Proofs.YtahlecmlhdikjaaDoor
end

section
namespace Go.Proofs.YtahlecmlhdikjaaDoor
set_option linter.unusedSimpArgs false
open Go.ChangeShapes Go.WideShapes Go.ChangeAt Go.RowKit
set_option linter.unusedVariables false

def fitB (n : Int) : Bool := decide (-9223372036854775808 ≤ n) && decide (n ≤ 9223372036854775807)

set_option maxHeartbeats 2000000 in
theorem wide_narrow (b : Nat) (n : Int) (w : World) (hw : WAt w b n) (n0 : -1569275433846670190958947355801916604025588861116008628224 ≤ n) (n1 : n ≤ 1569275433846670190958947355801916604025588861116008628224) :
    Calls Tryd.prog 95 #[.pointer (some ⟨b, 0, none⟩)] w fun e w' => ∃ x, e = .returned (.tuple #[.int .i64 x, .bool (fitB n)]) ∧ (fitB n = true → x = n) ∧ Up w w' := by
  obtain ⟨h, m, l, hd, lt, c0, c1, c2, fz⟩ := hw
  obtain ⟨⟨h0, h1⟩, ⟨m0, m1⟩, ⟨l0, l1⟩, hn⟩ := hd
  have HN := Lib.hid hn
  have HB := Lib.hid (And.intro n0 n1)
  clear hn n0 n1
  by_cases hl : l < 9223372036854775808
  · have e1 : wrap64 l = l := by unfold wrap64; omega
    have e2 : l / 9223372036854775808 = 0 := by omega
    by_cases hm : m = 0
    · by_cases hh : h = 0
      · subst hm hh
        have hf : fitB n = true := by
          have := HN.out
          have := HB.out
          simp [fitB]; omega
        go_enter Tryd.func95, Tryd.ntmps95
        go_wp2
        refine wp_region_ext (by kernel_rfl) (by kernel_rfl) ?_
        repeat (go_big_quiet_step (fail))
        refine wpQuiet_nil ?_
        intro x hx
        go_wp2
        go_ret2
        refine ⟨_, ret_ib rfl hf.symm, ?_, hx⟩
        intro hg
        have := HN.out
        have := HB.out
        simp [fitB] at hg
        omega
      · subst hm
        have hh2 : (h == 0) = false := by simpa using hh
        have hf : fitB n = false := by
          have := HN.out
          have := HB.out
          simp [fitB]; omega
        go_enter Tryd.func95, Tryd.ntmps95
        go_wp2
        refine wp_region_ext (by kernel_rfl) (by kernel_rfl) ?_
        repeat (go_big_quiet_step (fail))
        refine wpQuiet_nil ?_
        intro x hx
        go_wp2
        go_ret2
        refine ⟨_, ret_ib rfl hf.symm, ?_, hx⟩
        intro hg
        rw [hf] at hg
        cases hg
    · have hm2 : (m == 0) = false := by simpa using hm
      have hf : fitB n = false := by
        have := HN.out
        have := HB.out
        simp [fitB]; omega
      go_enter Tryd.func95, Tryd.ntmps95
      go_wp2
      refine wp_region_ext (by kernel_rfl) (by kernel_rfl) ?_
      repeat (go_big_quiet_step (fail))
      refine wpQuiet_nil ?_
      intro x hx
      go_wp2
      go_ret2
      refine ⟨_, ret_ib rfl hf.symm, ?_, hx⟩
      intro hg
      rw [hf] at hg
      cases hg
  · have e1 : wrap64 l = l - 18446744073709551616 := by unfold wrap64; omega
    have e2 : (l - 18446744073709551616) / 9223372036854775808 = -1 := by omega
    have e3 : IntKind.u64.wrap (-1) = 18446744073709551615 := by rw [IntKind.wrap_u64]; rfl
    by_cases hm : m = 18446744073709551615
    · by_cases hh : h = 18446744073709551615
      · subst hm hh
        have hf : fitB n = true := by
          have := HN.out
          have := HB.out
          simp [fitB]; omega
        go_enter Tryd.func95, Tryd.ntmps95
        go_wp2
        refine wp_region_ext (by kernel_rfl) (by kernel_rfl) ?_
        repeat (go_big_quiet_step (fail))
        refine wpQuiet_nil ?_
        intro x hx
        go_wp2
        go_ret2
        refine ⟨_, ret_ib rfl hf.symm, ?_, hx⟩
        intro hg
        have := HN.out
        have := HB.out
        simp [fitB] at hg
        omega
      · subst hm
        have hh2 : (h == 18446744073709551615) = false := by simpa using hh
        have hf : fitB n = false := by
          have := HN.out
          have := HB.out
          simp [fitB]; omega
        go_enter Tryd.func95, Tryd.ntmps95
        go_wp2
        refine wp_region_ext (by kernel_rfl) (by kernel_rfl) ?_
        repeat (go_big_quiet_step (fail))
        refine wpQuiet_nil ?_
        intro x hx
        go_wp2
        go_ret2
        refine ⟨_, ret_ib rfl hf.symm, ?_, hx⟩
        intro hg
        rw [hf] at hg
        cases hg
    · have hm2 : (m == 18446744073709551615) = false := by simpa using hm
      have hf : fitB n = false := by
        have := HN.out
        have := HB.out
        simp [fitB]; omega
      go_enter Tryd.func95, Tryd.ntmps95
      go_wp2
      refine wp_region_ext (by kernel_rfl) (by kernel_rfl) ?_
      repeat (go_big_quiet_step (fail))
      refine wpQuiet_nil ?_
      intro x hx
      go_wp2
      go_ret2
      refine ⟨_, ret_ib rfl hf.symm, ?_, hx⟩
      intro hg
      rw [hf] at hg
      cases hg
end Go.Proofs.YtahlecmlhdikjaaDoor
end

section
namespace Go.Proofs.YtahlecmlhdikjaaDoor
set_option linter.unusedSimpArgs false
open Go.ChangeShapes Go.WideShapes Go.ChangeAt Go.RowKit
set_option linter.unusedVariables false

section
variable {P : Program} {ops : Array Oper} {md : Region.Mode} {C : World → Prop}

def wpAnyLQ (P : Program) (md : Region.Mode) (ops : Array Oper) (C : World → Prop) (n : Nat) (L : Array Bool → Act → Prop) : Nat → Array Bool → Act → Prop
  | 0, listed, a => L listed a
  | f + 1, listed, a =>
    Region.ready md ops listed ≠ [] ∧ ∀ i ∈ Region.ready md ops listed, i < n ∧ qOp P ops C i (wpAnyLQ P md ops C n L f (listed.setIfInBounds i true)) a

theorem wpAny_of_headQ {n g : Nat} {L : Array Bool → Act → Prop} {Q' : Exit → Act → World → Prop} (hL : ∀ listed a w, C w → L listed a → wpAny P md ops Q' g listed a w) :
    ∀ (f : Nat) (listed : Array Bool) (a : Act) (w : World), C w → wpAnyLQ P md ops C n L f listed a → wpAny P md ops Q' (f + g) listed a w
  | 0, listed, a, w, hw, h => by rw [Nat.zero_add]; exact hL _ _ _ hw h
  | f + 1, listed, a, w, hw, h => by
    rw [show f + 1 + g = (f + g) + 1 by omega]
    exact ⟨fun h0 => absurd h0 h.1, fun i hi => wpOp_of_qOp hw (fun a' w' hw' h' => wpAny_of_headQ hL f _ a' w' hw' h') (h.2 i hi).2⟩

theorem wpAnyLQ_first {n i : Nat} {oi : Oper} {v : Value} {L : Array Bool → Act → Prop} (hi : ops[i]? = some oi) (hsel : ∀ (j : Nat) (o : Oper) cs b, ops[j]? = some o → o.op ≠ .select cs b)
    (hs : Region.sinkB md ops n = true) (hc : Region.chainB md ops n = true) (hn : n < ops.size) (hin : i < n)
    (hdone : ∀ listed a, L listed a → ∀ j ∈ Region.ready md ops listed, n ≤ j) :
    ∀ (f : Nat) (listed : Array Bool) (a : Act), HeadInv md ops n listed →
      (∀ j oj, ops[j]? = some oj → j ≠ i → listed.getD j true = false → (∀ e ∈ oj.after, Region.binds md e = true → e.on ≠ i) → oi.apart ops oj = true) →
      i ∈ Region.ready md ops listed → YieldsIn P ops C oi v a →
      wpAnyLQ P md ops C n L f (listed.setIfInBounds i true) (a.put oi.dst v) → wpAnyLQ P md ops C n L (f + 1) listed a := by
  intro f
  induction f with
  | zero =>
    intro listed a inv _ hr hy H
    have hun := (mem_ready.1 hr).1
    refine ⟨fun h => (by rw [h] at hr; cases hr), fun j hj => ?_⟩
    have hjn : j < n := by
      rcases Nat.lt_or_ge j n with h | h
      · exact h
      · exact absurd hj (tail_waits hs hc hn inv _ i rfl hin hun j h)
    refine ⟨hjn, ?_⟩
    by_cases hji : j = i
    · subst hji; exact hy.qOp hi H
    · have := hdone _ _ H j (ready_mono hj hji)
      omega
  | succ f ih =>
    intro listed a inv hfree hr hy H
    have hun := (mem_ready.1 hr).1
    refine ⟨fun h => (by rw [h] at hr; cases hr), fun j hj => ?_⟩
    have hjn : j < n := by
      rcases Nat.lt_or_ge j n with h | h
      · exact h
      · exact absurd hj (tail_waits hs hc hn inv _ i rfl hin hun j h)
    refine ⟨hjn, ?_⟩
    by_cases hji : j = i
    · subst hji; exact hy.qOp hi H
    · have h1 := (H.2 j (ready_mono hj hji)).2
      obtain ⟨hjun, oj, hoj, hall⟩ := mem_ready.1 hj
      have hnot : ∀ e ∈ oj.after, Region.binds md e = true → e.on ≠ i := fun e he hb heq => by
        have h1 := hall e he hb
        rw [heq, getD_both hun] at h1
        cases h1
      have h2 := qOp_put hoj (hfree j oj hoj hji hjun hnot) (fun cs b => hsel i oi cs b hi) (fun cs b => hsel j oj cs b hoj) hy h1
      have hfree' : ∀ k ok, ops[k]? = some ok → k ≠ i → (listed.setIfInBounds j true).getD k true = false →
          (∀ e ∈ ok.after, Region.binds md e = true → e.on ≠ i) → oi.apart ops ok = true := fun k ok hk hki hun hno => by
        refine hfree k ok hk hki ?_ hno
        by_cases hjk : j = k
        · subst hjk; exact hjun
        · rw [getD_set_ne true hjk] at hun; exact hun
      refine qOp_mono (fun a' h3 => ih (listed.setIfInBounds j true) a' (inv.set hj hjn) hfree' (ready_mono hr (Ne.symm hji)) h3.1 ?_) h2
      rw [Array.setIfInBounds_comm _ _ hji]
      exact h3.2

theorem wpAnyLQ_lex {n g : Nat} {Lq : Act → Prop} (hsel : Region.noSelect ops = true) (hs : Region.sinkB md ops n = true) (hc : Region.chainB md ops n = true) (hn : n < ops.size) :
    ∀ (l : List Oper) (k : Nat) (listed : Array Bool) (a : Act), (∀ j, j < l.length → l[j]? = ops[k + j]?) → k + l.length = n → HeadInv md ops n listed →
    Region.lexHead md ops g l.length k listed = true → wpQuiet P ops C Lq l a →
    wpAnyLQ P md ops C n (fun listed' a' => Region.seqB md ops g n listed' = true ∧ Lq a') l.length listed a
  | [], k, listed, a, _, hk, _, hB, h => by
    have : k = n := by simpa using hk
    subst this
    exact ⟨by simpa [Region.lexHead] using hB, h⟩
  | o :: l, k, listed, a, hl, hk, inv, hB, h => by
    have h0 : ops[k]? = some o := by simpa using (hl 0 (by simp)).symm
    simp only [List.length_cons, Region.lexHead, Bool.and_eq_true] at hB
    obtain ⟨⟨hr, hf⟩, hB'⟩ := hB
    have hkn : k < n := by simp only [List.length_cons] at hk; omega
    have hr' : k ∈ Region.ready md ops listed := by simpa using hr
    have hst : qOp P ops C k (wpQuiet P ops C Lq l) a := by unfold qOp; simp only [h0]; exact h
    obtain ⟨v, hy, hK⟩ := yieldsIn_of_qOp h0 hst
    exact wpAnyLQ_first h0 (Region.noSelect_spec hsel) hs hc hn hkn (fun listed' a' hL => seqB_ready hL.1) l.length listed a inv (Region.free_spec h0 hf) hr' hy
      (wpAnyLQ_lex hsel hs hc hn l (k + 1) _ _ (fun j hj => by have := hl (j + 1) (by simp; omega); simpa [Nat.add_assoc, Nat.add_comm 1 j] using this) (by simp only [List.length_cons] at hk; omega) (inv.set hr' hkn) hB' hK)

/-- The head once, in the text's order, in every world of the class; then the tail as it stands. -/
theorem wp_region_quiet_tail {id : Nat} {Q : Exit → Act → World → Prop} {a : Act} {w : World} {l : List Oper} (n : Nat) (hm : P.follows .mixedOrders = true) (hB : Region.lexTailB .any l.toArray n = true) (hC : C { w with drawn := w.drawn + 1 })
    (h : wpQuiet P l.toArray C (fun a' => ∀ x, C x → wpList P l.toArray Q (l.drop n) a' x) (l.take n) a) : (Code.region id l.toArray true).wp P Q a w := by
  simp only [Region.lexTailB, Bool.and_eq_true, decide_eq_true_eq] at hB
  obtain ⟨⟨⟨⟨hsel, hn⟩, hs⟩, hc⟩, hlex⟩ := hB
  have hn' : n < l.length := by simpa using hn
  have htl : (l.take n).length = n := by simp; omega
  have hdl : (l.drop n).length = l.toArray.size - n := by simp
  have inv0 : HeadInv .any l.toArray n (Array.replicate l.toArray.size false) :=
    ⟨by simp, fun j oj _ hl => (by rw [getD_replicate_false] at hl; cases hl), fun t _ ht => getD_in (by simpa using ht) (getD_replicate_false _ _)⟩
  have H := wpAnyLQ_lex (md := .any) (C := C) (g := l.toArray.size - n) hsel hs hc hn (l.take n) 0 _ a (fun j hj => by
    have hj' : j < n := by rw [htl] at hj; exact hj
    simp [hj']) (by simpa using htl) inv0 (by rw [htl]; exact hlex) h
  refine wp_region_any hm ?_
  have := wpAny_of_headQ (Q' := Q) (g := l.toArray.size - n) (fun listed a' x hx hL => by
    have := wpAny_of_seq (md := .any) (Q' := Q) (l.drop n) n listed a' x (fun j => by simp [List.getElem?_drop]) (by rw [hdl]; exact hL.1) (hL.2 x hx)
    rwa [hdl] at this) _ _ _ _ hC H
  rw [htl, show n + (l.toArray.size - n) = l.toArray.size by omega] at this
  exact this
end

/-- The class: worlds that only grew. -/
theorem wp_region_ext_tail {P : Program} {id : Nat} {Q : Exit → Act → World → Prop} {a : Act} {w : World} {l : List Oper} (n : Nat) (hm : P.follows .mixedOrders = true) (hB : Region.lexTailB .any l.toArray n = true)
    (h : wpQuiet P l.toArray (fun x => ∃ i : Ext w, x = i.w) (fun a' => ∀ x, Up w x → wpList P l.toArray Q (l.drop n) a' x) (l.take n) a) : (Code.region id l.toArray true).wp P Q a w := by
  have e : (fun a' => ∀ x, Up w x → wpList P l.toArray Q (l.drop n) a' x) = (fun a' => ∀ x, (∃ i : Ext w, x = i.w) → wpList P l.toArray Q (l.drop n) a' x) := by
    funext a'
    exact propext ⟨fun H x ⟨i, hi⟩ => hi ▸ H i.w i.up, fun H x hx => H x ⟨⟨x, hx⟩, rfl⟩⟩
  rw [e] at h
  exact wp_region_quiet_tail n hm hB ⟨⟨{ w with drawn := w.drawn + 1 }, (Up.refl w).drew⟩, rfl⟩ h
end Go.Proofs.YtahlecmlhdikjaaDoor
end

section
namespace Go.Proofs.YtahlecmlhdikjaaDoor
set_option linter.unusedSimpArgs false
open Go.ChangeShapes Go.WideShapes Go.ChangeAt Go.RowKit
set_option linter.unusedVariables false

theorem wide_add (neg : Bool) (b : Nat) (hi lo : Int) (a0 : 0 ≤ hi) (a1 : hi < 18446744073709551616) (b0 : 0 ≤ lo) (b1 : lo < 18446744073709551616) (w : World) (n p : Int) (hw : WAt w b n)
    (hp : p = if neg then n - (hi * 18446744073709551616 + lo) else n + (hi * 18446744073709551616 + lo)) :
    Calls Tryd.prog 91 #[.pointer (some ⟨b, 0, none⟩), .int .u64 hi, .int .u64 lo, .bool neg] w fun e w' => e = .returned (.tuple #[]) ∧ WAt w' b p ∧ UpBut b w w' := by
  obtain ⟨h, m, l, hd, h3⟩ := hw
  cases neg
  · exact wide_add_pos b h m l hi lo hd.1.1 hd.1.2 hd.2.1.1 hd.2.1.2 hd.2.2.1.1 hd.2.2.1.2 a0 a1 b0 b1 w h3 n p hd hp
  · exact wide_add_neg b h m l hi lo hd.1.1 hd.1.2 hd.2.1.1 hd.2.1.2 hd.2.2.1.1 hd.2.2.1.2 a0 a1 b0 b1 w h3 n p hd hp

theorem WAt.up {w w' : World} {b : Nat} {n : Int} (h : WAt w b n) (u : Up w w') : WAt w' b n := by
  obtain ⟨x, m, l, hd, h3⟩ := h
  exact ⟨x, m, l, hd, h3.up u⟩
theorem WAt.lt {w : World} {b : Nat} {n : Int} (h : WAt w b n) : b < w.heap.size := by
  obtain ⟨x, m, l, hd, h3⟩ := h
  exact h3.lt
theorem WAt.zero (w : World) (t : TypeId) : WAt (w.alloc (.cells #[.int .u64 0, .int .u64 0, .int .u64 0] t)) w.heap.size 0 :=
  ⟨0, 0, 0, ⟨⟨by omega, by omega⟩, ⟨by omega, by omega⟩, ⟨by omega, by omega⟩, by rfl⟩, by
    have h := heap_alloc_new w (.cells #[.int .u64 0, .int .u64 0, .int .u64 0] t)
    exact ⟨by rw [size_alloc]; omega, cell_of_row _ _ _ _ _ _ h, cell_of_row _ _ _ _ _ _ h, cell_of_row _ _ _ _ _ _ h, fun o => frozen_of_row _ _ o _ _ h⟩⟩

def lookE (env : List Mono) (s : List UInt8) : Option Int := match env with
  | [] => none
  | m :: r => if m.1.toList == s then some m.2 else lookE r s
def sumE (env : List Mono) : List Mono → Int → Option Int
  | [], a => some a
  | m :: r, a => match lookE env m.1.toList with
    | none => none
    | some v => sumE env r (a + m.2 * v)
def evalR (o : Option Int) : Int × Int := match o with
  | none => (0, 9)
  | some n => if fitB n then (n, 0) else (0, 3)
def evalF (K : Int) (l env : List Mono) : Int × Int := if okL l then evalR (sumE env l K) else (0, 1)

def In64 (x : Int) : Prop := -9223372036854775808 ≤ x ∧ x ≤ 9223372036854775807
def Rng (l : List Mono) : Prop := ∀ k, k < l.length → In64 (l.getD k m0).2

theorem idx_look (s : List UInt8) : ∀ (l : List Mono) (k : Nat), (idxFrom s l k = -1 ∧ lookE l s = none) ∨ (∃ i, i < l.length ∧ idxFrom s l k = ((k + i : Nat) : Int) ∧ lookE l s = some (l.getD i m0).2)
  | [], k => Or.inl ⟨rfl, rfl⟩
  | m :: r, k => by
    unfold idxFrom lookE
    by_cases h : (m.1.toList == s) = true
    · rw [if_pos h, if_pos h]
      exact Or.inr ⟨0, by simp, rfl, rfl⟩
    · rw [if_neg h, if_neg h]
      rcases idx_look s r (k + 1) with ⟨h1, h2⟩ | ⟨i, h1, h2, h3⟩
      · exact Or.inl ⟨h1, h2⟩
      · exact Or.inr ⟨i + 1, by simp; omega, by rw [h2]; omega, h3⟩

theorem mag_range (n : Int) (h : In64 n) : 0 ≤ mag n ∧ mag n < 18446744073709551616 ∧ mag n ≤ 9223372036854775808 := by
  unfold mag; obtain ⟨h1, h2⟩ := h; split <;> omega
theorem sign_mul (b x : Int) : (if decide (b < 0) != decide (x < 0) then -(mag b * mag x) else mag b * mag x) = b * x := by
  unfold mag
  by_cases h1 : b < 0 <;> by_cases h2 : x < 0 <;> simp [h1, h2, Int.neg_mul, Int.mul_neg]
theorem mag_mul_le (b x : Int) (hb : In64 b) (hx : In64 x) : 0 ≤ mag b * mag x ∧ mag b * mag x ≤ 85070591730234615865843651857942052864 := by
  obtain ⟨b0, b1, b2⟩ := mag_range b hb
  obtain ⟨x0, x1, x2⟩ := mag_range x hx
  refine ⟨Int.mul_nonneg b0 x0, ?_⟩
  have h1 : mag b * mag x ≤ 9223372036854775808 * mag x := Int.mul_le_mul_of_nonneg_right b2 x0
  omega
theorem mul_le64 (b x : Int) (hb : In64 b) (hx : In64 x) : -85070591730234615865843651857942052864 ≤ b * x ∧ b * x ≤ 85070591730234615865843651857942052864 := by
  obtain ⟨h1, h2⟩ := mag_mul_le b x hb hx
  have := sign_mul b x
  split at this <;> omega
end Go.Proofs.YtahlecmlhdikjaaDoor
end

section
namespace Go.Proofs.YtahlecmlhdikjaaDoor
set_option linter.unusedSimpArgs false
open Go.ChangeShapes Go.WideShapes Go.ChangeAt Go.RowKit
set_option linter.unusedVariables false

theorem size_drewN (w : World) (n : Nat) : (w.drewN n).heap.size = w.heap.size := rfl

set_option maxHeartbeats 4000000 in
theorem lin_Eval (K : Int) (v ev : Value) (l env : List Mono) (w : World) (hv : MonosAt w v l) (he : MonosAt w ev env) (hK : In64 K) (hl : Rng l) (hen : Rng env) (hlen : l.length ≤ 1000) :
    Calls Tryd.prog 60 #[.agg #[.int .i64 K, v], ev] w fun e w' => e = .returned (.tuple #[.int .i64 (evalF K l env).1, .int .i64 (evalF K l env).2]) ∧ Up w w' := by
  have hmaxe := he.max
  obtain ⟨a, cap, rfl⟩ := hv.slice
  obtain ⟨a', cap', rfl⟩ := he.slice
  obtain ⟨n, hn⟩ : ∃ n, l.length = n := ⟨_, rfl⟩
  obtain ⟨n', hn'⟩ : ∃ n, env.length = n := ⟨_, rfl⟩
  rw [hn] at hv hlen ⊢
  rw [hn'] at he hmaxe ⊢
  have hnI : (n : Int) ≤ 1000 := by omega
  have HV := Lib.hid hv
  have HE := Lib.hid he
  have HN := Lib.hid hn
  have HN' := Lib.hid hn'
  have HK := Lib.hid hK
  have HL := Lib.hid hl
  have HEN := Lib.hid hen
  obtain ⟨q, hq⟩ : ∃ q, okL l = q := ⟨_, rfl⟩
  have HQ := Lib.hid hq
  have HVA : Hid (∀ (K : Int) (w : World) (hv : MonosAt w (.slice a n cap) l), Calls Tryd.prog 45 #[.agg #[.int .i64 K, .slice a n cap]] w fun e w' => e = .returned (.int .i64 (errOf q)) ∧ Up w w') := Lib.hid fun K w hv => by
    have := lin_Validate K (.slice a n cap) l w hv
    rw [hq] at this
    exact this
  have HR : Hid (evalF K l env = if q then evalR (sumE env l K) else (0, 1)) := Lib.hid (by unfold evalF; rw [hq])
  obtain ⟨r, hr⟩ : ∃ r, evalF K l env = r := ⟨_, rfl⟩
  rw [hr] at HR ⊢
  clear hv he hn hn' hK hl hen hq hr
  obtain ⟨k0, k1⟩ := HK.out
  go_enter Tryd.func60, Tryd.ntmps60
  go_wp2_with fail
  refine (HVA.out _ _ (HV.out.up ((Up.refl w).alloc _))).mono ?_
  rintro e x1 ⟨rfl, hx1⟩
  cases q
  · rw [show errOf false = 1 from rfl]
    go_wp2
    go_ret2
    have := HR.out
    exact ⟨ret_ii (by rw [this]; rfl) (by rw [this]; rfl), ((Up.refl w).alloc _).trans hx1⟩
  · rw [show errOf true = 0 from rfl]
    have hs := hx1.size
    rw [size_alloc] at hs
    have b0 : x1.cell? ⟨w.heap.size, 0, none⟩ = some (.int .i64 K) := (hx1.cell _ _ (by rw [size_alloc]; omega)).trans (by go_simp)
    have b1 : x1.cell? ⟨w.heap.size, 1, none⟩ = some (.slice a n cap) := (hx1.cell _ _ (by rw [size_alloc]; omega)).trans (by go_simp)
    have HU1 := Lib.hid (((Up.refl w).alloc (.cells #[.int .i64 K, .slice a n cap] 24)).trans hx1)
    clear hx1
    have q0 : w.heap.size < x1.heap.size := by omega
    have q1 : w.heap.size < x1.heap.size + 1 := by omega
    have q2 : x1.heap.size < x1.heap.size + 1 := by omega
    obtain ⟨m1, m2, m3⟩ := mag_range K HK.out
    obtain ⟨mk, hmk⟩ : ∃ m, mag K = m := ⟨_, rfl⟩
    have HM : Hid (∀ w, Calls Tryd.prog 78 #[.int .i64 K] w fun e w' => e = .returned (.int .u64 mk) ∧ Up w w') := Lib.hid fun w => by
      rw [← hmk]
      exact (lin_magnitude K k0 k1 w).mono fun e w' ⟨h1, h2⟩ => ⟨h1, h2 ▸ Up.refl _⟩
    obtain ⟨neg, hneg⟩ : ∃ g, decide (K < 0) = g := ⟨_, rfl⟩
    have HKS : Hid (K = if neg then (0 : Int) - (0 * 18446744073709551616 + mk) else 0 + (0 * 18446744073709551616 + mk)) := Lib.hid (by
      rw [← hneg, ← hmk]; unfold mag
      by_cases h : K < 0 <;> simp [h])
    rw [hmk] at m1 m2
    clear hmk
    go_wp2_with fail
    refine wp_region_ext_tail 6 (by kernel_rfl) (by kernel_rfl) ?_
    simp only [List.take_succ_cons, List.take_zero, List.drop_succ_cons, List.drop_zero]
    repeat (go_big_quiet_step ((go_at_call 78; exact Calls.ext_of (HM.out _))))
    refine wpQuiet_nil ?_
    intro x2 hx2
    have hw0 := (WAt.zero x1 122).up hx2
    have HU2 := Lib.hid ((HU1.out.alloc (.cells #[.int .u64 0, .int .u64 0, .int .u64 0] 122)).trans hx2)
    have hs2 := hx2.size
    rw [size_alloc] at hs2
    have b1' : x2.cell? ⟨w.heap.size, 1, none⟩ = some (.slice a n cap) := (hx2.cell _ _ (by rw [size_alloc]; omega)).trans ((((Up.refl x1).alloc _).cell _ _ q0).trans b1)
    clear hx2 b0 b1
    try rw [hneg]
    have HW0 := Lib.hid hw0
    clear hw0
    obtain ⟨S, hS⟩ : ∃ S, x1.heap.size = S := ⟨_, rfl⟩
    rw [hS] at q0 q1 q2 hs2 HW0
    try rw [hS]
    clear hS
    go_wp2_with fail
    refine (wide_add neg S 0 mk (by omega) (by omega) (by omega) (by omega) _ _ _ HW0.out HKS.out).mono ?_
    rintro e x3 ⟨rfl, hw3, hb3⟩
    have hs3 := hb3.size
    have HW3 := Lib.hid hw3
    have b3 : x3.cell? ⟨w.heap.size, 1, none⟩ = some (.slice a n cap) := (hb3.cell _ _ (by omega) (by omega)).trans b1'
    have HU3 := Lib.hid (UpBut.up HU2.out (by omega) hb3)
    have hq3 : w.heap.size < x3.heap.size := by omega
    have hq4 : S < x3.heap.size := by omega
    clear hw3 hb3 b1' HW0 HKS HM
    go_wp2
    have HRR : Hid (r = evalR (sumE env l K)) := Lib.hid (by rw [HR.out]; rfl)
    clear HR HVA HU1 HU2
    go_loopw [28] (fun i wr => ∃ (k : Nat) (acc : Int), k ≤ n ∧ i = .int .i64 k ∧ Up w wr ∧ WAt wr S acc ∧ (-9223372036854775808 - (k : Int) * 85070591730234615865843651857942052864 ≤ acc ∧ acc ≤ 9223372036854775808 + (k : Int) * 85070591730234615865843651857942052864) ∧ sumE env (l.drop k) acc = sumE env l K) (fun i _ => n - (intOf i).toNat)
    case atStart => exact ⟨0, K, by omega, rfl, HU3.out, HW3.out, by omega, by rw [List.drop_zero]⟩
    case round =>
      rename_i wr
      obtain ⟨k, acc, hk, rfl, hU, hW, hB, hP⟩ := hrel
      have HP := Lib.hid hP
      have HB := Lib.hid hB
      have HW := Lib.hid hW
      have hsz := hU.size
      have hSl := hW.lt
      clear hP hB hW
      by_cases hlt : k < n
      · have hlt2 : (k : Int) < (n : Int) := by omega
        have hk0 : (0 : Int) ≤ (k : Int) := by omega
        obtain ⟨bl, off, s, b, rfl, p1, p2, p3, p4⟩ := HV.out.elem hU k (by rw [HN.out]; exact hlt) HN.out rfl
        have hrb : In64 b := by
          have := HL.out k (by rw [HN.out]; exact hlt)
          rw [p2] at this; exact this
        have hdrop := drop_mono (by rw [HN.out]; exact hlt) p2
        have HP2 : Hid ((match lookE env s.toList with | none => none | some v => sumE env (l.drop (k + 1)) (acc + b * v)) = sumE env l K) := Lib.hid (by
          rw [← HP.out, hdrop]; rfl)
        clear HP hdrop p2
        have q5 : bl < wr.heap.size := by omega
        have q6 : wr.heap.size < wr.heap.size + 1 := by omega
        obtain ⟨wa, hwa⟩ : ∃ wa, wr.alloc (.cells #[.string s, .int .i64 b] 56) = wa := ⟨_, rfl⟩
        have hUa : Up wr wa := hwa ▸ (Up.refl wr).alloc _
        have hsa : wa.heap.size = wr.heap.size + 1 := by rw [← hwa, size_alloc]
        have d0 : wa.cell? ⟨wr.heap.size, 0, none⟩ = some (.string s) := by rw [← hwa]; exact cell_of_row _ _ _ _ _ _ (heap_alloc_new wr _)
        have d1 : wa.cell? ⟨wr.heap.size, 1, none⟩ = some (.int .i64 b) := by rw [← hwa]; exact cell_of_row _ _ _ _ _ _ (heap_alloc_new wr _)
        obtain ⟨M, hM⟩ : ∃ M, wr.heap.size = M := ⟨_, rfl⟩
        rw [hM] at d0 d1 hsa q5 q6 hSl hsz
        have HM := Lib.hid hM
        have HWA := Lib.hid hwa
        have HUA := Lib.hid hUa
        have HUW := Lib.hid (hU.trans hUa)
        have HI : Hid (∀ (r : Int), idxFrom s.toList env 0 = r → Calls Tryd.prog 92 #[.slice a' n' cap', .func (.func 93) #[] #[.pointer (some ⟨M, 0, none⟩)]] wa fun e w' => e = .returned (.int .i64 r) ∧ Up wa w') := Lib.hid (fun r hr => by
          have := slices_IndexFunc s M _ _ wa (HE.out.up HUW.out) (by omega) d0
          rw [hr] at this
          exact this)
        clear hwa hUa
        rcases idx_look s.toList env 0 with ⟨h1, h2⟩ | ⟨i, h1, h2, h3⟩
        · have HIX := Lib.hid h1
          have HRE : Hid (r = (0, 9)) := Lib.hid (by
            rw [HRR.out, ← HP2.out, h2]; rfl)
          clear h1 h2
          go_wp2_with fail
          try rw [HM.out]
          rw [HWA.out]
          refine (HI.out _ HIX.out).mono ?_
          rintro e x4 ⟨rfl, hx4⟩
          go_wp2
          go_ret2
          exact ⟨ret_ii (by rw [HRE.out]) (by rw [HRE.out]), HUW.out.trans hx4⟩
        · have HIX := Lib.hid h2
          rw [Nat.zero_add] at HIX
          have hin : i < n' := by rw [← HN'.out]; exact h1
          obtain ⟨bl', off', s', x', rfl, e1, e2, e3, e4⟩ := HE.out.elem HUW.out i h1 HN'.out rfl
          have hrx : In64 x' := by
            have := HEN.out i h1
            rw [e2] at this; exact this
          have HP3 : Hid (sumE env (l.drop (k + 1)) (acc + b * x') = sumE env l K) := Lib.hid (by
            rw [← HP2.out, h3, e2])
          clear h1 h2 h3 e2 HP2
          obtain ⟨b0, b1'⟩ := hrb
          obtain ⟨x0, x1'⟩ := hrx
          obtain ⟨mb, hmb⟩ : ∃ m, mag b = m := ⟨_, rfl⟩
          obtain ⟨mx, hmx⟩ : ∃ m, mag x' = m := ⟨_, rfl⟩
          have HMB : Hid (∀ w, Calls Tryd.prog 78 #[.int .i64 b] w fun e w' => e = .returned (.int .u64 mb) ∧ w' = w) := Lib.hid (hmb ▸ lin_magnitude b b0 b1')
          have HMX : Hid (∀ w, Calls Tryd.prog 78 #[.int .i64 x'] w fun e w' => e = .returned (.int .u64 mx) ∧ w' = w) := Lib.hid (hmx ▸ lin_magnitude x' x0 x1')
          obtain ⟨r1, r2, r3⟩ := mag_range b ⟨b0, b1'⟩
          obtain ⟨r4, r5, r6⟩ := mag_range x' ⟨x0, x1'⟩
          obtain ⟨r7, r8⟩ := mag_mul_le b x' ⟨b0, b1'⟩ ⟨x0, x1'⟩
          have hsm := sign_mul b x'
          have hml := mul_le64 b x' ⟨b0, b1'⟩ ⟨x0, x1'⟩
          rw [hmb] at r1 r2 r7 r8 hsm
          rw [hmx] at r4 r5 r7 r8 hsm
          obtain ⟨P, hP⟩ : ∃ P, mb * mx = P := ⟨_, rfl⟩
          obtain ⟨Hi, hHi⟩ : ∃ H, P / 18446744073709551616 = H := ⟨_, rfl⟩
          obtain ⟨Lo, hLo⟩ : ∃ L, P % 18446744073709551616 = L := ⟨_, rfl⟩
          have HPR : Hid (∀ w, Calls Tryd.prog 94 #[.int .u64 mb, .int .u64 mx] w fun e w' => e = .returned (.tuple #[.int .u64 Hi, .int .u64 Lo]) ∧ w' = w) := Lib.hid (fun w => by
            have := lin_product mb mx r1 r2 r4 r5 w
            rw [hP, hHi, hLo] at this
            exact this)
          rw [hP] at r7 r8 hsm
          obtain ⟨neg, hng⟩ : ∃ g, (decide (b < 0) != decide (x' < 0)) = g := ⟨_, rfl⟩
          rw [hng] at hsm
          obtain ⟨acc', hacc⟩ : ∃ t, acc + b * x' = t := ⟨_, rfl⟩
          obtain ⟨bx, hbx⟩ : ∃ t, b * x' = t := ⟨_, rfl⟩
          rw [hacc] at HP3
          rw [hbx] at hacc hsm hml
          have HAD : Hid (acc' = if neg then acc - (Hi * 18446744073709551616 + Lo) else acc + (Hi * 18446744073709551616 + Lo)) := Lib.hid (by
            rw [← hacc, ← hsm]
            cases neg
            · simp; omega
            · simp; omega)
          have hH0 : 0 ≤ Hi ∧ Hi < 18446744073709551616 ∧ 0 ≤ Lo ∧ Lo < 18446744073709551616 := by omega
          have HB2 : Hid (-9223372036854775808 - ((k + 1 : Nat) : Int) * 85070591730234615865843651857942052864 ≤ acc' ∧ acc' ≤ 9223372036854775808 + ((k + 1 : Nat) : Int) * 85070591730234615865843651857942052864) := Lib.hid (by
            have := HB.out
            omega)
          obtain ⟨z1, z2, z3, z4⟩ := hH0
          clear hacc hbx hsm hml r3 r6 r7 r8 hP hHi hLo hmb hmx HB
          have HNG := Lib.hid hng
          have hi0 : (0 : Int) ≤ (i : Int) := by omega
          have hi1 : ¬ (i : Int) < 0 := by omega
          have hi2 : (i : Int) < (n' : Int) := by omega
          have e1' : bl' < w.heap.size := e1
          have hws : w.heap.size < wa.heap.size := by omega
          have HE3 := Lib.hid e3
          have HE4 := Lib.hid e4
          clear e3 e4 e1
          go_wp2_with fail
          try rw [HM.out]
          rw [HWA.out]
          refine (HI.out _ HIX.out).mono ?_
          rintro e x4 ⟨rfl, hx4⟩
          have hs4 := hx4.size
          have c3 : x4.cell? ⟨bl', off' + i * 2 + 1, none⟩ = some (.int .i64 x') := (hx4.cell _ _ (by omega)).trans HE4.out
          have c1 : x4.cell? ⟨M, 1, none⟩ = some (.int .i64 b) := (hx4.cell _ _ (by omega)).trans d1
          have q8 : bl' < x4.heap.size := by omega
          have q9 : M < x4.heap.size := by omega
          have HU4 := Lib.hid (HUW.out.trans hx4)
          have HW4 := Lib.hid ((HW.out.up HUA.out).up hx4)
          clear hx4 d0 d1 HI HIX HW HUA
          go_wp2_with fail
          refine (HMB.out _).mono ?_
          rintro e x5 ⟨rfl, hx5⟩
          replace hx5 := hx5.symm
          subst hx5
          go_wp2_with fail
          refine (HMX.out _).mono ?_
          rintro e x5 ⟨rfl, hx5⟩
          replace hx5 := hx5.symm
          subst hx5
          go_wp2_with fail
          refine (HPR.out _).mono ?_
          rintro e x5 ⟨rfl, hx5⟩
          replace hx5 := hx5.symm
          subst hx5
          go_wp2_with fail
          rw [show (!(decide (b < 0) == decide (x' < 0))) = neg from HNG.out]
          refine (wide_add neg S Hi Lo z1 z2 z3 z4 _ _ _ HW4.out HAD.out).mono ?_
          rintro e x6 ⟨rfl, hw6, hb6⟩
          have HU6 := Lib.hid (UpBut.up HU4.out (by omega) hb6)
          have HW6 := Lib.hid hw6
          clear hw6 hb6
          go_wp2
          go_roundw
          case rel => exact ⟨k + 1, acc', by omega, by go_num, HU6.out, HW6.out, HB2.out, HP3.out⟩
          case measure => simp [intOf]; omega
      · have hlt2 : (n : Int) ≤ (k : Int) := by omega
        have HRE : Hid (r = evalR (some acc)) := Lib.hid (by
          rw [HRR.out, ← HP.out, List.drop_eq_nil_of_le (by rw [HN.out]; omega)]; rfl)
        have hB := HB.out
        clear HP HRR
        go_wp2_with fail
        refine (wide_narrow S acc _ HW.out (by omega) (by omega)).mono ?_
        rintro e x4 ⟨x, rfl, hx, hx4⟩
        have hxx := hx
        obtain ⟨f, hf⟩ : ∃ f, fitB acc = f := ⟨_, rfl⟩
        rw [hf] at hxx
        have HRF : Hid (r = if f then (acc, 0) else (0, 3)) := Lib.hid (by rw [HRE.out, ← hf]; rfl)
        rw [hf]
        clear hx
        cases f
        · go_wp2
          go_ret2
          exact ⟨ret_ii (by rw [HRF.out]; rfl) (by rw [HRF.out]; rfl), hU.trans hx4⟩
        · obtain rfl := hxx rfl
          go_wp2
          go_ret2
          exact ⟨ret_ii (by rw [HRF.out]; rfl) (by rw [HRF.out]; rfl), hU.trans hx4⟩
end Go.Proofs.YtahlecmlhdikjaaDoor
end

section
namespace Go.Proofs.YtahlecmlhdikjaaDoor
set_option linter.unusedSimpArgs false
open Go.ChangeShapes Go.WideShapes Go.ChangeAt Go.RowKit
set_option linter.unusedVariables false

def eqForm (K K' : Int) (l l' : List Mono) : Bool := decide (K = K') && eqM l l'

theorem lin_Same (K K' : Int) (v v' : Value) (l l' : List Mono) (w : World) (hv : MonosAt w v l) (hv' : MonosAt w v' l') :
    Calls Tryd.prog 56 #[.agg #[.int .i64 K, v], .agg #[.int .i64 K', v']] w fun e w' => e = .returned (.bool (eqForm K K' l l')) ∧ Up w w' := by
  obtain ⟨r, hr⟩ : ∃ r, eqM l l' = r := ⟨_, rfl⟩
  unfold eqForm
  rw [hr]
  have HV := Lib.hid hv
  have HV' := Lib.hid hv'
  have HR := Lib.hid hr
  obtain ⟨a, cap, rfl⟩ := hv.slice
  obtain ⟨a', cap', rfl⟩ := hv'.slice
  obtain ⟨n, hn⟩ : ∃ n, l.length = n := ⟨_, rfl⟩
  obtain ⟨n', hn'⟩ : ∃ n', l'.length = n' := ⟨_, rfl⟩
  rw [hn] at HV ⊢
  rw [hn'] at HV' ⊢
  clear hv hv' hr hn hn'
  by_cases hk : K = K'
  · subst hk
    go_enter Tryd.func56, Tryd.ntmps56
    go_wp2_with fail
    refine (slices_EqualM _ _ _ _ _ (HV.out.up (((Up.refl w).alloc _).alloc _)) (HV'.out.up (((Up.refl w).alloc _).alloc _))).mono ?_
    rintro e x ⟨rfl, hx⟩
    rw [HR.out]
    go_wp2
    go_ret
    exact ⟨ret_bool (by simp), (((Up.refl w).alloc _).alloc _).trans hx⟩
  · have h1 : (K == K') = false := by simpa using hk
    go_enter Tryd.func56, Tryd.ntmps56
    go_wp2
    go_ret
    exact ⟨ret_bool (by simp [hk]), (((Up.refl w).alloc _).alloc _)⟩

set_option maxHeartbeats 2000000 in
theorem base_Lin (K K' : Int) (v v' : Value) (l l' : List Mono) (w : World) (hv : MonosAt w v l) (hv' : MonosAt w v' l') :
    Calls Tryd.prog 44 #[.agg #[.int .i64 K, v], .agg #[.int .i64 K', v']] w fun e w' => e = .returned (.bool (eqForm K K' l l')) ∧ Up w w' := by
  have hmax := hv.max
  have hmax' := hv'.max
  obtain ⟨r, hr⟩ : ∃ r, eqM l l' = r := ⟨_, rfl⟩
  unfold eqForm
  rw [hr]
  obtain ⟨a, cap, rfl⟩ := hv.slice
  obtain ⟨a', cap', rfl⟩ := hv'.slice
  obtain ⟨n, hn⟩ : ∃ n, l.length = n := ⟨_, rfl⟩
  obtain ⟨n', hn'⟩ : ∃ n', l'.length = n' := ⟨_, rfl⟩
  rw [hn] at hv hmax ⊢
  rw [hn'] at hv' hmax' ⊢
  have HV := Lib.hid hv
  have HV' := Lib.hid hv'
  have HN := Lib.hid hn
  have HN' := Lib.hid hn'
  have HR := Lib.hid hr
  clear hr hn hv hv' hn'
  by_cases hk : K = K'
  · subst hk
    rw [show decide (K = K) = true by simp, Bool.true_and]
    by_cases hnn : n = n'
    · subst hnn
      go_enter Tryd.func44, Tryd.ntmps44
      go_wp2
      obtain ⟨W1, hW1⟩ : ∃ W1, (w.alloc (.cells #[.int .i64 K, .slice a n cap] 24)).alloc (.cells #[.int .i64 K, .slice a' n cap'] 24) = W1 := ⟨_, rfl⟩
      obtain ⟨B, hB⟩ : ∃ B, w.heap.size = B := ⟨_, rfl⟩
      have hrow : W1.heap[B]? = some (.cells #[.int .i64 K, .slice a n cap] 24 (0, 0)) := by
        rw [← hW1, ← hB]; exact (Below.heap_alloc _ _ _ (by rw [size_alloc]; omega)).trans (heap_alloc_new w _)
      have hrow' : W1.heap[B + 1]? = some (.cells #[.int .i64 K, .slice a' n cap'] 24 (0, 0)) := by
        rw [← hW1, ← hB]
        have := heap_alloc_new (w.alloc (.cells #[.int .i64 K, .slice a n cap] 24)) (.cells #[.int .i64 K, .slice a' n cap'] 24)
        rw [size_alloc] at this
        exact this
      have hsz1 : W1.heap.size = B + 1 + 1 := by rw [← hW1, size_alloc, size_alloc, hB]
      have HU1 : Hid (Up w W1) := Lib.hid (hW1 ▸ ((Up.refl w).alloc _).alloc _)
      rw [hW1]
      have HROW := Lib.hid hrow
      have HROW' := Lib.hid hrow'
      clear hrow hrow' hW1
      rw [hB]
      have HB := Lib.hid hB
      clear hB
      go_loopw [5] (fun i wr => ∃ k : Nat, k ≤ n ∧ i = .int .i64 k ∧ Up W1 wr ∧ eqM (l.drop k) (l'.drop k) = r) (fun i _ => n - (intOf i).toNat)
      case atStart => exact ⟨0, by omega, rfl, Up.refl _, by rw [List.drop_zero, List.drop_zero]; exact HR.out⟩
      case round =>
        rename_i wr
        obtain ⟨k, hk, rfl, hU1, hP⟩ := hrel
        have hU := HU1.out.trans hU1
        have HP := Lib.hid hP
        clear hP
        have d1 : wr.cell? ⟨B, 1, none⟩ = some (.slice a n cap) := (hU1.cell _ _ (by omega)).trans (cell_of_row _ _ _ _ _ _ HROW.out)
        have d2 : wr.cell? ⟨B + 1, 1, none⟩ = some (.slice a' n cap') := (hU1.cell _ _ (by omega)).trans (cell_of_row _ _ _ _ _ _ HROW'.out)
        have hs1 := hU1.size
        have q3 : B < wr.heap.size := by omega
        have q4 : B + 1 < wr.heap.size := by omega
        by_cases hlt : k < n
        · have hlt2 : (k : Int) < (n : Int) := by omega
          have hk0 : (0 : Int) ≤ (k : Int) := by omega
          obtain ⟨bl, off, s, b, rfl, p1, p2, p3, p4⟩ := HV.out.elem hU k (by rw [HN.out]; exact hlt) HN.out rfl
          obtain ⟨bl', off', s', b', rfl, p1', p2', p3', p4'⟩ := HV'.out.elem hU k (by rw [HN'.out]; exact hlt) HN'.out rfl
          have hs := hU.size
          have q1 : bl < wr.heap.size := by omega
          have q2 : bl' < wr.heap.size := by omega
          have HP2 : Hid ((decide (s = s') && decide (b = b') && eqM (l.drop (k + 1)) (l'.drop (k + 1))) = r) := Lib.hid (by
            rw [← HP.out, drop_mono (by rw [HN.out]; exact hlt) p2, drop_mono (l := l') (by rw [HN'.out]; exact hlt) p2', eqM_cons])
          clear p2 p2' HP
          by_cases hss : s = s'
          · subst hss
            by_cases hbb : b = b'
            · subst hbb
              have HG : Hid (eqM (l.drop (k + 1)) (l'.drop (k + 1)) = r) := Lib.hid (by rw [← HP2.out]; simp)
              go_wp2_with fail
              refine wp_region_ext (by kernel_rfl) (by kernel_rfl) ?_
              repeat (go_big_quiet_step (fail))
              refine wpQuiet_nil ?_
              intro x hx
              go_wp2
              go_roundw
              case rel => exact ⟨k + 1, by omega, by go_num, hU1.trans hx, HG.out⟩
              case measure => simp [intOf]; omega
            · have hb2 : (b == b') = false := by simpa using hbb
              have HG : Hid (false = r) := Lib.hid (by rw [← HP2.out]; simp [hbb])
              go_wp2_with fail
              refine wp_region_ext (by kernel_rfl) (by kernel_rfl) ?_
              repeat (go_big_quiet_step (fail))
              refine wpQuiet_nil ?_
              intro x hx
              go_wp2
              go_ret
              exact ⟨ret_bool HG.out, hU.trans hx⟩
          · have hs2 : (s.toList == s'.toList) = false := by simpa using fun e => hss (toList_inj e)
            have HG : Hid (false = r) := Lib.hid (by rw [← HP2.out]; simp [hss])
            go_wp2_with fail
            refine wp_region_ext (by kernel_rfl) (by kernel_rfl) ?_
            repeat (go_big_quiet_step (fail))
            refine wpQuiet_nil ?_
            intro x hx
            go_wp2
            go_ret
            exact ⟨ret_bool HG.out, hU.trans hx⟩
        · have hlt2 : (n : Int) ≤ (k : Int) := by omega
          obtain rfl : r = true := by rw [← HP.out, List.drop_eq_nil_of_le (by rw [HN.out]; omega), List.drop_eq_nil_of_le (by rw [HN'.out]; omega)]; rfl
          go_wp2
          go_ret
          exact ⟨rfl, hU⟩
    · have h1 : ((n : Int) == (n' : Int)) = false := by simpa using (by omega : ¬ (n : Int) = (n' : Int))
      have HG : Hid (false = r) := Lib.hid (by rw [← HR.out, eqM_len (by rw [HN.out, HN'.out]; exact hnn)])
      go_enter Tryd.func44, Tryd.ntmps44
      go_wp2
      go_ret
      exact ⟨ret_bool HG.out, (((Up.refl w).alloc _).alloc _)⟩
  · have h1 : (K == K') = false := by simpa using hk
    go_enter Tryd.func44, Tryd.ntmps44
    go_wp2
    go_ret
    exact ⟨ret_bool (by simp [hk]), (((Up.refl w).alloc _).alloc _)⟩

def varL (s : ByteArray) : List Mono := if nameB s.toList then [(s, 1)] else []
theorem monos_nil (w : World) : MonosAt w (.slice none 0 0) [] := SlAt.nil w 2 _
theorem monos_one (w : World) (t : TypeId) (s : ByteArray) (b : Int) : MonosAt (w.alloc (.cells #[.string s, .int .i64 b] t)) (.slice (some ⟨w.heap.size, 0, none⟩) 1 1) [(s, b)] :=
  SlAt.new w t _ 1 2 _ (by decide) fun i j hi hj => by
    obtain rfl : i = 0 := by omega
    rcases (by omega : j = 0 ∨ j = 1) with rfl | rfl <;> rfl

end Go.Proofs.YtahlecmlhdikjaaDoor
end

section
namespace Go.Proofs.YtahlecmlhdikjaaDoor
set_option linter.unusedSimpArgs false
open Go.ChangeShapes Go.WideShapes Go.ChangeAt Go.RowKit Go.Joins Go.Deep
set_option linter.unusedVariables false

def intAt (w : World) (b o : Nat) : Int := match w.cell? ⟨b, o, none⟩ with
  | some (.int _ n) => n
  | _ => 0
def strAt (w : World) (b o : Nat) : ByteArray := match w.cell? ⟨b, o, none⟩ with
  | some (.string s) => s
  | _ => ⟨#[]⟩
def monosOf (w : World) (b o len : Nat) : List Mono := (List.range len).map fun i => (strAt w b (o + i * 2), intAt w b (o + i * 2 + 1))
theorem monosOf_get (w : World) (b o len i : Nat) (hi : i < len) : (monosOf w b o len).getD i m0 = (strAt w b (o + i * 2), intAt w b (o + i * 2 + 1)) := by
  unfold monosOf
  rw [List.getD_eq_getElem?_getD, List.getElem?_map, List.getElem?_range hi]; rfl

theorem in64_wf {n : Int} (h : (Lit.int .i64 n).wf = true) : In64 n := by
  have e1 : IntKind.i64.min = -9223372036854775808 := rfl
  have e2 : IntKind.i64.max = 9223372036854775807 := rfl
  simp [Lit.wf] at h
  unfold In64
  omega

/-- A list of monomials (or of bindings) as an argument. -/
def CapOk (v : Value) : Prop := ∃ a n c, v = .slice a n c ∧ n ≤ c
def MonosArg (w : World) (v : Value) (l : List Mono) : Prop := MonosAt w v l ∧ Rng l ∧ (∀ k, k < l.length → (l.getD k m0).1.size ≤ maxLen) ∧ CapOk v

theorem monos_arg {w : World} {b o len cap : Nat} (hlc : len ≤ cap) (hmax : len ≤ 9223372036854775807) (hlt : b < w.heap.size)
    (key : ∀ i, i < len → ∃ (s : ByteArray) (n : Int), (w.cell? ⟨b, o + i * 2, none⟩ = some (.string s) ∧ w.cell? ⟨b, o + i * 2 + 1, none⟩ = some (.int .i64 n)) ∧ s.size ≤ maxLen ∧ In64 n) :
    MonosArg w (.slice (some ⟨b, o, none⟩) len cap) (monosOf w b o len) := by
  have hlen : (monosOf w b o len).length = len := by simp [monosOf]
  have hk : ∀ i, i < len → w.cell? ⟨b, o + i * 2, none⟩ = some (.string ((monosOf w b o len).getD i m0).1) ∧ w.cell? ⟨b, o + i * 2 + 1, none⟩ = some (.int .i64 ((monosOf w b o len).getD i m0).2) ∧ ((monosOf w b o len).getD i m0).1.size ≤ maxLen ∧ In64 ((monosOf w b o len).getD i m0).2 := fun i hi => by
    obtain ⟨s, n, ⟨h1, h2⟩, h3, h4⟩ := key i hi
    rw [monosOf_get _ _ _ _ _ hi]
    have e1 : strAt w b (o + i * 2) = s := by unfold strAt; rw [h1]
    have e2 : intAt w b (o + i * 2 + 1) = n := by unfold intAt; rw [h2]
    rw [e1, e2]
    exact ⟨h1, h2, h3, h4⟩
  refine ⟨?_, fun k hk' => (hk k (by omega)).2.2.2, fun k hk' => (hk k (by omega)).2.2.1, _, _, _, rfl, hlc⟩
  unfold MonosAt
  rw [hlen]
  refine ⟨⟨some ⟨b, o, none⟩, cap, rfl, (fun e => nomatch e), fun x hx _ => ?_⟩, hmax⟩
  cases hx
  refine ⟨rfl, hlt, fun i j hi hj => ?_⟩
  rcases (by omega : j = 0 ∨ j = 1) with rfl | rfl
  · exact (hk i hi).1
  · exact (hk i hi).2.1

theorem cellsMono : Tryd.prog.cellsOf 56 = 2 := by kernel_rfl

set_option maxRecDepth 100000 in
theorem trod_Monos {H : Type} {enc : TypeId × Value → H} {w : World} {base : Nat} {spare : Nat → Bool} {held : Bool} {fuel : Nat} {cs : List Value} {x : DataW H × List MemPlace}
    (hf : DataW.trod enc Tryd.prog w base spare held fuel 22 cs = some x) : ∃ v l, cs = [v] ∧ MonosArg w v l := by
  rcases open_slice Tryd.underlying22 hf with ⟨hcs, _⟩ | ⟨a, len, cap, m, n, D, Pl, hcs, hb, hl, hm, hmm, hx, hi⟩
  · exact ⟨_, [], hcs, SlAt.nil w 2 _, fun k hk => absurd hk (by simp), fun k hk => absurd hk (by simp), _, _, _, rfl, Nat.le_refl _⟩
  · rw [cellsMono] at hi
    have hlm : len ≤ m := by rw [hmm]; split <;> omega
    have key : ∀ i, i < len → (∃ s : ByteArray, w.cell? (a.add (i * 2)) = some (.string s) ∧ s.size ≤ maxLen) ∧ (∃ n, w.cell? (a.add (i * 2 + 1)) = some (.int .i64 n) ∧ (Lit.int .i64 n).wf = true) := by
      intro i hil
      obtain ⟨cs', hc, ht⟩ := hi i (by omega)
      obtain ⟨ys, n', hn', hy, hlen, hyl, hg⟩ := DataW.trod_struct Tryd.underlying56 ht
      obtain ⟨_, hcl, hat⟩ := World.cells?_some hc
      have hyl2 : ys.length = 2 := hyl
      constructor
      · have hcell := hat 0 (by omega)
        have hv : cs'[0]? = some (cs'[0]'(by omega)) := List.getElem?_eq_getElem (by omega)
        rw [Go.Deep.add_add, hv, Nat.add_zero] at hcell
        have one : (cs'.drop 0).take 1 = [cs'[0]'(by omega)] := by
          rw [List.drop_eq_getElem_cons (by omega)]; rfl
        have hys : ys[0]? = some (ys[0]'(by omega)) := List.getElem?_eq_getElem _
        have := hg 0 _ rfl
        obtain ⟨s, e, _, hw⟩ := DataW.trod_string Tryd.underlying9 ((congrArg _ one.symm).trans (this.trans hys))
        exact ⟨s, by rw [hcell]; simpa using e, hw⟩
      · have hcell := hat 1 (by omega)
        have hv : cs'[1]? = some (cs'[1]'(by omega)) := List.getElem?_eq_getElem (by omega)
        rw [Go.Deep.add_add, hv] at hcell
        have one : (cs'.drop 1).take 1 = [cs'[1]'(by omega)] := by
          rw [List.drop_eq_getElem_cons (by omega)]; rfl
        have hys : ys[1]? = some (ys[1]'(by omega)) := List.getElem?_eq_getElem _
        have := hg 1 _ rfl
        obtain ⟨s, e, _, hw⟩ := DataW.trod_int Tryd.underlying2 ((congrArg _ one.symm).trans (this.trans hys))
        exact ⟨s, by rw [hcell]; simpa using e, hw⟩
    by_cases h0 : len = 0
    · subst h0
      exact ⟨_, [], hcs, ⟨⟨some a, cap, rfl, (fun e => nomatch e), fun x hx hl => absurd hl (by decide)⟩, by decide⟩, fun k hk => absurd hk (by simp), fun k hk => absurd hk (by simp), _, _, _, rfl, hl⟩
    · have hs : a.spot = none := by
        obtain ⟨⟨n, hn, _⟩, _⟩ := key 0 (by omega)
        have := World.cell?_spot hn
        simpa [Addr.add] using this
      obtain ⟨b, o, sp⟩ := a
      have hs' : sp = none := hs
      subst hs'
      have hlt : b < w.heap.size := by
        obtain ⟨⟨n, hn, _⟩, _⟩ := key 0 (by omega)
        rw [add_lit_ne] at hn
        exact World.block_lt_of_cell? _ _ hn
      have key2 : ∀ i, i < len → ∃ (s : ByteArray) (n : Int), (w.cell? ⟨b, o + i * 2, none⟩ = some (.string s) ∧ w.cell? ⟨b, o + i * 2 + 1, none⟩ = some (.int .i64 n)) ∧ s.size ≤ maxLen ∧ In64 n := fun i hi => by
        obtain ⟨⟨s, h1, h2⟩, ⟨n, h3, h4⟩⟩ := key i hi
        rw [add_lit_ne] at h1 h3
        exact ⟨s, n, ⟨h1, by rw [show o + i * 2 + 1 = o + (i * 2 + 1) by omega]; exact h3⟩, h2, in64_wf h4⟩
      refine ⟨_, monosOf w b o len, hcs, ?_⟩
      exact monos_arg hl (by have : maxLen = 9223372036854775807 := rfl; omega) hlt key2

theorem cellsBind : Tryd.prog.cellsOf 126 = 2 := by kernel_rfl

set_option maxRecDepth 100000 in
theorem trod_Binds {H : Type} {enc : TypeId × Value → H} {w : World} {base : Nat} {spare : Nat → Bool} {held : Bool} {fuel : Nat} {cs : List Value} {x : DataW H × List MemPlace}
    (hf : DataW.trod enc Tryd.prog w base spare held fuel 35 cs = some x) : ∃ v l, cs = [v] ∧ MonosArg w v l := by
  rcases open_slice Tryd.underlying35 hf with ⟨hcs, _⟩ | ⟨a, len, cap, m, n, D, Pl, hcs, hb, hl, hm, hmm, hx, hi⟩
  · exact ⟨_, [], hcs, SlAt.nil w 2 _, fun k hk => absurd hk (by simp), fun k hk => absurd hk (by simp), _, _, _, rfl, Nat.le_refl _⟩
  · rw [cellsBind] at hi
    have hlm : len ≤ m := by rw [hmm]; split <;> omega
    have key : ∀ i, i < len → (∃ s : ByteArray, w.cell? (a.add (i * 2)) = some (.string s) ∧ s.size ≤ maxLen) ∧ (∃ n, w.cell? (a.add (i * 2 + 1)) = some (.int .i64 n) ∧ (Lit.int .i64 n).wf = true) := by
      intro i hil
      obtain ⟨cs', hc, ht⟩ := hi i (by omega)
      obtain ⟨ys, n', hn', hy, hlen, hyl, hg⟩ := DataW.trod_struct Tryd.underlying126 ht
      obtain ⟨_, hcl, hat⟩ := World.cells?_some hc
      have hyl2 : ys.length = 2 := hyl
      constructor
      · have hcell := hat 0 (by omega)
        have hv : cs'[0]? = some (cs'[0]'(by omega)) := List.getElem?_eq_getElem (by omega)
        rw [Go.Deep.add_add, hv, Nat.add_zero] at hcell
        have one : (cs'.drop 0).take 1 = [cs'[0]'(by omega)] := by
          rw [List.drop_eq_getElem_cons (by omega)]; rfl
        have hys : ys[0]? = some (ys[0]'(by omega)) := List.getElem?_eq_getElem _
        have := hg 0 _ rfl
        obtain ⟨s, e, _, hw⟩ := DataW.trod_string Tryd.underlying9 ((congrArg _ one.symm).trans (this.trans hys))
        exact ⟨s, by rw [hcell]; simpa using e, hw⟩
      · have hcell := hat 1 (by omega)
        have hv : cs'[1]? = some (cs'[1]'(by omega)) := List.getElem?_eq_getElem (by omega)
        rw [Go.Deep.add_add, hv] at hcell
        have one : (cs'.drop 1).take 1 = [cs'[1]'(by omega)] := by
          rw [List.drop_eq_getElem_cons (by omega)]; rfl
        have hys : ys[1]? = some (ys[1]'(by omega)) := List.getElem?_eq_getElem _
        have := hg 1 _ rfl
        obtain ⟨s, e, _, hw⟩ := DataW.trod_int Tryd.underlying2 ((congrArg _ one.symm).trans (this.trans hys))
        exact ⟨s, by rw [hcell]; simpa using e, hw⟩
    by_cases h0 : len = 0
    · subst h0
      exact ⟨_, [], hcs, ⟨⟨some a, cap, rfl, (fun e => nomatch e), fun x hx hl => absurd hl (by decide)⟩, by decide⟩, fun k hk => absurd hk (by simp), fun k hk => absurd hk (by simp), _, _, _, rfl, hl⟩
    · have hs : a.spot = none := by
        obtain ⟨⟨n, hn, _⟩, _⟩ := key 0 (by omega)
        have := World.cell?_spot hn
        simpa [Addr.add] using this
      obtain ⟨b, o, sp⟩ := a
      have hs' : sp = none := hs
      subst hs'
      have hlt : b < w.heap.size := by
        obtain ⟨⟨n, hn, _⟩, _⟩ := key 0 (by omega)
        rw [add_lit_ne] at hn
        exact World.block_lt_of_cell? _ _ hn
      have key2 : ∀ i, i < len → ∃ (s : ByteArray) (n : Int), (w.cell? ⟨b, o + i * 2, none⟩ = some (.string s) ∧ w.cell? ⟨b, o + i * 2 + 1, none⟩ = some (.int .i64 n)) ∧ s.size ≤ maxLen ∧ In64 n := fun i hi => by
        obtain ⟨⟨s, h1, h2⟩, ⟨n, h3, h4⟩⟩ := key i hi
        rw [add_lit_ne] at h1 h3
        exact ⟨s, n, ⟨h1, by rw [show o + i * 2 + 1 = o + (i * 2 + 1) by omega]; exact h3⟩, h2, in64_wf h4⟩
      refine ⟨_, monosOf w b o len, hcs, ?_⟩
      exact monos_arg hl (by have : maxLen = 9223372036854775807 := rfl; omega) hlt key2

set_option maxRecDepth 100000 in
theorem open_Env {H : Type} {enc : TypeId × Value → H} {w : World} {base : Nat} {spare : Nat → Bool} {held : Bool} {r : Reach} {b0 : Nat} {v : Value} {d : DataW H} {p : List MemPlace}
    (hv : Value.okWide Tryd.prog w r b0 35 v) (h : DataW.Trod enc Tryd.prog w base spare held 35 v d p) : ∃ l, MonosArg w v l := by
  obtain ⟨a0, len, cap, rfl⟩ := okWide_slice Tryd.underlying35 hv
  obtain ⟨fuel, hf⟩ := h
  obtain ⟨v, l, hcs, hl⟩ := trod_Binds hf
  simp only [Value.cells, List.cons.injEq, and_true] at hcs
  subst hcs
  exact ⟨l, hl⟩

def LinArg (w : World) (v : Value) (K : Int) (l : List Mono) : Prop := ∃ lv, v = .agg #[.int .i64 K, lv] ∧ MonosArg w lv l ∧ In64 K
theorem cellsLin : Tryd.prog.cellsOf 24 = 2 := by kernel_rfl

set_option maxRecDepth 100000 in
theorem trod_Lin {H : Type} {enc : TypeId × Value → H} {w : World} {base : Nat} {spare : Nat → Bool} {held : Bool} {fuel : Nat} {c0 c1 : Value} {x : DataW H × List MemPlace}
    (hf : DataW.trod enc Tryd.prog w base spare held fuel 24 [c0, c1] = some x) : ∃ K l, LinArg w (.agg #[c0, c1]) K l := by
  obtain ⟨xs, n, _, hx, _, hlen, hg⟩ := DataW.trod_struct Tryd.underlying24 hf
  have hl : xs.length = 2 := hlen
  obtain ⟨K, e0, _, hw⟩ := DataW.trod_int Tryd.underlying2 ((hg 0 _ rfl).trans (List.getElem?_eq_getElem (by omega : 0 < xs.length)))
  obtain ⟨lv, l, e1, hm⟩ := trod_Monos ((hg 1 _ rfl).trans (List.getElem?_eq_getElem (by omega : 1 < xs.length)))
  have e0' : [c0] = [.int .i64 K] := e0
  have e1' : [c1] = [lv] := e1
  simp only [List.cons.injEq, and_true] at e0' e1'
  subst e0' e1'
  exact ⟨K, l, _, rfl, hm, in64_wf hw⟩

set_option maxRecDepth 100000 in
theorem open_Lin {H : Type} {enc : TypeId × Value → H} {w : World} {base : Nat} {spare : Nat → Bool} {held : Bool} {r : Reach} {b0 : Nat} {v : Value} {d : DataW H} {p : List MemPlace}
    (hv : Value.okWide Tryd.prog w r b0 24 v) (h : DataW.Trod enc Tryd.prog w base spare held 24 v d p) : ∃ x : Int × List Mono, LinArg w v x.1 x.2 := by
  obtain ⟨cs, rfl, hsz⟩ := okWide_struct Tryd.underlying24 hv
  obtain ⟨l⟩ := cs
  match l, hsz.trans cellsLin with
  | [c0, c1], _ =>
    obtain ⟨fuel, hf⟩ := h
    obtain ⟨K, l, hl⟩ := trod_Lin hf
    exact ⟨(K, l), hl⟩
end Go.Proofs.YtahlecmlhdikjaaDoor
end
