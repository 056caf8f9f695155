/-
  Joined by a program: Dg1, Dg2.
-/
import Derived.Test.YtpccaifhcmcegaaGreatDg0
import Derived.Test.YtpccaifhcmcegaaGreatHc
import Derived.Deep.Cut
import Derived.BigRegion

section
namespace Go.Proofs.YtpccaifhcmcegaaGreat
set_option linter.unusedSimpArgs false
open Go.ChangeShapes Go.WideShapes Go.ChangeAt Go.RowKit
set_option linter.unusedVariables false
set_option maxRecDepth 100000

/-- An element's cells. -/
theorem LsAt.elem {α : Type} {k B : Nat} {R : Rel α} {w : World} {a : Option Addr} {n c : Nat} {l : List α} (h : LsAt k B R w (.slice a n c) l) (i : Nat) (hi : i < l.length) :
    ∃ (g o : Nat) (f : Nat → Value), a = some ⟨g, o, none⟩ ∧ g < w.heap.size ∧ (∀ j, j < k → w.cell? ⟨g, o + i * k + j, none⟩ = some (f j)) ∧ R w f l[i] := by
  obtain ⟨⟨a', c', e, _⟩, _, F, ⟨⟨a2, c2, e2, _, hx⟩, _⟩, hR⟩ := h
  cases e; cases e2
  cases a with
  | none =>
    rename_i h0
    exact absurd (h0 rfl) (by omega)
  | some x =>
    obtain ⟨b, o, sp⟩ := x
    obtain ⟨g1, g2, g3⟩ := hx ⟨b, o, sp⟩ rfl (by omega)
    have g1' : sp = none := g1
    subst g1'
    exact ⟨b, o, F i, rfl, g2, fun j hj => g3 i j hi hj, hR i hi⟩
theorem LsAt.shape {α : Type} {k B : Nat} {R : Rel α} {w : World} {v : Value} {l : List α} (h : LsAt k B R w v l) : ∃ a c, v = .slice a l.length c ∧ l.length ≤ c := h.1
theorem LsAt.str {w : World} {a : Option Addr} {n c : Nat} {l : List ByteArray} (h : LsAt 1 16 strR w (.slice a n c) l) (i : Nat) (hi : i < l.length) :
    ∃ (g o : Nat), a = some ⟨g, o, none⟩ ∧ g < w.heap.size ∧ w.cell? ⟨g, o + i, none⟩ = some (.string l[i]) ∧ l[i].size ≤ maxLen := by
  obtain ⟨g, o, f, h1, h2, h3, h4, h5⟩ := h.elem i hi
  have := h3 0 (by decide)
  rw [Nat.mul_one, Nat.add_zero, h4] at this
  exact ⟨g, o, h1, h2, this, h5⟩
theorem cell_up' {w w' : World} (h : Up w w') {g o : Nat} {v : Value} (hg : g < w.heap.size) (hc : w.cell? ⟨g, o, none⟩ = some v) : w'.cell? ⟨g, o, none⟩ = some v := (h.cell g o hg).trans hc
theorem tl_eq (a b : ByteArray) : (a.toList == b.toList) = decide (a = b) := by
  rw [Lib.toList_data, Lib.toList_data]
  by_cases h : a = b
  · subst h; simp
  · have : ¬ a.data.toList = b.data.toList := fun e => h (by
      obtain ⟨⟨x⟩⟩ := a
      obtain ⟨⟨y⟩⟩ := b
      exact congrArg (fun l => ByteArray.mk (Array.mk l)) e)
    rw [beq_eq_false_iff_ne.2 this, decide_eq_false h]
theorem drop_eq {α : Type} {l : List α} {i n : Nat} (hn : l.length = n) (hi : i < n) : l.drop i = l[i]'(by omega) :: l.drop (i + 1) := List.drop_eq_getElem_cons (by omega)
/-- Two lists of texts, from place i on. -/
theorem eq_drop {α : Type} {a b : List α} {i n : Nat} (ha : a.length = n) (hb : b.length = n) (hi : i < n) : (a.drop i = b.drop i) ↔ (a[i]'(by omega) = b[i]'(by omega) ∧ a.drop (i + 1) = b.drop (i + 1)) := by
  rw [drop_eq ha hi, drop_eq hb hi, List.cons.injEq]

set_option maxHeartbeats 2000000 in
theorem base_Strings (va vb : Value) (a b : List ByteArray) (w : World) (ha : LsAt 1 16 strR w va a) (hb : LsAt 1 16 strR w vb b) (r : Bool) (hr : decide (a = b) = r) :
    Calls Tryz.prog 14 #[va, vb] w fun e w' => e = .returned (.bool r) ∧ Up w w' := by
  obtain ⟨aa, ac, rfl, _⟩ := ha.shape
  obtain ⟨ba, bc, rfl, _⟩ := hb.shape
  obtain ⟨n, hn⟩ : ∃ n, a.length = n := ⟨_, rfl⟩
  obtain ⟨m, hm⟩ : ∃ n, b.length = n := ⟨_, rfl⟩
  rw [hn] at ha ⊢
  rw [hm] at hb ⊢
  have hnb : n ≤ 9223372036854775807 := hn ▸ ha.max
  have HA := Lib.hid ha
  have HB := Lib.hid hb
  have HN := Lib.hid hn
  have HM := Lib.hid hm
  have HR := Lib.hid hr
  clear ha hb hn hm hr
  by_cases hnm : n = m
  · subst hnm
    have hq : ((n : Int) == n) = true := by simp
    have HR0 : Hid (decide (a.drop 0 = b.drop 0) = r) := Lib.hid (by rw [List.drop_zero, List.drop_zero]; exact HR.out)
    go_enter Tryz.func14, Tryz.ntmps14
    go_wp2
    go_loopw [5] (fun iv wr => ∃ i : Nat, i ≤ n ∧ iv = .int .i64 i ∧ Up w wr ∧ decide (a.drop i = b.drop i) = r) (fun iv _ => n - (intOf iv).toNat)
    case atStart => exact ⟨0, by omega, rfl, Up.refl _, HR0.out⟩
    case round =>
      rename World => wr
      obtain ⟨i, hi, rfl, hw, hP⟩ := hrel
      have HU := Lib.hid hw
      have HP := Lib.hid hP
      clear hP HR0 HR hw
      by_cases hlt : i < n
      · have hltI : (i : Int) < n := by omega
        obtain ⟨g1, o1, rfl, hg1, hc1, _⟩ := HA.out.str i (by rw [HN.out]; exact hlt)
        obtain ⟨g2, o2, rfl, hg2, hc2, _⟩ := HB.out.str i (by rw [HM.out]; exact hlt)
        replace hc1 := cell_up' HU.out hg1 hc1
        replace hc2 := cell_up' HU.out hg2 hc2
        replace hg1 := Nat.lt_of_lt_of_le hg1 HU.out.size
        replace hg2 := Nat.lt_of_lt_of_le hg2 HU.out.size
        have HE := Lib.hid (eq_drop HN.out HM.out hlt)
        have hi1 : i < a.length := by rw [HN.out]; exact hlt
        have hi2 : i < b.length := by rw [HM.out]; exact hlt
        obtain ⟨x, hx⟩ : ∃ x, a[i]'hi1 = x := ⟨_, rfl⟩
        obtain ⟨y, hy⟩ : ∃ y, b[i]'hi2 = y := ⟨_, rfl⟩
        have HE : Hid ((a.drop i = b.drop i) ↔ (x = y ∧ a.drop (i + 1) = b.drop (i + 1))) := Lib.hid (by rw [← hx, ← hy]; exact HE.out)
        rw [hx] at hc1
        rw [hy] at hc2
        have q := tl_eq x y
        by_cases e : x = y
        · rw [decide_eq_true e] at q
          have q2 : (x.toList != y.toList) = false := by rw [bne, q]; rfl
          have HQ : Hid (decide (a.drop (i + 1) = b.drop (i + 1)) = r) := Lib.hid (by rw [← HP.out]; simp only [HE.out, e, true_and])
          clear hx hy hi1 hi2 e
          go_upto_region 6 with fail
          refine wp_region_ext (by kernel_rfl) (by kernel_rfl) ?_
          repeat (go_big_quiet_step (fail))
          refine wpQuiet_nil ?_
          intro z hz
          go_wp2
          go_roundw
          case rel => exact ⟨i + 1, by omega, by go_num, HU.out.trans hz, HQ.out⟩
          case measure => simp [intOf]; omega
        · rw [decide_eq_false e] at q
          have q2 : (x.toList != y.toList) = true := by rw [bne, q]; rfl
          have HQ : Hid (r = false) := Lib.hid (by rw [← HP.out]; simp [HE.out, e])
          clear hx hy hi1 hi2 e
          go_upto_region 6 with fail
          refine wp_region_ext (by kernel_rfl) (by kernel_rfl) ?_
          repeat (go_big_quiet_step (fail))
          refine wpQuiet_nil ?_
          intro z hz
          go_wp2
          go_ret
          exact ⟨ret_bool HQ.out.symm, HU.out.trans hz⟩
      · obtain rfl : i = n := by omega
        have HQ : Hid (r = true) := Lib.hid (by rw [← HP.out, List.drop_of_length_le (by rw [HN.out]; omega), List.drop_of_length_le (by rw [HM.out]; omega)]; rfl)
        go_wp2
        go_ret
        exact ⟨ret_bool HQ.out.symm, HU.out⟩
  · have hq : ((n : Int) == m) = false := by simp; omega
    have hq2 : ((n : Int) != m) = true := by rw [bne, hq]; rfl
    have HQ : Hid (r = false) := Lib.hid (by
      rw [← HR.out]
      refine decide_eq_false fun e => hnm ?_
      rw [← HN.out, ← HM.out, e])
    clear hnm
    go_enter Tryz.func14, Tryz.ntmps14
    go_wp2
    go_ret
    exact ⟨ret_bool HQ.out.symm, Up.refl _⟩

def has (l : List ByteArray) (s : ByteArray) : Bool := l.any fun x => decide (x = s)
set_option maxHeartbeats 2000000 in
theorem base_Has (s : ByteArray) (l : List ByteArray) (v : Value) (w : World) (hv : LsAt 1 16 strR w v l) (r : Bool) (hr : has l s = r) :
    Calls Tryz.prog 10 #[v, .string s] w fun e w' => e = .returned (.bool r) ∧ w' = w := by
  obtain ⟨a, c, rfl, _⟩ := hv.shape
  obtain ⟨n, hn⟩ : ∃ n, l.length = n := ⟨_, rfl⟩
  rw [hn] at hv ⊢
  have hnb : n ≤ 9223372036854775807 := hn ▸ hv.max
  have HV := Lib.hid hv
  have HN := Lib.hid hn
  have HR0 : Hid (has (l.drop 0) s = r) := Lib.hid hr
  clear hv hn hr
  go_enter Tryz.func10, Tryz.ntmps10
  go_wp2
  go_loopw [5] (fun iv wr => ∃ i : Nat, i ≤ n ∧ iv = .int .i64 i ∧ wr = w ∧ has (l.drop i) s = r) (fun iv _ => n - (intOf iv).toNat)
  case atStart => exact ⟨0, by omega, rfl, rfl, HR0.out⟩
  case round =>
    obtain ⟨i, hi, rfl, hw, hP⟩ := hrel
    replace hw := hw.symm
    subst hw
    have HP := Lib.hid hP
    clear hP HR0
    by_cases hlt : i < n
    · have hltI : (i : Int) < n := by omega
      obtain ⟨g1, o1, rfl, hg1, hc1, _⟩ := HV.out.str i (by rw [HN.out]; exact hlt)
      have hi1 : i < l.length := by rw [HN.out]; exact hlt
      have HE := Lib.hid (drop_eq HN.out hlt)
      obtain ⟨x, hx⟩ : ∃ x, l[i]'hi1 = x := ⟨_, rfl⟩
      have HE : Hid (l.drop i = x :: l.drop (i + 1)) := Lib.hid (by rw [← hx]; exact HE.out)
      rw [hx] at hc1
      have q := tl_eq x s
      by_cases e : x = s
      · rw [decide_eq_true e] at q
        have HQ : Hid (r = true) := Lib.hid (by rw [← HP.out, HE.out]; simp [has, e])
        clear hx hi1 e
        go_wp2
        go_ret
        exact ⟨ret_bool HQ.out.symm, rfl⟩
      · rw [decide_eq_false e] at q
        have HQ : Hid (has (l.drop (i + 1)) s = r) := Lib.hid (by rw [← HP.out, HE.out]; simp [has, e])
        clear hx hi1 e
        go_wp2
        go_roundw
        case rel => exact ⟨i + 1, by omega, by go_num, trivial, HQ.out⟩
        case measure => simp [intOf]; omega
    · obtain rfl : i = n := by omega
      have HQ : Hid (r = false) := Lib.hid (by rw [← HP.out, List.drop_of_length_le (by rw [HN.out]; omega)]; rfl)
      go_wp2
      go_ret
      exact ⟨ret_bool HQ.out.symm, rfl⟩
end Go.Proofs.YtpccaifhcmcegaaGreat
end

section
namespace Go.Proofs.YtpccaifhcmcegaaGreat
set_option linter.unusedSimpArgs false
open Go.ChangeShapes Go.WideShapes Go.ChangeAt Go.RowKit
set_option linter.unusedVariables false
set_option maxRecDepth 100000

/-- The weight of an index. -/
def ixW (x : Ix) : Nat := x.1.2.length + x.2.2.length + (x.2.2.map fun l => l.2.length).sum
mutual
def tot : Ex → Nat
  | .mk _ _ _ _ _ lin ix args => 1 + lin.2.length + ix.length + (ix.map ixW).sum + tots args
def tots : List Ex → Nat
  | [] => 0
  | e :: r => tot e + tots r
end
theorem tots_app : ∀ (a b : List Ex), tots (a ++ b) = tots a + tots b
  | [], b => by simp [tots]
  | e :: r, b => by rw [List.cons_append, tots, tots, tots_app r b]; omega
theorem tots_take {l : List Ex} {i : Nat} (hi : i < l.length) : tots (l.take (i + 1)) = tots (l.take i) + tot l[i] := by
  rw [List.take_succ_eq_append_getElem hi, tots_app]
  simp [tots]
theorem sum_take {α : Type} (f : α → Nat) {l : List α} {i : Nat} (hi : i < l.length) : ((l.take (i + 1)).map f).sum = ((l.take i).map f).sum + f l[i] := by
  rw [List.take_succ_eq_append_getElem hi, List.map_append, List.sum_append]
  simp

/-- An expression as a value. -/
def ExAt (n : Nat) (w : World) (v : Value) (e : Ex) : Prop := ∃ f : Nat → Value, v = .agg #[f 0, f 1, f 2, f 3, f 4, f 5, f 6, f 7, f 8, f 9, f 10, f 11, f 12] ∧ exR n w f e
theorem ExAt.up {n : Nat} {w w' : World} {v : Value} {e : Ex} (h : ExAt n w v e) (u : Up w w') : ExAt n w' v e := let ⟨f, h1, h2⟩ := h; ⟨f, h1, exR_up n _ _ _ _ h2 u⟩
theorem ExAt.open {n : Nat} {w : World} {v : Value} {e : Ex} (h : ExAt (n + 1) w v e) : ∃ (op : Int) (nm : ByteArray) (a d t0 t1 t2 t3 t4 k : Int) (la : Option Addr) (lc : Nat) (xa : Option Addr) (xc : Nat) (ra : Option Addr) (rc : Nat) (ms : List Mono) (ix : List Ix) (args : List Ex),
    e = .mk op nm a d (t0, t1, t2, t3, t4) (k, ms) ix args ∧ v = .agg #[.int .i64 op, .string nm, .int .i64 a, .int .i64 d, .int .i64 t0, .int .i64 t1, .int .i64 t2, .int .i64 t3, .int .i64 t4, .int .i64 k, .slice la ms.length lc, .slice xa ix.length xc, .slice ra args.length rc] ∧
    nm.size ≤ maxLen ∧ LsAt 2 24 monR w (.slice la ms.length lc) ms ∧ LsAt 4 72 ixR w (.slice xa ix.length xc) ix ∧ LsAt 13 160 (exR n) w (.slice ra args.length rc) args := by
  obtain ⟨f, hv, h⟩ := h
  obtain ⟨op, nm, a, d, ⟨t0, t1, t2, t3, t4⟩, ⟨k, ms⟩, ix, args⟩ := e
  obtain ⟨h0, ⟨h1, h1'⟩, h2, h3, ⟨g0, g1, g2, g3, g4⟩, ⟨l0, l1⟩, hx, ha⟩ := h
  dsimp only at l0 l1 g0 g1 g2 g3 g4
  obtain ⟨la, lc, e1, _⟩ := l1.shape
  obtain ⟨xa, xc, e2, _⟩ := hx.shape
  obtain ⟨ra, rc, e3, _⟩ := ha.shape
  refine ⟨op, nm, a, d, t0, t1, t2, t3, t4, k, la, lc, xa, xc, ra, rc, ms, ix, args, rfl, ?_, h1', e1 ▸ l1, e2 ▸ hx, e3 ▸ ha⟩
  rw [hv, h0, h1, h2, h3, show f 4 = _ from g0, show f 5 = _ from g1, show f 6 = _ from g2, show f 7 = _ from g3, show f 8 = _ from g4, show f 9 = _ from l0, show f 10 = _ from e1, e2, e3]
theorem exR_val {n : Nat} {w : World} {f : Nat → Value} {e : Ex} (h : exR n w f e) : ExAt n w (.agg #[f 0, f 1, f 2, f 3, f 4, f 5, f 6, f 7, f 8, f 9, f 10, f 11, f 12]) e := ⟨f, rfl, h⟩
/-- Thirteen cells in a row. -/
theorem cells13 {w : World} {g o i : Nat} {f : Nat → Value} (h : ∀ j, j < 13 → w.cell? ⟨g, o + i * 13 + j, none⟩ = some (f j)) :
    w.cell? ⟨g, o + i * 13, none⟩ = some (f 0) ∧ w.cell? ⟨g, o + i * 13 + 1, none⟩ = some (f 1) ∧ w.cell? ⟨g, o + i * 13 + 2, none⟩ = some (f 2) ∧ w.cell? ⟨g, o + i * 13 + 3, none⟩ = some (f 3) ∧ w.cell? ⟨g, o + i * 13 + 4, none⟩ = some (f 4) ∧ w.cell? ⟨g, o + i * 13 + 5, none⟩ = some (f 5) ∧ w.cell? ⟨g, o + i * 13 + 6, none⟩ = some (f 6) ∧ w.cell? ⟨g, o + i * 13 + 7, none⟩ = some (f 7) ∧ w.cell? ⟨g, o + i * 13 + 8, none⟩ = some (f 8) ∧ w.cell? ⟨g, o + i * 13 + 9, none⟩ = some (f 9) ∧ w.cell? ⟨g, o + i * 13 + 10, none⟩ = some (f 10) ∧ w.cell? ⟨g, o + i * 13 + 11, none⟩ = some (f 11) ∧ w.cell? ⟨g, o + i * 13 + 12, none⟩ = some (f 12) :=
  ⟨h 0 (by decide), h 1 (by decide), h 2 (by decide), h 3 (by decide), h 4 (by decide), h 5 (by decide), h 6 (by decide), h 7 (by decide), h 8 (by decide), h 9 (by decide), h 10 (by decide), h 11 (by decide), h 12 (by decide)⟩
theorem LsAt.up' {α : Type} {k B : Nat} {R : Rel α} {w w' : World} {v : Value} {l : List α} (h : LsAt k B R w v l) (hR : UpR R) (u : Up w w') : LsAt k B R w' v l := LsAt.up hR h u
/-- The cells of an index that Weigh reads. -/
theorem LsAt.ix {w : World} {a : Option Addr} {n c : Nat} {l : List Ix} (h : LsAt 4 72 ixR w (.slice a n c) l) (i : Nat) (hi : i < l.length) :
    ∃ (g o : Nat) (la : Option Addr) (lc : Nat) (ta : Option Addr) (tc : Nat), a = some ⟨g, o, none⟩ ∧ g < w.heap.size ∧ w.cell? ⟨g, o + i * 4 + 1, none⟩ = some (.slice la l[i].1.2.length lc) ∧ w.cell? ⟨g, o + i * 4 + 2, none⟩ = some (.string l[i].2.1) ∧ w.cell? ⟨g, o + i * 4 + 3, none⟩ = some (.slice ta l[i].2.2.length tc) ∧
      LsAt 2 24 monR w (.slice la l[i].1.2.length lc) l[i].1.2 ∧ LsAt 2 32 linR w (.slice ta l[i].2.2.length tc) l[i].2.2 ∧ l[i].2.1.size ≤ maxLen := by
  obtain ⟨g, o, f, h1, h2, h3, ⟨h4, h5⟩, ⟨h6, h6'⟩, h7⟩ := h.elem i hi
  obtain ⟨la, lc, e1, _⟩ := h5.shape
  obtain ⟨ta, tc, e3, _⟩ := h7.shape
  refine ⟨g, o, la, lc, ta, tc, h1, h2, ?_, ?_, ?_, e1 ▸ h5, e3 ▸ h7, h6'⟩
  · rw [h3 1 (by decide), e1]
  · rw [h3 2 (by decide), h6]
  · rw [h3 3 (by decide), e3]
theorem LsAt.linc {w : World} {a : Option Addr} {n c : Nat} {l : List LinT} (h : LsAt 2 32 linR w (.slice a n c) l) (i : Nat) (hi : i < l.length) :
    ∃ (g o : Nat) (la : Option Addr) (lc : Nat), a = some ⟨g, o, none⟩ ∧ g < w.heap.size ∧ w.cell? ⟨g, o + i * 2, none⟩ = some (.int .i64 l[i].1) ∧ w.cell? ⟨g, o + i * 2 + 1, none⟩ = some (.slice la l[i].2.length lc) ∧ LsAt 2 24 monR w (.slice la l[i].2.length lc) l[i].2 := by
  obtain ⟨g, o, f, h1, h2, h3, h4, h5⟩ := h.elem i hi
  obtain ⟨la, lc, e1, _⟩ := h5.shape
  refine ⟨g, o, la, lc, h1, h2, ?_, ?_, e1 ▸ h5⟩
  · have := h3 0 (by decide); rw [Nat.add_zero] at this; rw [this, h4]
  · rw [h3 1 (by decide), e1]

set_option maxHeartbeats 8000000 in
theorem weigh_step (N : Nat) (ih : ∀ (e : Ex) (v : Value) (most : Nat) (hm : most ≤ 1500) (w : World) (hv : ExAt N w v e),
    Calls Tryz.prog 11 #[v, .int .i64 most] w fun e' w' => ∃ r : Nat, e' = .returned (.int .i64 r) ∧ Up w w' ∧ r ≤ most + 422212465065984 ∧ (r ≤ most → r = tot e)) (e : Ex) (v : Value) (most : Nat) (hm : most ≤ 1500) (w : World) (hv : ExAt (N + 1) w v e) :
    Calls Tryz.prog 11 #[v, .int .i64 most] w fun e' w' => ∃ r : Nat, e' = .returned (.int .i64 r) ∧ Up w w' ∧ r ≤ most + 422212465065984 ∧ (r ≤ most → r = tot e) := by
    have HIH0 := Lib.hid ih
    clear ih
    obtain ⟨op, nm, A, d, t0, t1, t2, t3, t4, K, la, lc, xa, xc, ra, rc, ms, ix, args, rfl, rfl, hnm, hL, hX, hR⟩ := hv.open
    have bL := hL.bytes
    have bX := hX.bytes
    have bR := hR.bytes
    obtain ⟨T, hT⟩ : ∃ t, tot (.mk op nm A d (t0, t1, t2, t3, t4) (K, ms) ix args) = t := ⟨_, rfl⟩
    rw [hT]
    rw [tot] at hT
    dsimp only at hT
    obtain ⟨ln, hln⟩ : ∃ q, ms.length = q := ⟨_, rfl⟩
    obtain ⟨xn, hxn⟩ : ∃ q, ix.length = q := ⟨_, rfl⟩
    obtain ⟨rn, hrn⟩ : ∃ q, args.length = q := ⟨_, rfl⟩
    rw [hln] at hL bL hT ⊢
    rw [hxn] at hX bX hT ⊢
    rw [hrn] at hR bR ⊢
    have hlI : (ln : Int) ≤ 140737488351232 := by omega
    have hxI : (xn : Int) ≤ 140737488351232 := by omega
    have hrI : (rn : Int) ≤ 140737488351232 := by omega
    have hmI : (most : Int) ≤ 1500 := by omega
    have HX := Lib.hid hX
    have HR := Lib.hid hR
    have HT := Lib.hid hT
    have HXN := Lib.hid hxn
    have HRN := Lib.hid hrn
    clear hL hX hR bL bX bR hT hln hxn hrn hv hnm
    have HU0 : Hid (Up w (w.alloc (.cells #[.int .i64 op, .string nm, .int .i64 A, .int .i64 d, .int .i64 t0, .int .i64 t1, .int .i64 t2, .int .i64 t3, .int .i64 t4, .int .i64 K, .slice la ln lc, .slice xa xn xc, .slice ra rn rc] 48))) := Lib.hid ((Up.refl w).alloc _)
    have HB0 := Lib.hid (BoxC.new w 48 #[.int .i64 op, .string nm, .int .i64 A, .int .i64 d, .int .i64 t0, .int .i64 t1, .int .i64 t2, .int .i64 t3, .int .i64 t4, .int .i64 K, .slice la ln lc, .slice xa xn xc, .slice ra rn rc])
    go_enter Tryz.func11, Tryz.ntmps11
    go_wp2
    go_loopw [5, 6] (fun nv iv wr => ∃ (q i : Nat), nv = .int .i64 q ∧ iv = .int .i64 i ∧ i ≤ xn ∧ q ≤ most + 422212465065984 ∧ (q ≤ most → q = 1 + ln + xn + ((ix.take i).map ixW).sum) ∧ Up w wr ∧ BoxC wr w.heap.size 48 #[.int .i64 op, .string nm, .int .i64 A, .int .i64 d, .int .i64 t0, .int .i64 t1, .int .i64 t2, .int .i64 t3, .int .i64 t4, .int .i64 K, .slice la ln lc, .slice xa xn xc, .slice ra rn rc]) (fun _ iv _ => xn - (intOf iv).toNat)
    case atStart => exact ⟨1 + ln + xn, 0, by go_num, rfl, by omega, by omega, fun _ => by simp, HU0.out, HB0.out⟩
    case round =>
      rename World => wr
      obtain ⟨q, i, rfl, rfl, hi, hq, hqt, hup, hbx⟩ := hrel
      have HU := Lib.hid hup
      have HB := Lib.hid hbx
      have HQ := Lib.hid hqt
      have b11 : wr.cell? ⟨w.heap.size, 11, none⟩ = some (.slice xa xn xc) := cell_of_row _ _ _ _ _ _ hbx
      have b12 : wr.cell? ⟨w.heap.size, 12, none⟩ = some (.slice ra rn rc) := cell_of_row _ _ _ _ _ _ hbx
      have bs : w.heap.size < wr.heap.size := hbx.lt
      have hqI : (q : Int) ≤ 422212465067484 := by omega
      clear hup hbx hqt HU0 HB0
      by_cases hc : i < xn ∧ q ≤ most
      · obtain ⟨hlt, hle⟩ := hc
        have hltI : (i : Int) < xn := by omega
        have hleI : (q : Int) ≤ most := by omega
        have hi1 : i < ix.length := by rw [HXN.out]; exact hlt
        obtain ⟨g, o, ya, yc, ta, tc, rfl, hg, c1, c2, c3, hY, hTT, hsz⟩ := HX.out.ix i hi1
        have bY := hY.bytes
        have bT := hTT.bytes
        have HW := Lib.hid (sum_take ixW hi1)
        obtain ⟨x, hx⟩ : ∃ x, ix[i] = x := ⟨_, rfl⟩
        rw [hx] at HW c1 c3 hY hTT bY bT
        clear hx c2 hsz
        obtain ⟨⟨kx, mx⟩, fx, at_⟩ := x
        dsimp only at c1 c3 hY hTT bY bT
        obtain ⟨yn, hyn⟩ : ∃ q, mx.length = q := ⟨_, rfl⟩
        obtain ⟨tn, htn⟩ : ∃ q, at_.length = q := ⟨_, rfl⟩
        have HW2 : Hid (((ix.take (i + 1)).map ixW).sum = ((ix.take i).map ixW).sum + (yn + tn + (at_.map fun l => l.2.length).sum)) := Lib.hid (by rw [HW.out, ← hyn, ← htn]; rfl)
        rw [hyn] at c1 hY bY
        rw [htn] at c3 hTT bT
        have HTT := Lib.hid hTT
        have HTN := Lib.hid htn
        have hg' := Nat.lt_of_lt_of_le hg HU.out.size
        replace c1 := cell_up' HU.out hg c1
        replace c3 := cell_up' HU.out hg c3
        have hyI : (yn : Int) ≤ 140737488351232 := by omega
        have htI : (tn : Int) ≤ 140737488351232 := by omega
        clear hY hTT bY bT hyn htn HW
        go_upto_region 5 with fail
        refine wp_region_ext (by kernel_rfl) (by kernel_rfl) ?_
        repeat (go_big_quiet_step (fail))
        refine wpQuiet_nil ?_
        intro z hz
        have HUZ := Lib.hid (HU.out.trans hz)
        have HBZ := Lib.hid (HB.out.up hz)
        clear hz c1 b11 b12 bs
        have HC3 := Lib.hid (fun y (hy : Up w y) => (hy.cell g _ hg).trans ((HU.out.cell g _ hg).symm.trans c3))
        go_wp2
        go_loopw [5, 7] (fun nv kv y => ∃ (q2 k : Nat), nv = .int .i64 q2 ∧ kv = .int .i64 k ∧ k ≤ tn ∧ q2 ≤ most + 422212465065984 ∧ (q2 ≤ most → q2 = q + yn + tn + ((at_.take k).map fun l => l.2.length).sum) ∧ Up w y ∧ BoxC y w.heap.size 48 #[.int .i64 op, .string nm, .int .i64 A, .int .i64 d, .int .i64 t0, .int .i64 t1, .int .i64 t2, .int .i64 t3, .int .i64 t4, .int .i64 K, .slice la ln lc, .slice (some ⟨g, o, none⟩) xn xc, .slice ra rn rc]) (fun _ kv _ => tn - (intOf kv).toNat)
        case atStart => exact ⟨q + yn + tn, 0, by go_num, rfl, by omega, by omega, fun _ => by simp, HUZ.out, HBZ.out⟩
        case round =>
          rename World => y
          obtain ⟨q2, k, rfl, rfl, hk, hq2, hqt2, hup, hbx⟩ := hrel
          have HUY := Lib.hid hup
          have HBY := Lib.hid hbx
          have HQ2 := Lib.hid hqt2
          have b11 : y.cell? ⟨w.heap.size, 11, none⟩ = some (.slice (some ⟨g, o, none⟩) xn xc) := cell_of_row _ _ _ _ _ _ hbx
          have bs : w.heap.size < y.heap.size := hbx.lt
          have hgy : g < y.heap.size := Nat.lt_of_lt_of_le hg hup.size
          have c3' := HC3.out y hup
          have hq2I : (q2 : Int) ≤ 422212465067484 := by omega
          clear hup hbx hqt2 c3
          by_cases hc2 : k < tn ∧ q2 ≤ most
          · obtain ⟨hlt2, hle2⟩ := hc2
            have hlt2I : (k : Int) < tn := by omega
            have hle2I : (q2 : Int) ≤ most := by omega
            have hk1 : k < at_.length := by rw [HTN.out]; exact hlt2
            obtain ⟨g3, o3, za, zc, rfl, hg3, hz0, d1, hZ⟩ := HTT.out.linc k hk1
            have bZ := hZ.bytes
            have HW3 := Lib.hid (sum_take (fun l : LinT => l.2.length) hk1)
            obtain ⟨zn, hzn⟩ : ∃ q, at_[k].2.length = q := ⟨_, rfl⟩
            rw [hzn] at d1 bZ
            have HW4 : Hid (((at_.take (k + 1)).map fun l => l.2.length).sum = ((at_.take k).map fun l => l.2.length).sum + zn) := Lib.hid (by rw [HW3.out, hzn])
            have hg3' := Nat.lt_of_lt_of_le hg3 HUY.out.size
            replace d1 := cell_up' HUY.out hg3 d1
            have hzI : (zn : Int) ≤ 140737488351232 := by omega
            clear hZ bZ hzn HW3 hz0 hk1
            go_wp2
            go_roundw
            case rel => exact ⟨q2 + zn, k + 1, by go_num, by go_num, by omega, by omega, fun h => by have := HQ2.out (by omega); have := HW4.out; omega, HUY.out, HBY.out⟩
            case measure => simp [intOf]; omega
          · have HQ3 : Hid (q2 ≤ most → q2 = 1 + ln + xn + ((ix.take (i + 1)).map ixW).sum) := Lib.hid (fun h => by
              have h1 := HQ2.out h
              have h2 : k = tn := by omega
              rw [List.take_of_length_le (by rw [HTN.out]; omega)] at h1
              have h3 := HQ.out (by omega)
              have h4 := HW2.out
              omega)
            have hcc : ¬ (k : Int) < tn ∨ ¬ (q2 : Int) ≤ most := by omega
            clear hc2
            by_cases hk2 : (k : Int) < tn
            · have hq3 : ¬ (q2 : Int) ≤ most := by omega
              clear hcc
              go_wp2
              go_roundw
              case rel => exact ⟨q2, i + 1, rfl, by go_num, by omega, hq2, HQ3.out, HUY.out, HBY.out⟩
              case measure => simp [intOf]; omega
            · clear hcc
              go_wp2
              go_roundw
              case rel => exact ⟨q2, i + 1, rfl, by go_num, by omega, hq2, HQ3.out, HUY.out, HBY.out⟩
              case measure => simp [intOf]; omega
      · have HQ3 : Hid (q ≤ most → q = 1 + ln + xn + (ix.map ixW).sum) := Lib.hid (fun h => by
          have h1 := HQ.out h
          have h2 : i = xn := by omega
          rw [List.take_of_length_le (by rw [HXN.out]; omega)] at h1
          exact h1)
        have hcc : ¬ (i : Int) < xn ∨ ¬ (q : Int) ≤ most := by omega
        clear hc
        have HIH := Lib.hid (fun e v (m : Nat) (h : m ≤ 1500) y (hy : ExAt N y v e) => HIH0.out e v m h y hy)
        by_cases hi2 : (i : Int) < xn
        all_goals
          first
            | (have hq3 : ¬ (q : Int) ≤ most := by omega)
            | skip
          clear hcc
          go_wp2
          go_loopw [5, 8] (fun nv iv y => ∃ (q2 k : Nat), nv = .int .i64 q2 ∧ iv = .int .i64 k ∧ k ≤ rn ∧ q2 ≤ most + 422212465065984 ∧ (q2 ≤ most → q2 = 1 + ln + xn + (ix.map ixW).sum + tots (args.take k)) ∧ Up w y ∧ BoxC y w.heap.size 48 #[.int .i64 op, .string nm, .int .i64 A, .int .i64 d, .int .i64 t0, .int .i64 t1, .int .i64 t2, .int .i64 t3, .int .i64 t4, .int .i64 K, .slice la ln lc, .slice xa xn xc, .slice ra rn rc]) (fun _ kv _ => rn - (intOf kv).toNat)
          case atStart => exact ⟨q, 0, rfl, rfl, by omega, hq, fun h => by rw [HQ3.out h]; simp [tots], HU.out, HB.out⟩
          case round =>
            rename World => y
            obtain ⟨q2, k, rfl, rfl, hk, hq2, hqt2, hup, hbx⟩ := hrel
            have HUY := Lib.hid hup
            have HBY := Lib.hid hbx
            have HQ2 := Lib.hid hqt2
            have b12 : y.cell? ⟨w.heap.size, 12, none⟩ = some (.slice ra rn rc) := cell_of_row _ _ _ _ _ _ hbx
            have bs : w.heap.size < y.heap.size := hbx.lt
            have hq2I : (q2 : Int) ≤ 422212465067484 := by omega
            clear hup hbx hqt2
            by_cases hc2 : k < rn ∧ q2 ≤ most
            · obtain ⟨hlt2, hle2⟩ := hc2
              have hlt2I : (k : Int) < rn := by omega
              have hle2I : (q2 : Int) ≤ most := by omega
              have hk1 : k < args.length := by rw [HRN.out]; exact hlt2
              obtain ⟨g3, o3, f, rfl, hg3, hf, hE⟩ := HR.out.elem k hk1
              have HW3 := Lib.hid (tots_take hk1)
              obtain ⟨e3, he3⟩ : ∃ e, args[k] = e := ⟨_, rfl⟩
              rw [he3] at HW3 hE
              have hg3' := Nat.lt_of_lt_of_le hg3 HUY.out.size
              obtain ⟨f0, f1, f2, f3, f4, f5, f6, f7, f8, f9, f10, f11, f12⟩ := cells13 (fun j hj => cell_up' HUY.out hg3 (hf j hj))
              have HCL := Lib.hid (fun (m : Nat) (hm : (m : Int) = (most : Int) - q2) => HIH.out e3 _ m (by omega) y ((exR_val hE).up HUY.out))
              obtain ⟨m2, hm2⟩ : ∃ m2 : Nat, (m2 : Int) = (most : Int) - q2 := ⟨most - q2, by omega⟩
              replace HCL := Lib.hid (HCL.out m2 hm2)
              have HM2 := Lib.hid hm2
              have hsub : (most : Int) - q2 = m2 := hm2.symm
              clear hf hE he3 hk1 hm2
              go_wp2_with (go_at_call 11; refine HCL.out.mono ?_; rintro e' y2 ⟨r, rfl, hy, hr, hrt⟩; have HUR := Lib.hid (HUY.out.trans hy); have HBR := Lib.hid (HBY.out.up hy); have HRT := Lib.hid hrt; have hrI : (r : Int) ≤ 422212465067484 := (by omega); clear hy hrt)
              go_roundw
              case rel => exact ⟨q2 + r, k + 1, by go_num, by go_num, by omega, by have := HM2.out; omega, fun h => by have h1 := HQ2.out (by omega); have h2 := HRT.out (by have := HM2.out; omega); have h3 := HW3.out; omega, HUR.out, HBR.out⟩
              case measure => simp [intOf]; omega
            · have HQ4 : Hid (q2 ≤ most → q2 = T) := Lib.hid (fun h => by
                have h1 := HQ2.out h
                have h2 : k = rn := by omega
                rw [List.take_of_length_le (by rw [HRN.out]; omega)] at h1
                have h3 := HT.out
                omega)
              have hcc : ¬ (k : Int) < rn ∨ ¬ (q2 : Int) ≤ most := by omega
              clear hc2
              by_cases hk2 : (k : Int) < rn
              · have hq4 : ¬ (q2 : Int) ≤ most := by omega
                clear hcc
                go_wp2
                go_ret
                exact ⟨q2, rfl, HUY.out, hq2, HQ4.out⟩
              · clear hcc
                go_wp2
                go_ret
                exact ⟨q2, rfl, HUY.out, hq2, HQ4.out⟩
theorem base_Weigh (n : Nat) : ∀ (e : Ex) (v : Value) (most : Nat) (hm : most ≤ 1500) (w : World) (hv : ExAt n w v e),
    Calls Tryz.prog 11 #[v, .int .i64 most] w fun e' w' => ∃ r : Nat, e' = .returned (.int .i64 r) ∧ Up w w' ∧ r ≤ most + 422212465065984 ∧ (r ≤ most → r = tot e) := by
  induction n with
  | zero => intro e v most hm w hv; obtain ⟨_, _, h⟩ := hv; exact h.elim
  | succ N ih => exact fun e v most hm w hv => weigh_step N ih e v most hm w hv
end Go.Proofs.YtpccaifhcmcegaaGreat
end
