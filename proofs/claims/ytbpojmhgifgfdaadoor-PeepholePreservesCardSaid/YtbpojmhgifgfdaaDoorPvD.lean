/-
  Merged by a program (tools/mrg.py): QTail, PvD.
-/
import Derived.Test.YtbpojmhgifgfdaaDoorM
import Derived.StillTail
import Derived.Deep.QuietTactic
import Derived.Test.YtbpojmhgifgfdaaDoorPvC

section
namespace Go.Proofs.YtbpojmhgifgfdaaDoor
set_option linter.unusedSimpArgs false
open Go.ChangeShapes Go.WideShapes Go.ChangeAt Go.RowKit
set_option linter.unusedVariables false

section
variable {P : Program} {ops : Array Oper} {md : Region.Mode} {C : World → Prop}

def wpAnyLQ (P : Program) (md : Region.Mode) (ops : Array Oper) (C : World → Prop) (n : Nat) (L : Array Bool → Act → Prop) : Nat → Array Bool → Act → Prop
  | 0, listed, a => L listed a
  | f + 1, listed, a =>
    Region.ready md ops listed ≠ [] ∧ ∀ i ∈ Region.ready md ops listed, i < n ∧ qOp P ops C i (wpAnyLQ P md ops C n L f (listed.setIfInBounds i true)) a

theorem wpAny_of_headQ {n g : Nat} {L : Array Bool → Act → Prop} {Q' : Exit → Act → World → Prop} (hL : ∀ listed a w, C w → L listed a → wpAny P md ops Q' g listed a w) :
    ∀ (f : Nat) (listed : Array Bool) (a : Act) (w : World), C w → wpAnyLQ P md ops C n L f listed a → wpAny P md ops Q' (f + g) listed a w
  | 0, listed, a, w, hw, h => by rw [Nat.zero_add]; exact hL _ _ _ hw h
  | f + 1, listed, a, w, hw, h => by
    rw [show f + 1 + g = (f + g) + 1 by omega]
    exact ⟨fun h0 => absurd h0 h.1, fun i hi => wpOp_of_qOp hw (fun a' w' hw' h' => wpAny_of_headQ hL f _ a' w' hw' h') (h.2 i hi).2⟩

theorem wpAnyLQ_first {n i : Nat} {oi : Oper} {v : Value} {L : Array Bool → Act → Prop} (hi : ops[i]? = some oi) (hsel : ∀ (j : Nat) (o : Oper) cs b, ops[j]? = some o → o.op ≠ .select cs b)
    (hs : Region.sinkB md ops n = true) (hc : Region.chainB md ops n = true) (hn : n < ops.size) (hin : i < n)
    (hdone : ∀ listed a, L listed a → ∀ j ∈ Region.ready md ops listed, n ≤ j) :
    ∀ (f : Nat) (listed : Array Bool) (a : Act), HeadInv md ops n listed →
      (∀ j oj, ops[j]? = some oj → j ≠ i → listed.getD j true = false → (∀ e ∈ oj.after, Region.binds md e = true → e.on ≠ i) → oi.apart ops oj = true) →
      i ∈ Region.ready md ops listed → YieldsIn P ops C oi v a →
      wpAnyLQ P md ops C n L f (listed.setIfInBounds i true) (a.put oi.dst v) → wpAnyLQ P md ops C n L (f + 1) listed a := by
  intro f
  induction f with
  | zero =>
    intro listed a inv _ hr hy H
    have hun := (mem_ready.1 hr).1
    refine ⟨fun h => (by rw [h] at hr; cases hr), fun j hj => ?_⟩
    have hjn : j < n := by
      rcases Nat.lt_or_ge j n with h | h
      · exact h
      · exact absurd hj (tail_waits hs hc hn inv _ i rfl hin hun j h)
    refine ⟨hjn, ?_⟩
    by_cases hji : j = i
    · subst hji; exact hy.qOp hi H
    · have := hdone _ _ H j (ready_mono hj hji)
      omega
  | succ f ih =>
    intro listed a inv hfree hr hy H
    have hun := (mem_ready.1 hr).1
    refine ⟨fun h => (by rw [h] at hr; cases hr), fun j hj => ?_⟩
    have hjn : j < n := by
      rcases Nat.lt_or_ge j n with h | h
      · exact h
      · exact absurd hj (tail_waits hs hc hn inv _ i rfl hin hun j h)
    refine ⟨hjn, ?_⟩
    by_cases hji : j = i
    · subst hji; exact hy.qOp hi H
    · have h1 := (H.2 j (ready_mono hj hji)).2
      obtain ⟨hjun, oj, hoj, hall⟩ := mem_ready.1 hj
      have hnot : ∀ e ∈ oj.after, Region.binds md e = true → e.on ≠ i := fun e he hb heq => by
        have h1 := hall e he hb
        rw [heq, getD_both hun] at h1
        cases h1
      have h2 := qOp_put hoj (hfree j oj hoj hji hjun hnot) (fun cs b => hsel i oi cs b hi) (fun cs b => hsel j oj cs b hoj) hy h1
      have hfree' : ∀ k ok, ops[k]? = some ok → k ≠ i → (listed.setIfInBounds j true).getD k true = false →
          (∀ e ∈ ok.after, Region.binds md e = true → e.on ≠ i) → oi.apart ops ok = true := fun k ok hk hki hun hno => by
        refine hfree k ok hk hki ?_ hno
        by_cases hjk : j = k
        · subst hjk; exact hjun
        · rw [getD_set_ne true hjk] at hun; exact hun
      refine qOp_mono (fun a' h3 => ih (listed.setIfInBounds j true) a' (inv.set hj hjn) hfree' (ready_mono hr (Ne.symm hji)) h3.1 ?_) h2
      rw [Array.setIfInBounds_comm _ _ hji]
      exact h3.2

theorem wpAnyLQ_lex {n g : Nat} {Lq : Act → Prop} (hsel : Region.noSelect ops = true) (hs : Region.sinkB md ops n = true) (hc : Region.chainB md ops n = true) (hn : n < ops.size) :
    ∀ (l : List Oper) (k : Nat) (listed : Array Bool) (a : Act), (∀ j, j < l.length → l[j]? = ops[k + j]?) → k + l.length = n → HeadInv md ops n listed →
    Region.lexHead md ops g l.length k listed = true → wpQuiet P ops C Lq l a →
    wpAnyLQ P md ops C n (fun listed' a' => Region.seqB md ops g n listed' = true ∧ Lq a') l.length listed a
  | [], k, listed, a, _, hk, _, hB, h => by
    have : k = n := by simpa using hk
    subst this
    exact ⟨by simpa [Region.lexHead] using hB, h⟩
  | o :: l, k, listed, a, hl, hk, inv, hB, h => by
    have h0 : ops[k]? = some o := by simpa using (hl 0 (by simp)).symm
    simp only [List.length_cons, Region.lexHead, Bool.and_eq_true] at hB
    obtain ⟨⟨hr, hf⟩, hB'⟩ := hB
    have hkn : k < n := by simp only [List.length_cons] at hk; omega
    have hr' : k ∈ Region.ready md ops listed := by simpa using hr
    have hst : qOp P ops C k (wpQuiet P ops C Lq l) a := by unfold qOp; simp only [h0]; exact h
    obtain ⟨v, hy, hK⟩ := yieldsIn_of_qOp h0 hst
    exact wpAnyLQ_first h0 (Region.noSelect_spec hsel) hs hc hn hkn (fun listed' a' hL => seqB_ready hL.1) l.length listed a inv (Region.free_spec h0 hf) hr' hy
      (wpAnyLQ_lex hsel hs hc hn l (k + 1) _ _ (fun j hj => by have := hl (j + 1) (by simp; omega); simpa [Nat.add_assoc, Nat.add_comm 1 j] using this) (by simp only [List.length_cons] at hk; omega) (inv.set hr' hkn) hB' hK)

/-- The head once, in the text's order, in every world of the class; then the tail as it stands. -/
theorem wp_region_quiet_tail {id : Nat} {Q : Exit → Act → World → Prop} {a : Act} {w : World} {l : List Oper} (n : Nat) (hm : P.follows .mixedOrders = true) (hB : Region.lexTailB .any l.toArray n = true) (hC : C { w with drawn := w.drawn + 1 })
    (h : wpQuiet P l.toArray C (fun a' => ∀ x, C x → wpList P l.toArray Q (l.drop n) a' x) (l.take n) a) : (Code.region id l.toArray true).wp P Q a w := by
  simp only [Region.lexTailB, Bool.and_eq_true, decide_eq_true_eq] at hB
  obtain ⟨⟨⟨⟨hsel, hn⟩, hs⟩, hc⟩, hlex⟩ := hB
  have hn' : n < l.length := by simpa using hn
  have htl : (l.take n).length = n := by simp; omega
  have hdl : (l.drop n).length = l.toArray.size - n := by simp
  have inv0 : HeadInv .any l.toArray n (Array.replicate l.toArray.size false) :=
    ⟨by simp, fun j oj _ hl => (by rw [getD_replicate_false] at hl; cases hl), fun t _ ht => getD_in (by simpa using ht) (getD_replicate_false _ _)⟩
  have H := wpAnyLQ_lex (md := .any) (C := C) (g := l.toArray.size - n) hsel hs hc hn (l.take n) 0 _ a (fun j hj => by
    have hj' : j < n := by rw [htl] at hj; exact hj
    simp [hj']) (by simpa using htl) inv0 (by rw [htl]; exact hlex) h
  refine wp_region_any hm ?_
  have := wpAny_of_headQ (Q' := Q) (g := l.toArray.size - n) (fun listed a' x hx hL => by
    have := wpAny_of_seq (md := .any) (Q' := Q) (l.drop n) n listed a' x (fun j => by simp [List.getElem?_drop]) (by rw [hdl]; exact hL.1) (hL.2 x hx)
    rwa [hdl] at this) _ _ _ _ hC H
  rw [htl, show n + (l.toArray.size - n) = l.toArray.size by omega] at this
  exact this
end

/-- The class: worlds that only grew. -/
theorem wp_region_ext_tail {P : Program} {id : Nat} {Q : Exit → Act → World → Prop} {a : Act} {w : World} {l : List Oper} (n : Nat) (hm : P.follows .mixedOrders = true) (hB : Region.lexTailB .any l.toArray n = true)
    (h : wpQuiet P l.toArray (fun x => ∃ i : Ext w, x = i.w) (fun a' => ∀ x, Up w x → wpList P l.toArray Q (l.drop n) a' x) (l.take n) a) : (Code.region id l.toArray true).wp P Q a w := by
  have e : (fun a' => ∀ x, Up w x → wpList P l.toArray Q (l.drop n) a' x) = (fun a' => ∀ x, (∃ i : Ext w, x = i.w) → wpList P l.toArray Q (l.drop n) a' x) := by
    funext a'
    exact propext ⟨fun H x ⟨i, hi⟩ => hi ▸ H i.w i.up, fun H x hx => H x ⟨⟨x, hx⟩, rfl⟩⟩
  rw [e] at h
  exact wp_region_quiet_tail n hm hB ⟨⟨{ w with drawn := w.drawn + 1 }, (Up.refl w).drew⟩, rfl⟩ h
end Go.Proofs.YtbpojmhgifgfdaaDoor
end

section
namespace Go.Proofs.YtbpojmhgifgfdaaDoor
open Go.ChangeShapes Go.WideShapes Go.ChangeAt Go.RowKit
set_option linter.unusedVariables false
set_option linter.unusedSimpArgs false
set_option maxRecDepth 100000

def valV (t : Typ) (n d : Int) : Bool := typB t && valT t n d
set_option maxHeartbeats 4000000 in
theorem r04_Valid (t : Typ) (n d : Int) (hn : R64 n) (r : Bool) (hr : valV t n d = r) (w : World) :
    Calls Tryd.prog 62 #[typV t, .agg #[.int .i64 n, .int .i64 d]] w fun e w' => e = .returned (.bool r) ∧ Up w w' := by
  obtain ⟨tb, htb⟩ : ∃ b, typB t = b := ⟨_, rfl⟩
  unfold valV at hr
  rw [htb] at hr
  have HR := Lib.hid hr
  have HTY := Lib.hid (fun w => base_Type t tb htb w)
  have HV : Hid (tb = true → ∀ w, Calls Tryd.prog 60 #[typV t, .agg #[.int .i64 n, .int .i64 d]] w fun e w' => e = .returned (.bool r) ∧ Up w w') := Lib.hid (fun h w => base_Val t (by rw [htb, h]) n d hn r (by rw [← HR.out, h]; rfl) w)
  clear hr hn htb
  obtain ⟨kd, bi, fr, ro, ov⟩ := t
  dsimp only [typV] at HTY HV ⊢
  have HU : Hid (Up w ((w.alloc (.cells #[.int .i64 kd, .int .i64 bi, .int .i64 fr, .int .i64 ro, .int .i64 ov] 62)).alloc (.cells #[.int .i64 n, .int .i64 d] 60))) := Lib.hid (((Up.refl w).alloc _).alloc _)
  have B0 : Hid (BoxC ((w.alloc (.cells #[.int .i64 kd, .int .i64 bi, .int .i64 fr, .int .i64 ro, .int .i64 ov] 62)).alloc (.cells #[.int .i64 n, .int .i64 d] 60)) w.heap.size 62 #[.int .i64 kd, .int .i64 bi, .int .i64 fr, .int .i64 ro, .int .i64 ov]) := Lib.hid ((BoxC.new w _ _).up ((Up.refl _).alloc _))
  have B1 : Hid (BoxC ((w.alloc (.cells #[.int .i64 kd, .int .i64 bi, .int .i64 fr, .int .i64 ro, .int .i64 ov] 62)).alloc (.cells #[.int .i64 n, .int .i64 d] 60)) (w.heap.size + 1) 60 #[.int .i64 n, .int .i64 d]) := Lib.hid (BoxC.new2 w _ _ _)
  cases tb
  · obtain rfl : r = false := by rw [← HR.out]; rfl
    go_enter Tryd.func62, Tryd.ntmps62
    go_wp2_with (go_at_call 34; refine (HTY.out _).mono ?_; rintro e x ⟨rfl, hx⟩; replace HU := Lib.hid (HU.out.trans hx))
    go_ret
    exact ⟨rfl, HU.out⟩
  · replace HV := Lib.hid (HV.out rfl)
    go_enter Tryd.func62, Tryd.ntmps62
    go_wp2_with (first
      | (go_at_call 34; refine (HTY.out _).mono ?_; rintro e x ⟨rfl, hx⟩; replace HU := Lib.hid (HU.out.trans hx); replace B0 := Lib.hid (B0.out.up hx); replace B1 := Lib.hid (B1.out.up hx); clear hx; obtain ⟨t0, t1, t2, t3, t4⟩ := B0.out.five; obtain ⟨a0, a1⟩ := B1.out.two)
      | (go_at_call 60; refine (HV.out _).mono ?_; rintro e x ⟨rfl, hx⟩; replace HU := Lib.hid (HU.out.trans hx); clear hx))
    go_ret
    exact ⟨rfl, HU.out⟩

def cmp4 (t : Typ) (n d p q : Int) : Int := if valV t n d && valV t p q then cmpF n d p q else 0
set_option maxHeartbeats 4000000 in
theorem r04_Compare (t : Typ) (n d p q : Int) (hn : R64 n) (hp : R64 p) (r : Int) (hr : cmp4 t n d p q = r) (w : World) :
    Calls Tryd.prog 63 #[typV t, .agg #[.int .i64 n, .int .i64 d], .agg #[.int .i64 p, .int .i64 q]] w fun e w' => e = .returned (.int .i64 r) ∧ Up w w' := by
  obtain ⟨va, hva⟩ : ∃ v, valV t n d = v := ⟨_, rfl⟩
  obtain ⟨vb, hvb⟩ : ∃ v, valV t p q = v := ⟨_, rfl⟩
  have HA := Lib.hid (fun w => r04_Valid t n d hn va hva w)
  have HB := Lib.hid (fun w => r04_Valid t p q hp vb hvb w)
  unfold cmp4 at hr
  rw [hva, hvb] at hr
  have HR := Lib.hid hr
  have HC : Hid (va = true → vb = true → ∀ w, Calls Tryd.prog 73 #[.agg #[.int .i64 n, .int .i64 d], .agg #[.int .i64 p, .int .i64 q]] w fun e w' => e = .returned (.int .i64 r) ∧ Up w w') := Lib.hid (fun h1 h2 w => r01_Compare n d p q hn hp r (by rw [← HR.out, h1, h2]; rfl) w)
  clear hva hvb hr hn hp
  obtain ⟨kd, bi, fr, ro, ov⟩ := t
  dsimp only [typV] at HA HB ⊢
  have HU : Hid (Up w (((w.alloc (.cells #[.int .i64 kd, .int .i64 bi, .int .i64 fr, .int .i64 ro, .int .i64 ov] 62)).alloc (.cells #[.int .i64 n, .int .i64 d] 60)).alloc (.cells #[.int .i64 p, .int .i64 q] 60))) := Lib.hid ((((Up.refl w).alloc _).alloc _).alloc _)
  have B0 : Hid (BoxC (((w.alloc (.cells #[.int .i64 kd, .int .i64 bi, .int .i64 fr, .int .i64 ro, .int .i64 ov] 62)).alloc (.cells #[.int .i64 n, .int .i64 d] 60)).alloc (.cells #[.int .i64 p, .int .i64 q] 60)) w.heap.size 62 #[.int .i64 kd, .int .i64 bi, .int .i64 fr, .int .i64 ro, .int .i64 ov]) := Lib.hid ((BoxC.new w _ _).up (((Up.refl _).alloc _).alloc _))
  have B1 : Hid (BoxC (((w.alloc (.cells #[.int .i64 kd, .int .i64 bi, .int .i64 fr, .int .i64 ro, .int .i64 ov] 62)).alloc (.cells #[.int .i64 n, .int .i64 d] 60)).alloc (.cells #[.int .i64 p, .int .i64 q] 60)) (w.heap.size + 1) 60 #[.int .i64 n, .int .i64 d]) := Lib.hid ((BoxC.new2 w _ _ _).up ((Up.refl _).alloc _))
  have B2 : Hid (BoxC (((w.alloc (.cells #[.int .i64 kd, .int .i64 bi, .int .i64 fr, .int .i64 ro, .int .i64 ov] 62)).alloc (.cells #[.int .i64 n, .int .i64 d] 60)).alloc (.cells #[.int .i64 p, .int .i64 q] 60)) (w.heap.size + 2) 60 #[.int .i64 p, .int .i64 q]) := Lib.hid (BoxC.new3 w _ _ _ _)
  obtain ⟨t0, t1, t2, t3, t4⟩ := B0.out.five
  obtain ⟨a0, a1⟩ := B1.out.two
  obtain ⟨b0, b1⟩ := B2.out.two
  cases va
  · obtain rfl : r = 0 := HR.out.symm
    go_enter Tryd.func63, Tryd.ntmps63
    go_wp2_with (go_at_call 62; (first | (with_reducible refine (HA.out _).mono ?_) | (with_reducible refine (HB.out _).mono ?_)); rintro e x ⟨rfl, hx⟩; replace HU := Lib.hid (HU.out.trans hx); replace B0 := Lib.hid (B0.out.up hx); replace B1 := Lib.hid (B1.out.up hx); replace B2 := Lib.hid (B2.out.up hx); clear hx t0 t1 t2 t3 t4 a0 a1 b0 b1; obtain ⟨t0, t1, t2, t3, t4⟩ := B0.out.five; obtain ⟨a0, a1⟩ := B1.out.two; obtain ⟨b0, b1⟩ := B2.out.two)
    go_ret
    exact ⟨rfl, HU.out⟩
  cases vb
  · obtain rfl : r = 0 := HR.out.symm
    go_enter Tryd.func63, Tryd.ntmps63
    go_wp2_with (go_at_call 62; (first | (with_reducible refine (HA.out _).mono ?_) | (with_reducible refine (HB.out _).mono ?_)); rintro e x ⟨rfl, hx⟩; replace HU := Lib.hid (HU.out.trans hx); replace B0 := Lib.hid (B0.out.up hx); replace B1 := Lib.hid (B1.out.up hx); replace B2 := Lib.hid (B2.out.up hx); clear hx t0 t1 t2 t3 t4 a0 a1 b0 b1; obtain ⟨t0, t1, t2, t3, t4⟩ := B0.out.five; obtain ⟨a0, a1⟩ := B1.out.two; obtain ⟨b0, b1⟩ := B2.out.two)
    go_ret
    exact ⟨rfl, HU.out⟩
  · replace HC := Lib.hid (HC.out rfl rfl)
    go_enter Tryd.func63, Tryd.ntmps63
    go_wp2_with (first | (go_at_call 62; (first | (with_reducible refine (HA.out _).mono ?_) | (with_reducible refine (HB.out _).mono ?_)); rintro e x ⟨rfl, hx⟩; replace HU := Lib.hid (HU.out.trans hx); replace B0 := Lib.hid (B0.out.up hx); replace B1 := Lib.hid (B1.out.up hx); replace B2 := Lib.hid (B2.out.up hx); clear hx t0 t1 t2 t3 t4 a0 a1 b0 b1; obtain ⟨t0, t1, t2, t3, t4⟩ := B0.out.five; obtain ⟨a0, a1⟩ := B1.out.two; obtain ⟨b0, b1⟩ := B2.out.two) | (go_at_call 73; refine (HC.out _).mono ?_; rintro e x ⟨rfl, hx⟩; replace HU := Lib.hid (HU.out.trans hx); clear hx))
    go_ret
    exact ⟨rfl, HU.out⟩

def wholV (n : Int) : Int × Int × Int := if 2147483647 < n ∨ n < -2147483647 then (0, 0, 3) else (n, 1, 0)
def wholF (op a b : Int) : Int × Int × Int :=
  if op = 4 then wholV (wrap64 (a + b)) else if op = 5 then wholV (wrap64 (a - b)) else if op = 6 then wholV (wrap64 (a * b))
  else if op = 7 then (if b = 0 then (0, 0, 4) else if b < 0 then wholV (flF (wrap64 (-a)) (wrap64 (-b))) else wholV (flF a b)) else wholV (wrap64 (-a))
set_option maxHeartbeats 4000000 in
theorem r04_whole (op a b : Int) (hb : R64 b) (r : Int × Int × Int) (hr : wholF op a b = r) (w : World) :
    Calls Tryd.prog 75 #[.int .i64 op, .int .i64 a, .int .i64 b] w fun e w' => e = .returned (.tuple #[.agg #[.int .i64 r.1, .int .i64 r.2.1], .int .i64 r.2.2]) ∧ Up w w' := by
  have HU : Hid (Up w (w.alloc (.cells #[.int .i64 0, .int .i64 0] 60))) := Lib.hid ((Up.refl w).alloc _)
  have B2 : Hid (BoxC (w.alloc (.cells #[.int .i64 0, .int .i64 0] 60)) w.heap.size 60 #[.int .i64 0, .int .i64 0]) := Lib.hid (BoxC.new w _ _)
  have HB := Lib.hid hb
  unfold wholF at hr
  clear hb
  by_cases h4 : op = 4
  · subst h4
    rw [if_pos rfl] at hr
    have HR := Lib.hid hr
    have HF : Hid (∀ w : World, True) := Lib.hid (fun _ => trivial)
    clear hr
    go_enter Tryd.func75, Tryd.ntmps75
    go_wp2
    all_goals try simp only [Bool.not_eq_false', Bool.not_eq_true', bne_iff_ne, ne_eq, bne_eq_false_iff_eq, beq_iff_eq, beq_eq_false_iff_ne, decide_eq_true_eq, decide_eq_false_iff_not] at *
    all_goals
      refine bodyPost_ret (v := .tuple #[.agg #[.int .i64 r.1, .int .i64 r.2.1], .int .i64 r.2.2]) (by rw [← HR.out]; simp [results, Tryd.results75, go_sem, wholV, *]; try ((repeat' split) <;> simp_all <;> omega)) rfl ?_
      first | exact ⟨rfl, (HU.out.setCell (p := ⟨w.heap.size, 0, none⟩) (Nat.le_refl _) _).setCell (p := ⟨w.heap.size, 1, none⟩) (Nat.le_refl _) _⟩ | exact ⟨rfl, (Up.refl w).alloc _⟩
  by_cases h5 : op = 5
  · subst h5
    rw [if_neg (show ¬ (5 : Int) = 4 by decide), if_pos rfl] at hr
    have HR := Lib.hid hr
    clear hr h4
    go_enter Tryd.func75, Tryd.ntmps75
    go_wp2
    all_goals try simp only [Bool.not_eq_false', Bool.not_eq_true', bne_iff_ne, ne_eq, bne_eq_false_iff_eq, beq_iff_eq, beq_eq_false_iff_ne, decide_eq_true_eq, decide_eq_false_iff_not] at *
    all_goals
      refine bodyPost_ret (v := .tuple #[.agg #[.int .i64 r.1, .int .i64 r.2.1], .int .i64 r.2.2]) (by rw [← HR.out]; simp [results, Tryd.results75, go_sem, wholV, *]; try ((repeat' split) <;> simp_all <;> omega)) rfl ?_
      first | exact ⟨rfl, (HU.out.setCell (p := ⟨w.heap.size, 0, none⟩) (Nat.le_refl _) _).setCell (p := ⟨w.heap.size, 1, none⟩) (Nat.le_refl _) _⟩ | exact ⟨rfl, (Up.refl w).alloc _⟩
  by_cases h6 : op = 6
  · subst h6
    rw [if_neg (show ¬ (6 : Int) = 4 by decide), if_neg (show ¬ (6 : Int) = 5 by decide), if_pos rfl] at hr
    have HR := Lib.hid hr
    clear hr h4 h5
    go_enter Tryd.func75, Tryd.ntmps75
    go_wp2
    all_goals try simp only [Bool.not_eq_false', Bool.not_eq_true', bne_iff_ne, ne_eq, bne_eq_false_iff_eq, beq_iff_eq, beq_eq_false_iff_ne, decide_eq_true_eq, decide_eq_false_iff_not] at *
    all_goals
      refine bodyPost_ret (v := .tuple #[.agg #[.int .i64 r.1, .int .i64 r.2.1], .int .i64 r.2.2]) (by rw [← HR.out]; simp [results, Tryd.results75, go_sem, wholV, *]; try ((repeat' split) <;> simp_all <;> omega)) rfl ?_
      first | exact ⟨rfl, (HU.out.setCell (p := ⟨w.heap.size, 0, none⟩) (Nat.le_refl _) _).setCell (p := ⟨w.heap.size, 1, none⟩) (Nat.le_refl _) _⟩ | exact ⟨rfl, (Up.refl w).alloc _⟩
  by_cases h7 : op = 7
  · subst h7
    rw [if_neg (show ¬ (7 : Int) = 4 by decide), if_neg (show ¬ (7 : Int) = 5 by decide), if_neg (show ¬ (7 : Int) = 6 by decide), if_pos rfl] at hr
    clear h4 h5 h6
    by_cases h0 : b = 0
    · subst h0
      rw [if_pos rfl] at hr
      have HR := Lib.hid hr
      clear hr
      go_enter Tryd.func75, Tryd.ntmps75
      go_wp2
      all_goals try simp only [Bool.not_eq_false', Bool.not_eq_true', bne_iff_ne, ne_eq, bne_eq_false_iff_eq, beq_iff_eq, beq_eq_false_iff_ne, decide_eq_true_eq, decide_eq_false_iff_not] at *
      all_goals
        refine bodyPost_ret (v := .tuple #[.agg #[.int .i64 r.1, .int .i64 r.2.1], .int .i64 r.2.2]) (by rw [← HR.out]; simp [results, Tryd.results75, go_sem, wholV, *]; try ((repeat' split) <;> simp_all <;> omega)) rfl ?_
        first | exact ⟨rfl, (HU.out.setCell (p := ⟨w.heap.size, 0, none⟩) (Nat.le_refl _) _).setCell (p := ⟨w.heap.size, 1, none⟩) (Nat.le_refl _) _⟩ | exact ⟨rfl, (Up.refl w).alloc _⟩
    have h0b : (b == 0) = false := by simpa using h0
    by_cases hn : b < 0
    · obtain ⟨f, hf⟩ : ∃ f, flF (wrap64 (-a)) (wrap64 (-b)) = f := ⟨_, rfl⟩
      rw [if_neg h0, if_pos hn, hf] at hr
      have HF := Lib.hid (fun w => r04_floor (wrap64 (-a)) (wrap64 (-b)) f hf (by obtain ⟨g1, g2⟩ := HB.out; unfold wrap64; omega) w)
      have HR := Lib.hid hr
      clear hr hf
      go_enter Tryd.func75, Tryd.ntmps75
      go_wp2_with (go_at_call 82; refine (HF.out _).mono ?_; rintro e x ⟨rfl, hx⟩; replace HU := Lib.hid (HU.out.trans hx); replace B2 := Lib.hid (B2.out.up hx); clear hx; obtain ⟨z0, z1⟩ := B2.out.two; have zf := B2.out.frozen)
      all_goals try simp only [Bool.not_eq_false', Bool.not_eq_true', bne_iff_ne, ne_eq, bne_eq_false_iff_eq, beq_iff_eq, beq_eq_false_iff_ne, decide_eq_true_eq, decide_eq_false_iff_not] at *
      all_goals
        refine bodyPost_ret (v := .tuple #[.agg #[.int .i64 r.1, .int .i64 r.2.1], .int .i64 r.2.2]) (by rw [← HR.out]; simp [results, Tryd.results75, go_sem, wholV, *]; try ((repeat' split) <;> simp_all <;> omega)) rfl ?_
        first | exact ⟨rfl, (HU.out.setCell (p := ⟨w.heap.size, 0, none⟩) (Nat.le_refl _) _).setCell (p := ⟨w.heap.size, 1, none⟩) (Nat.le_refl _) _⟩ | exact ⟨rfl, (Up.refl w).alloc _⟩
    · obtain ⟨f, hf⟩ : ∃ f, flF a b = f := ⟨_, rfl⟩
      have hn2 : 0 ≤ b := by omega
      rw [if_neg h0, if_neg hn, hf] at hr
      have HF := Lib.hid (fun w => r04_floor a b f hf h0 w)
      have HR := Lib.hid hr
      clear hr hf hn
      go_enter Tryd.func75, Tryd.ntmps75
      go_wp2_with (go_at_call 82; refine (HF.out _).mono ?_; rintro e x ⟨rfl, hx⟩; replace HU := Lib.hid (HU.out.trans hx); replace B2 := Lib.hid (B2.out.up hx); clear hx; obtain ⟨z0, z1⟩ := B2.out.two; have zf := B2.out.frozen)
      all_goals try simp only [Bool.not_eq_false', Bool.not_eq_true', bne_iff_ne, ne_eq, bne_eq_false_iff_eq, beq_iff_eq, beq_eq_false_iff_ne, decide_eq_true_eq, decide_eq_false_iff_not] at *
      all_goals
        refine bodyPost_ret (v := .tuple #[.agg #[.int .i64 r.1, .int .i64 r.2.1], .int .i64 r.2.2]) (by rw [← HR.out]; simp [results, Tryd.results75, go_sem, wholV, *]; try ((repeat' split) <;> simp_all <;> omega)) rfl ?_
        first | exact ⟨rfl, (HU.out.setCell (p := ⟨w.heap.size, 0, none⟩) (Nat.le_refl _) _).setCell (p := ⟨w.heap.size, 1, none⟩) (Nat.le_refl _) _⟩ | exact ⟨rfl, (Up.refl w).alloc _⟩
  · rw [if_neg h4, if_neg h5, if_neg h6, if_neg h7] at hr
    have h4b : (op == 4) = false := by simpa using h4
    have h5b : (op == 5) = false := by simpa using h5
    have h6b : (op == 6) = false := by simpa using h6
    have h7b : (op == 7) = false := by simpa using h7
    have HR := Lib.hid hr
    clear hr
    go_enter Tryd.func75, Tryd.ntmps75
    go_wp2
    all_goals try simp only [Bool.not_eq_false', Bool.not_eq_true', bne_iff_ne, ne_eq, bne_eq_false_iff_eq, beq_iff_eq, beq_eq_false_iff_ne, decide_eq_true_eq, decide_eq_false_iff_not] at *
    all_goals
      refine bodyPost_ret (v := .tuple #[.agg #[.int .i64 r.1, .int .i64 r.2.1], .int .i64 r.2.2]) (by rw [← HR.out]; simp [results, Tryd.results75, go_sem, wholV, *]; try ((repeat' split) <;> simp_all <;> omega)) rfl ?_
      first | exact ⟨rfl, (HU.out.setCell (p := ⟨w.heap.size, 0, none⟩) (Nat.le_refl _) _).setCell (p := ⟨w.heap.size, 1, none⟩) (Nat.le_refl _) _⟩ | exact ⟨rfl, (Up.refl w).alloc _⟩

end Go.Proofs.YtbpojmhgifgfdaaDoor
end
