/-
  Merged by a program (tools/mrg.py): B, M.
-/
import Derived.WalkKit
import Derived.WalkSpells
import Derived.WalkLawsBesides
import Derived.ProofKit
import Derived.Outline
import Derived.OpenShut
import Derived.BigQuiet
import Derived.Below
import Derived.WalkSmall
import Derived.Deep.RegionWith
import Derived.Deep.DeepFit
import Derived.Lib.Hide
import Derived.RowKit
import Derived.IntWalk
import Derived.Laws.Bits64

section
namespace Go.Proofs.YtbpojmhgifgfdaaDoor
set_option linter.unusedVariables false
set_option linter.unusedSimpArgs false
open Go.ChangeShapes Go.WideShapes Go.ChangeAt Go.RowKit

theorem ret_int {k : IntKind} {a b : Int} (h : a = b) : Ending.returned (.int k a) = .returned (.int k b) := by rw [h]
theorem ret_bool {a b : Bool} (h : a = b) : Ending.returned (.bool a) = .returned (.bool b) := by rw [h]

theorem ret_ii {k l : IntKind} {a b c d : Int} (h : a = c) (g : b = d) : Ending.returned (.tuple #[.int k a, .int l b]) = .returned (.tuple #[.int k c, .int l d]) := by rw [h, g]
theorem ret_ib {k : IntKind} {a c : Int} {b d : Bool} (h : a = c) (g : b = d) : Ending.returned (.tuple #[.int k a, .bool b]) = .returned (.tuple #[.int k c, .bool d]) := by rw [h, g]

/-- The world only grew: no block that was there has turned. -/
def Up (w w' : World) : Prop := Below w.heap.size w w'

theorem Up.refl (w : World) : Up w w := Below.refl _ _
theorem Up.size {w w' : World} (h : Up w w') : w.heap.size ≤ w'.heap.size := Below.size h
theorem Up.trans {a b c : World} (h : Up a b) (k : Up b c) : Up a c := Below.trans h (Below.mono k h.size)
theorem Up.drew {a w : World} (h : Up a w) : Up a w.drew := Below.drew h
theorem Up.drewN {a w : World} (n : Nat) (h : Up a w) : Up a (w.drewN n) := below_drewN h n
theorem Up.alloc {a w : World} (h : Up a w) (o : Obj) : Up a (w.alloc o) := Below.alloc h h.size o
theorem Up.setCell {a w : World} (h : Up a w) {p : Addr} (hp : a.heap.size ≤ p.block) (u : Value) : Up a (w.setCell p u) := Below.setCell h hp u
theorem Up.cell {w w' : World} (h : Up w w') (b o : Nat) (hb : b < w.heap.size) : w'.cell? ⟨b, o, none⟩ = w.cell? ⟨b, o, none⟩ := Below.cell (p := ⟨b, o, none⟩) h hb
theorem Up.frozen {w w' : World} (h : Up w w') (b o : Nat) (hb : b < w.heap.size) : w'.frozen? ⟨b, o, none⟩ = w.frozen? ⟨b, o, none⟩ := Below.frozen (p := ⟨b, o, none⟩) h hb
theorem Up.heap {w w' : World} (h : Up w w') (b : Nat) (hb : b < w.heap.size) : w'.heap[b]? = w.heap[b]? := Below.block h b hb
theorem Up.both {W w1 : World} (hb : Up W w1) : (∀ b o, b < W.heap.size → w1.cell? ⟨b, o, none⟩ = W.cell? ⟨b, o, none⟩) ∧ (∀ b o, b < W.heap.size → w1.frozen? ⟨b, o, none⟩ = W.frozen? ⟨b, o, none⟩) := ⟨hb.cell, hb.frozen⟩

/-- A world that only grew out of w. -/
def Ext (w : World) : Type := { x : World // Up w x }
instance (w : World) : Nonempty (Ext w) := ⟨⟨w, Up.refl w⟩⟩
def Ext.w {w : World} (i : Ext w) : World := i.1
theorem Ext.up {w : World} (i : Ext w) : Up w i.w := i.2
theorem Ext.cell_eq {w : World} (i : Ext w) (b o : Nat) (hb : b < w.heap.size) : i.w.cell? ⟨b, o, none⟩ = w.cell? ⟨b, o, none⟩ := i.up.cell b o hb
theorem Ext.frozen_eq {w : World} (i : Ext w) (b o : Nat) (hb : b < w.heap.size) : i.w.frozen? ⟨b, o, none⟩ = w.frozen? ⟨b, o, none⟩ := i.up.frozen b o hb
attribute [go_sem] Ext.cell_eq Ext.frozen_eq

/-- A region that draws its order, whose operations only read and whose callees only make memory: one walk in the text's order. -/
theorem wp_region_ext {P : Program} {id : Nat} {Q : Exit → Act → World → Prop} {a : Act} {w : World} {l : List Oper} (hm : P.follows .mixedOrders = true) (hB : Region.lexB .any l.toArray = true)
    (h : wpQuiet P l.toArray (fun x => ∃ i : Ext w, x = i.w) (fun a' => ∀ x, Up w x → Q .normal a' x) l a) : (Code.region id l.toArray true).wp P Q a w := by
  have e : (fun a' => ∀ x, Up w x → Q .normal a' x) = (fun a' => ∀ x, (∃ i : Ext w, x = i.w) → Q .normal a' x) := by
    funext a'
    exact propext ⟨fun H x ⟨i, hi⟩ => hi ▸ H i.w i.up, fun H x hx => H x ⟨⟨x, hx⟩, rfl⟩⟩
  rw [e] at h
  exact wp_region_quiet hm hB ⟨⟨{ w with drawn := w.drawn + 1 }, (Up.refl w).drew⟩, rfl⟩ h

/-- A callee's contract, met inside such a region. -/
theorem Calls.ext_of {P : Program} {f : FuncId} {args : Array Value} {w : World} {i : Ext w} {v : Value}
    (h : Calls P f args i.w fun e x => e = .returned v ∧ Up i.w x) : Calls P f args i.w fun e x => e = .returned v ∧ ∃ j : Ext w, x = j.w :=
  h.mono fun _ x ⟨he, hx⟩ => ⟨he, ⟨x, i.up.trans hx⟩, rfl⟩
end Go.Proofs.YtbpojmhgifgfdaaDoor
end

section
namespace Go.Proofs.YtbpojmhgifgfdaaDoor
set_option linter.unusedVariables false
open Go.RowKit
set_option linter.unusedSimpArgs false

def mag (n : Int) : Int := if n < 0 then -n else n
theorem mag_nonneg (n : Int) : 0 ≤ mag n := by unfold mag; split <;> omega
theorem mag_natAbs (n : Int) : mag n = n.natAbs := by unfold mag; split <;> omega

theorem gcd_step (a b : Int) (ha : 0 ≤ a) (hb : 0 ≤ b) : Int.gcd b (a % b) = Int.gcd a b := by
  obtain ⟨x, rfl⟩ := Int.eq_ofNat_of_zero_le ha
  obtain ⟨y, rfl⟩ := Int.eq_ofNat_of_zero_le hb
  rw [← Int.natCast_emod, Int.gcd_natCast_natCast, Int.gcd_natCast_natCast, Nat.gcd_comm x y, Nat.gcd_rec y x, Nat.gcd_comm]

theorem gcd_mag (a b : Int) : Int.gcd (mag a) (mag b) = Int.gcd a b := by
  rw [mag_natAbs, mag_natAbs]; simp [Int.gcd]

theorem gcd_mag_left (a b : Int) : Int.gcd (mag a) b = Int.gcd a b := by
  rw [mag_natAbs]; simp [Int.gcd]

theorem wrap_u64_neg (n : Int) (h1 : -9223372036854775808 ≤ n) (h2 : n < 0) : IntKind.u64.wrap (-IntKind.u64.wrap n) = -n := by
  rw [IntKind.wrap_u64, IntKind.wrap_u64]; omega
/-- What 'New' of package frac returns: numerator, denominator, error. -/
def newF (n d : Int) : Int × Int × Int :=
  if d = 0 then (0, 0, 4)
  else if 2147483647 < mag n / (Int.gcd n d : Int) ∨ 2147483647 < mag d / (Int.gcd n d : Int) then (0, 0, 3)
  else if decide (n < 0) != decide (d < 0) then (-(mag n / (Int.gcd n d : Int)), mag d / (Int.gcd n d : Int), 0)
  else (mag n / (Int.gcd n d : Int), mag d / (Int.gcd n d : Int), 0)

def isMode (how : Int) : Bool := decide (1 ≤ how ∧ how ≤ 4)

/-- The rounded quotient of two magnitudes. -/
def rnd (a b : Int) (neg : Bool) (how : Int) : Int :=
  if a % b = 0 ∨ how = 3 then a / b
  else if (how = 1 ∧ neg = false) ∨ (how = 2 ∧ neg = true) then a / b
  else if how = 4 ∧ (2 * (a % b) < b ∨ 2 * (a % b) = b ∧ a / b % 2 = 0) then a / b
  else a / b + 1

theorem rnd_bd (a b : Int) (neg : Bool) (how : Int) (ha : 0 ≤ a) (hb : 1 ≤ b) : 0 ≤ rnd a b neg how ∧ rnd a b neg how ≤ a := by
  have hq0 : 0 ≤ a / b := Int.ediv_nonneg ha (by omega)
  have hq1 : a / b ≤ a := Int.ediv_le_self _ ha
  have hr0 : 0 ≤ a % b := Int.emod_nonneg _ (by omega)
  have hr1 : a % b < b := Int.emod_lt_of_pos _ (by omega)
  have hd := Int.mul_ediv_add_emod a b
  have key : a % b ≠ 0 → a / b + 1 ≤ a := by
    intro h
    have h2 : 2 ≤ b := by omega
    have h3 : 2 * (a / b) ≤ b * (a / b) := Int.mul_le_mul_of_nonneg_right h2 hq0
    omega
  unfold rnd
  repeat' split
  all_goals first | omega | (have := key (by omega); omega)

theorem wrap_i64_neg (m : Int) (h0 : 0 ≤ m) (h1 : m ≤ 9223372036854775808) : wrap64 (IntKind.u64.wrap (-m)) = -m := by
  rw [wrap64, IntKind.wrap_u64]; omega

/-- What 'Divide' of package round returns: the quotient, the error. -/
def divR (n d how : Int) : Int × Int :=
  if isMode how = false then (0, 1)
  else if d = 0 then (0, 4)
  else if decide (n < 0) != decide (d < 0) then (-(rnd (mag n) (mag d) (decide (n < 0) != decide (d < 0)) how), 0)
  else if 9223372036854775808 ≤ rnd (mag n) (mag d) (decide (n < 0) != decide (d < 0)) how then (0, 3)
  else (rnd (mag n) (mag d) (decide (n < 0) != decide (d < 0)) how, 0)

theorem tdiv_mag (n d : Int) : (n.tdiv d = if decide (n < 0) != decide (d < 0) then -(mag n / mag d) else mag n / mag d) ∧ (n.tmod d = if n < 0 then -(mag n % mag d) else mag n % mag d) := by
  have e : ∀ a b : Int, 0 ≤ a → 0 ≤ b → a.tdiv b = a / b ∧ a.tmod b = a % b := fun a b h1 _ => ⟨Int.tdiv_eq_ediv_of_nonneg h1, Int.tmod_eq_emod_of_nonneg h1⟩
  by_cases h1 : n < 0
  · by_cases h2 : d < 0
    · obtain ⟨e1, e2⟩ := e (-n) (-d) (by omega) (by omega)
      have f1 : n.tdiv d = (-n).tdiv (-d) := by rw [Int.neg_tdiv, Int.tdiv_neg]; omega
      have f2 : n.tmod d = -((-n).tmod (-d)) := by rw [Int.neg_tmod, Int.tmod_neg]; omega
      simp only [mag, h1, h2, if_true]
      simp [f1, f2, e1, e2]
    · obtain ⟨e1, e2⟩ := e (-n) d (by omega) (by omega)
      have f1 : n.tdiv d = -((-n).tdiv d) := by rw [Int.neg_tdiv]; omega
      have f2 : n.tmod d = -((-n).tmod d) := by rw [Int.neg_tmod]; omega
      simp only [mag, h1, h2, if_true, if_false]
      simp [f1, f2, e1, e2]
  · by_cases h2 : d < 0
    · obtain ⟨e1, e2⟩ := e n (-d) (by omega) (by omega)
      have f1 : n.tdiv d = -(n.tdiv (-d)) := by rw [Int.tdiv_neg]; omega
      have f2 : n.tmod d = n.tmod (-d) := by rw [Int.tmod_neg]
      simp only [mag, h1, h2, if_true, if_false]
      simp [f1, f2, e1, e2]
    · obtain ⟨e1, e2⟩ := e n d (by omega) (by omega)
      simp only [mag, h1, h2, if_false]
      simp [e1, e2]

/-- The quotient of the reference. -/
def refD (q r d how : Int) : Int :=
  if r = 0 then q
  else if how = 1 then (if decide (r < 0) != decide (d < 0) then q - 1 else q)
  else if how = 2 then (if decide (r < 0) != decide (d < 0) then q - 1 else q) + 1
  else if how = 3 then q
  else if mag d - mag r < mag r ∨ (mag r = mag d - mag r ∧ q.tmod 2 ≠ 0) then (if decide (r < 0) != decide (d < 0) then q - 1 else q + 1)
  else q

theorem tmod_two (q : Int) : q.tmod 2 = if q < 0 then -((-q) % 2) else q % 2 := by
  split
  · have : q.tmod 2 = -((-q).tmod 2) := by rw [Int.neg_tmod]; omega
    rw [this, Int.tmod_eq_emod_of_nonneg (by omega)]
  · exact Int.tmod_eq_emod_of_nonneg (by omega)

theorem rnd_le (a b : Int) (neg : Bool) (how : Int) : rnd a b neg how ≤ a / b + 1 := by
  unfold rnd
  repeat' split
  all_goals omega

theorem divR_ref (n d how : Int) (hM : isMode how = true) (hd : d ≠ 0) (hn : -9223372036854775808 ≤ n ∧ n ≤ 9223372036854775807) (hx : ¬ (d = -1 ∧ n = -9223372036854775808)) : divR n d how = (refD (n.tdiv d) (n.tmod d) d how, 0) := by
  obtain ⟨e1, e2⟩ := tdiv_mag n d
  have hw : 1 ≤ how ∧ how ≤ 4 := by simpa [isMode] using hM
  have hmd1 : 1 ≤ mag d := by unfold mag; split <;> omega
  have hmn := mag_nonneg n
  have hR0 : 0 ≤ mag n % mag d := Int.emod_nonneg _ (by omega)
  have hR1 : mag n % mag d < mag d := Int.emod_lt_of_pos _ (by omega)
  have hQ0 : 0 ≤ mag n / mag d := Int.ediv_nonneg hmn (by omega)
  have hQ1 : mag n / mag d ≤ mag n := Int.ediv_le_self _ hmn
  have hmul := Int.mul_ediv_add_emod (mag n) (mag d)
  have hlt : ¬ (decide (n < 0) != decide (d < 0)) = true → rnd (mag n) (mag d) (decide (n < 0) != decide (d < 0)) how < 9223372036854775808 := by
    intro hneg
    have hb := (rnd_bd (mag n) (mag d) (decide (n < 0) != decide (d < 0)) how hmn hmd1).2
    by_cases h0 : n < 0
    · have h1 : d < 0 := by simpa [h0] using hneg
      have hl := rnd_le (mag n) (mag d) (decide (n < 0) != decide (d < 0)) how
      by_cases h2 : d = -1
      · have : mag n = -n := by simp [mag, h0]
        omega
      · have h3 : 2 ≤ mag d := by unfold mag; split <;> omega
        have h4 : 2 * (mag n / mag d) ≤ mag d * (mag n / mag d) := Int.mul_le_mul_of_nonneg_right h3 hQ0
        have : mag n = -n := by simp [mag, h0]
        omega
    · have : mag n = n := by unfold mag; split <;> omega
      omega
  rw [divR, if_neg (by simp [hM]), if_neg hd]
  have t2 := tmod_two (n.tdiv d)
  generalize hA : mag n = A at *
  generalize hB : mag d = B at *
  generalize hQ : A / B = Q at *
  generalize hR : A % B = R at *
  have m1 : mag R = R := by unfold mag; split <;> omega
  have m2 : mag (-R) = R := by unfold mag; split <;> omega
  by_cases hR00 : R = 0
  · have e3 : n.tmod d = 0 := by rw [e2]; split <;> omega
    have e4 : ∀ neg, rnd A B neg how = Q := fun neg => by rw [rnd, if_pos (Or.inl (by rw [hR]; exact hR00)), hQ]
    rw [refD, if_pos e3, e1]
    by_cases hs : (decide (n < 0) != decide (d < 0)) = true
    · simp only [hs, if_true, e4]
    · have := hlt hs
      rw [if_neg hs, if_neg (by omega), if_neg hs, e4]
  · have hhow : how = 1 ∨ how = 2 ∨ how = 3 ∨ how = 4 := by omega
    have t3 : Q.tmod 2 = 0 ↔ Q % 2 = 0 := by rw [tmod_two]; split <;> omega
    clear t2
    by_cases hn0 : n < 0
    · have e5 : n.tmod d = -R := by rw [e2, if_pos hn0]
      have s1 : -R < 0 := by omega
      by_cases hd0 : d < 0
      · simp only [hn0, hd0, decide_true, decide_false, bne_self_eq_false, Bool.false_eq_true, Bool.true_bne, Bool.false_bne, Bool.not_false, Bool.not_true, if_false, if_true] at e1 hlt ⊢
        have := hlt (by simp)
        rw [if_neg (by omega), e5, e1]
        clear hlt e1 e2 e5 hx hmul hQ1 hA hn
        refine Prod.ext ?_ rfl
        rcases hhow with rfl | rfl | rfl | rfl <;> simp [rnd, refD, hR, hQ, hB, m2, hd0, s1, hR00, t3] <;> (repeat' split) <;> omega
      · simp only [hn0, hd0, decide_true, decide_false, bne_self_eq_false, Bool.false_eq_true, Bool.true_bne, Bool.false_bne, Bool.not_false, Bool.not_true, if_false, if_true] at e1 hlt ⊢
        rw [e5, e1]
        clear hlt e1 e2 e5 hx hmul hQ1 hA hn
        refine Prod.ext ?_ rfl
        rcases hhow with rfl | rfl | rfl | rfl <;> simp [rnd, refD, hR, hQ, hB, m2, hd0, s1, hR00, t3] <;> (repeat' split) <;> omega
    · have e5 : n.tmod d = R := by rw [e2, if_neg hn0]
      have s1 : ¬ R < 0 := by omega
      by_cases hd0 : d < 0
      · simp only [hn0, hd0, decide_true, decide_false, bne_self_eq_false, Bool.false_eq_true, Bool.true_bne, Bool.false_bne, Bool.not_false, Bool.not_true, if_false, if_true] at e1 hlt ⊢
        rw [e5, e1]
        clear hlt e1 e2 e5 hx hmul hQ1 hA hn
        refine Prod.ext ?_ rfl
        rcases hhow with rfl | rfl | rfl | rfl <;> simp [rnd, refD, hR, hQ, hB, m1, hd0, s1, hR00, t3] <;> (repeat' split) <;> omega
      · simp only [hn0, hd0, decide_true, decide_false, bne_self_eq_false, Bool.false_eq_true, Bool.true_bne, Bool.false_bne, Bool.not_false, Bool.not_true, if_false, if_true] at e1 hlt ⊢
        have := hlt (by simp)
        rw [if_neg (by omega), e5, e1]
        clear hlt e1 e2 e5 hx hmul hQ1 hA hn
        refine Prod.ext ?_ rfl
        rcases hhow with rfl | rfl | rfl | rfl <;> simp [rnd, refD, hR, hQ, hB, m1, hd0, s1, hR00, t3] <;> (repeat' split) <;> omega

theorem div_facts (n d : Int) (hd : d ≠ 0) (hd1 : d ≠ -1) (hn1 : -9223372036854775808 ≤ n) (hn2 : n ≤ 9223372036854775807) :
    -9223372036854775808 ≤ n.tdiv d ∧ n.tdiv d ≤ 9223372036854775807 ∧ mag (n.tmod d) < mag d ∧ (n.tmod d ≠ 0 → -4611686018427387904 ≤ n.tdiv d ∧ n.tdiv d ≤ 4611686018427387904) := by
  obtain ⟨e1, e2⟩ := tdiv_mag n d
  have hmn := mag_nonneg n
  have hmn2 : mag n ≤ 9223372036854775808 := by unfold mag; split <;> omega
  have hmd1 : 1 ≤ mag d := by unfold mag; split <;> omega
  have hR0 : 0 ≤ mag n % mag d := Int.emod_nonneg _ (by omega)
  have hR1 : mag n % mag d < mag d := Int.emod_lt_of_pos _ (by omega)
  have hQ0 : 0 ≤ mag n / mag d := Int.ediv_nonneg hmn (by omega)
  have hQ1 : mag n / mag d ≤ mag n := Int.ediv_le_self _ hmn
  have hmul := Int.mul_ediv_add_emod (mag n) (mag d)
  have h2 : d ≠ 1 → 2 * (mag n / mag d) ≤ mag d * (mag n / mag d) := fun h => Int.mul_le_mul_of_nonneg_right (by unfold mag; split <;> omega) hQ0
  have hr : mag (n.tmod d) = mag n % mag d := by
    rw [e2]; generalize mag n % mag d = R at *; unfold mag; split <;> split <;> omega
  by_cases h1 : d = 1
  · subst h1
    simp at e1 e2 ⊢
    refine ⟨hn1, hn2, ?_⟩
    simp [mag]
  · have := h2 h1
    rw [hr, e1]
    refine ⟨?_, ?_, hR1, fun _ => ?_⟩
    · split <;> omega
    · split <;> omega
    · split <;> omega
end Go.Proofs.YtbpojmhgifgfdaaDoor
end
