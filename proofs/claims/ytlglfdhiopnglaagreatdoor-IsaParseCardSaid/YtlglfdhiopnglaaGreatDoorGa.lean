/-
  Joined by a program: B, M, Sl, Pe, PeA, Mk, MkS, PeG, PeH, PeS, PeU.
-/
import Derived.WalkKit
import Derived.WalkSpells
import Derived.WalkLawsBesides
import Derived.ProofKit
import Derived.Outline
import Derived.OpenShut
import Derived.BigQuiet
import Derived.Below
import Derived.WalkSmall
import Derived.Deep.RegionWith
import Derived.Deep.DeepFit
import Derived.Lib.Hide
import Derived.RowKit
import Derived.IntWalk
import Derived.Laws.Bits64
import Derived.Maps.AppendAt
import Derived.Deep.AppendLies
import Derived.OwnWalk
import Derived.Laws.Rows
import Derived.OneCell
import Derived.Test.YtlglfdhiopnglaaGreatDoorRows
import Derived.StillTail
import Derived.Deep.QuietTactic

section
namespace Go.Proofs.YtlglfdhiopnglaaGreatDoor
set_option linter.unusedVariables false
set_option linter.unusedSimpArgs false
open Go.ChangeShapes Go.WideShapes Go.ChangeAt Go.RowKit

theorem ret_int {k : IntKind} {a b : Int} (h : a = b) : Ending.returned (.int k a) = .returned (.int k b) := by rw [h]
theorem ret_bool {a b : Bool} (h : a = b) : Ending.returned (.bool a) = .returned (.bool b) := by rw [h]

theorem ret_ii {k l : IntKind} {a b c d : Int} (h : a = c) (g : b = d) : Ending.returned (.tuple #[.int k a, .int l b]) = .returned (.tuple #[.int k c, .int l d]) := by rw [h, g]
theorem ret_ib {k : IntKind} {a c : Int} {b d : Bool} (h : a = c) (g : b = d) : Ending.returned (.tuple #[.int k a, .bool b]) = .returned (.tuple #[.int k c, .bool d]) := by rw [h, g]

/-- The world only grew: no block that was there has turned. -/
def Up (w w' : World) : Prop := Below w.heap.size w w'

theorem Up.refl (w : World) : Up w w := Below.refl _ _
theorem Up.size {w w' : World} (h : Up w w') : w.heap.size ≤ w'.heap.size := Below.size h
theorem Up.trans {a b c : World} (h : Up a b) (k : Up b c) : Up a c := Below.trans h (Below.mono k h.size)
theorem Up.drew {a w : World} (h : Up a w) : Up a w.drew := Below.drew h
theorem Up.drewN {a w : World} (n : Nat) (h : Up a w) : Up a (w.drewN n) := below_drewN h n
theorem Up.alloc {a w : World} (h : Up a w) (o : Obj) : Up a (w.alloc o) := Below.alloc h h.size o
theorem Up.setCell {a w : World} (h : Up a w) {p : Addr} (hp : a.heap.size ≤ p.block) (u : Value) : Up a (w.setCell p u) := Below.setCell h hp u
theorem Up.cell {w w' : World} (h : Up w w') (b o : Nat) (hb : b < w.heap.size) : w'.cell? ⟨b, o, none⟩ = w.cell? ⟨b, o, none⟩ := Below.cell (p := ⟨b, o, none⟩) h hb
theorem Up.frozen {w w' : World} (h : Up w w') (b o : Nat) (hb : b < w.heap.size) : w'.frozen? ⟨b, o, none⟩ = w.frozen? ⟨b, o, none⟩ := Below.frozen (p := ⟨b, o, none⟩) h hb
theorem Up.heap {w w' : World} (h : Up w w') (b : Nat) (hb : b < w.heap.size) : w'.heap[b]? = w.heap[b]? := Below.block h b hb
theorem Up.both {W w1 : World} (hb : Up W w1) : (∀ b o, b < W.heap.size → w1.cell? ⟨b, o, none⟩ = W.cell? ⟨b, o, none⟩) ∧ (∀ b o, b < W.heap.size → w1.frozen? ⟨b, o, none⟩ = W.frozen? ⟨b, o, none⟩) := ⟨hb.cell, hb.frozen⟩

/-- A world that only grew out of w. -/
def Ext (w : World) : Type := { x : World // Up w x }
instance (w : World) : Nonempty (Ext w) := ⟨⟨w, Up.refl w⟩⟩
def Ext.w {w : World} (i : Ext w) : World := i.1
theorem Ext.up {w : World} (i : Ext w) : Up w i.w := i.2
theorem Ext.cell_eq {w : World} (i : Ext w) (b o : Nat) (hb : b < w.heap.size) : i.w.cell? ⟨b, o, none⟩ = w.cell? ⟨b, o, none⟩ := i.up.cell b o hb
theorem Ext.frozen_eq {w : World} (i : Ext w) (b o : Nat) (hb : b < w.heap.size) : i.w.frozen? ⟨b, o, none⟩ = w.frozen? ⟨b, o, none⟩ := i.up.frozen b o hb
attribute [go_sem] Ext.cell_eq Ext.frozen_eq

/-- A region that draws its order, whose operations only read and whose callees only make memory: one walk in the text's order. -/
theorem wp_region_ext {P : Program} {id : Nat} {Q : Exit → Act → World → Prop} {a : Act} {w : World} {l : List Oper} (hm : P.follows .mixedOrders = true) (hB : Region.lexB .any l.toArray = true)
    (h : wpQuiet P l.toArray (fun x => ∃ i : Ext w, x = i.w) (fun a' => ∀ x, Up w x → Q .normal a' x) l a) : (Code.region id l.toArray true).wp P Q a w := by
  have e : (fun a' => ∀ x, Up w x → Q .normal a' x) = (fun a' => ∀ x, (∃ i : Ext w, x = i.w) → Q .normal a' x) := by
    funext a'
    exact propext ⟨fun H x ⟨i, hi⟩ => hi ▸ H i.w i.up, fun H x hx => H x ⟨⟨x, hx⟩, rfl⟩⟩
  rw [e] at h
  exact wp_region_quiet hm hB ⟨⟨{ w with drawn := w.drawn + 1 }, (Up.refl w).drew⟩, rfl⟩ h

/-- A callee's contract, met inside such a region. -/
theorem Calls.ext_of {P : Program} {f : FuncId} {args : Array Value} {w : World} {i : Ext w} {v : Value}
    (h : Calls P f args i.w fun e x => e = .returned v ∧ Up i.w x) : Calls P f args i.w fun e x => e = .returned v ∧ ∃ j : Ext w, x = j.w :=
  h.mono fun _ x ⟨he, hx⟩ => ⟨he, ⟨x, i.up.trans hx⟩, rfl⟩
end Go.Proofs.YtlglfdhiopnglaaGreatDoor
end

section
namespace Go.Proofs.YtlglfdhiopnglaaGreatDoor
set_option linter.unusedVariables false
open Go.RowKit
set_option linter.unusedSimpArgs false

def mag (n : Int) : Int := if n < 0 then -n else n
theorem mag_nonneg (n : Int) : 0 ≤ mag n := by unfold mag; split <;> omega
theorem mag_natAbs (n : Int) : mag n = n.natAbs := by unfold mag; split <;> omega

theorem gcd_step (a b : Int) (ha : 0 ≤ a) (hb : 0 ≤ b) : Int.gcd b (a % b) = Int.gcd a b := by
  obtain ⟨x, rfl⟩ := Int.eq_ofNat_of_zero_le ha
  obtain ⟨y, rfl⟩ := Int.eq_ofNat_of_zero_le hb
  rw [← Int.natCast_emod, Int.gcd_natCast_natCast, Int.gcd_natCast_natCast, Nat.gcd_comm x y, Nat.gcd_rec y x, Nat.gcd_comm]

theorem gcd_mag (a b : Int) : Int.gcd (mag a) (mag b) = Int.gcd a b := by
  rw [mag_natAbs, mag_natAbs]; simp [Int.gcd]

theorem gcd_mag_left (a b : Int) : Int.gcd (mag a) b = Int.gcd a b := by
  rw [mag_natAbs]; simp [Int.gcd]

theorem wrap_u64_neg (n : Int) (h1 : -9223372036854775808 ≤ n) (h2 : n < 0) : IntKind.u64.wrap (-IntKind.u64.wrap n) = -n := by
  rw [IntKind.wrap_u64, IntKind.wrap_u64]; omega
/-- What 'New' of package frac returns: numerator, denominator, error. -/
def newF (n d : Int) : Int × Int × Int :=
  if d = 0 then (0, 0, 4)
  else if 2147483647 < mag n / (Int.gcd n d : Int) ∨ 2147483647 < mag d / (Int.gcd n d : Int) then (0, 0, 3)
  else if decide (n < 0) != decide (d < 0) then (-(mag n / (Int.gcd n d : Int)), mag d / (Int.gcd n d : Int), 0)
  else (mag n / (Int.gcd n d : Int), mag d / (Int.gcd n d : Int), 0)

def isMode (how : Int) : Bool := decide (1 ≤ how ∧ how ≤ 4)

/-- The rounded quotient of two magnitudes. -/
def rnd (a b : Int) (neg : Bool) (how : Int) : Int :=
  if a % b = 0 ∨ how = 3 then a / b
  else if (how = 1 ∧ neg = false) ∨ (how = 2 ∧ neg = true) then a / b
  else if how = 4 ∧ (2 * (a % b) < b ∨ 2 * (a % b) = b ∧ a / b % 2 = 0) then a / b
  else a / b + 1

theorem rnd_bd (a b : Int) (neg : Bool) (how : Int) (ha : 0 ≤ a) (hb : 1 ≤ b) : 0 ≤ rnd a b neg how ∧ rnd a b neg how ≤ a := by
  have hq0 : 0 ≤ a / b := Int.ediv_nonneg ha (by omega)
  have hq1 : a / b ≤ a := Int.ediv_le_self _ ha
  have hr0 : 0 ≤ a % b := Int.emod_nonneg _ (by omega)
  have hr1 : a % b < b := Int.emod_lt_of_pos _ (by omega)
  have hd := Int.mul_ediv_add_emod a b
  have key : a % b ≠ 0 → a / b + 1 ≤ a := by
    intro h
    have h2 : 2 ≤ b := by omega
    have h3 : 2 * (a / b) ≤ b * (a / b) := Int.mul_le_mul_of_nonneg_right h2 hq0
    omega
  unfold rnd
  repeat' split
  all_goals first | omega | (have := key (by omega); omega)

theorem wrap_i64_neg (m : Int) (h0 : 0 ≤ m) (h1 : m ≤ 9223372036854775808) : wrap64 (IntKind.u64.wrap (-m)) = -m := by
  rw [wrap64, IntKind.wrap_u64]; omega

/-- What 'Divide' of package round returns: the quotient, the error. -/
def divR (n d how : Int) : Int × Int :=
  if isMode how = false then (0, 1)
  else if d = 0 then (0, 4)
  else if decide (n < 0) != decide (d < 0) then (-(rnd (mag n) (mag d) (decide (n < 0) != decide (d < 0)) how), 0)
  else if 9223372036854775808 ≤ rnd (mag n) (mag d) (decide (n < 0) != decide (d < 0)) how then (0, 3)
  else (rnd (mag n) (mag d) (decide (n < 0) != decide (d < 0)) how, 0)

theorem tdiv_mag (n d : Int) : (n.tdiv d = if decide (n < 0) != decide (d < 0) then -(mag n / mag d) else mag n / mag d) ∧ (n.tmod d = if n < 0 then -(mag n % mag d) else mag n % mag d) := by
  have e : ∀ a b : Int, 0 ≤ a → 0 ≤ b → a.tdiv b = a / b ∧ a.tmod b = a % b := fun a b h1 _ => ⟨Int.tdiv_eq_ediv_of_nonneg h1, Int.tmod_eq_emod_of_nonneg h1⟩
  by_cases h1 : n < 0
  · by_cases h2 : d < 0
    · obtain ⟨e1, e2⟩ := e (-n) (-d) (by omega) (by omega)
      have f1 : n.tdiv d = (-n).tdiv (-d) := by rw [Int.neg_tdiv, Int.tdiv_neg]; omega
      have f2 : n.tmod d = -((-n).tmod (-d)) := by rw [Int.neg_tmod, Int.tmod_neg]; omega
      simp only [mag, h1, h2, if_true]
      simp [f1, f2, e1, e2]
    · obtain ⟨e1, e2⟩ := e (-n) d (by omega) (by omega)
      have f1 : n.tdiv d = -((-n).tdiv d) := by rw [Int.neg_tdiv]; omega
      have f2 : n.tmod d = -((-n).tmod d) := by rw [Int.neg_tmod]; omega
      simp only [mag, h1, h2, if_true, if_false]
      simp [f1, f2, e1, e2]
  · by_cases h2 : d < 0
    · obtain ⟨e1, e2⟩ := e n (-d) (by omega) (by omega)
      have f1 : n.tdiv d = -(n.tdiv (-d)) := by rw [Int.tdiv_neg]; omega
      have f2 : n.tmod d = n.tmod (-d) := by rw [Int.tmod_neg]
      simp only [mag, h1, h2, if_true, if_false]
      simp [f1, f2, e1, e2]
    · obtain ⟨e1, e2⟩ := e n d (by omega) (by omega)
      simp only [mag, h1, h2, if_false]
      simp [e1, e2]

/-- The quotient of the reference. -/
def refD (q r d how : Int) : Int :=
  if r = 0 then q
  else if how = 1 then (if decide (r < 0) != decide (d < 0) then q - 1 else q)
  else if how = 2 then (if decide (r < 0) != decide (d < 0) then q - 1 else q) + 1
  else if how = 3 then q
  else if mag d - mag r < mag r ∨ (mag r = mag d - mag r ∧ q.tmod 2 ≠ 0) then (if decide (r < 0) != decide (d < 0) then q - 1 else q + 1)
  else q

theorem tmod_two (q : Int) : q.tmod 2 = if q < 0 then -((-q) % 2) else q % 2 := by
  split
  · have : q.tmod 2 = -((-q).tmod 2) := by rw [Int.neg_tmod]; omega
    rw [this, Int.tmod_eq_emod_of_nonneg (by omega)]
  · exact Int.tmod_eq_emod_of_nonneg (by omega)

theorem rnd_le (a b : Int) (neg : Bool) (how : Int) : rnd a b neg how ≤ a / b + 1 := by
  unfold rnd
  repeat' split
  all_goals omega

theorem divR_ref (n d how : Int) (hM : isMode how = true) (hd : d ≠ 0) (hn : -9223372036854775808 ≤ n ∧ n ≤ 9223372036854775807) (hx : ¬ (d = -1 ∧ n = -9223372036854775808)) : divR n d how = (refD (n.tdiv d) (n.tmod d) d how, 0) := by
  obtain ⟨e1, e2⟩ := tdiv_mag n d
  have hw : 1 ≤ how ∧ how ≤ 4 := by simpa [isMode] using hM
  have hmd1 : 1 ≤ mag d := by unfold mag; split <;> omega
  have hmn := mag_nonneg n
  have hR0 : 0 ≤ mag n % mag d := Int.emod_nonneg _ (by omega)
  have hR1 : mag n % mag d < mag d := Int.emod_lt_of_pos _ (by omega)
  have hQ0 : 0 ≤ mag n / mag d := Int.ediv_nonneg hmn (by omega)
  have hQ1 : mag n / mag d ≤ mag n := Int.ediv_le_self _ hmn
  have hmul := Int.mul_ediv_add_emod (mag n) (mag d)
  have hlt : ¬ (decide (n < 0) != decide (d < 0)) = true → rnd (mag n) (mag d) (decide (n < 0) != decide (d < 0)) how < 9223372036854775808 := by
    intro hneg
    have hb := (rnd_bd (mag n) (mag d) (decide (n < 0) != decide (d < 0)) how hmn hmd1).2
    by_cases h0 : n < 0
    · have h1 : d < 0 := by simpa [h0] using hneg
      have hl := rnd_le (mag n) (mag d) (decide (n < 0) != decide (d < 0)) how
      by_cases h2 : d = -1
      · have : mag n = -n := by simp [mag, h0]
        omega
      · have h3 : 2 ≤ mag d := by unfold mag; split <;> omega
        have h4 : 2 * (mag n / mag d) ≤ mag d * (mag n / mag d) := Int.mul_le_mul_of_nonneg_right h3 hQ0
        have : mag n = -n := by simp [mag, h0]
        omega
    · have : mag n = n := by unfold mag; split <;> omega
      omega
  rw [divR, if_neg (by simp [hM]), if_neg hd]
  have t2 := tmod_two (n.tdiv d)
  generalize hA : mag n = A at *
  generalize hB : mag d = B at *
  generalize hQ : A / B = Q at *
  generalize hR : A % B = R at *
  have m1 : mag R = R := by unfold mag; split <;> omega
  have m2 : mag (-R) = R := by unfold mag; split <;> omega
  by_cases hR00 : R = 0
  · have e3 : n.tmod d = 0 := by rw [e2]; split <;> omega
    have e4 : ∀ neg, rnd A B neg how = Q := fun neg => by rw [rnd, if_pos (Or.inl (by rw [hR]; exact hR00)), hQ]
    rw [refD, if_pos e3, e1]
    by_cases hs : (decide (n < 0) != decide (d < 0)) = true
    · simp only [hs, if_true, e4]
    · have := hlt hs
      rw [if_neg hs, if_neg (by omega), if_neg hs, e4]
  · have hhow : how = 1 ∨ how = 2 ∨ how = 3 ∨ how = 4 := by omega
    have t3 : Q.tmod 2 = 0 ↔ Q % 2 = 0 := by rw [tmod_two]; split <;> omega
    clear t2
    by_cases hn0 : n < 0
    · have e5 : n.tmod d = -R := by rw [e2, if_pos hn0]
      have s1 : -R < 0 := by omega
      by_cases hd0 : d < 0
      · simp only [hn0, hd0, decide_true, decide_false, bne_self_eq_false, Bool.false_eq_true, Bool.true_bne, Bool.false_bne, Bool.not_false, Bool.not_true, if_false, if_true] at e1 hlt ⊢
        have := hlt (by simp)
        rw [if_neg (by omega), e5, e1]
        clear hlt e1 e2 e5 hx hmul hQ1 hA hn
        refine Prod.ext ?_ rfl
        rcases hhow with rfl | rfl | rfl | rfl <;> simp [rnd, refD, hR, hQ, hB, m2, hd0, s1, hR00, t3] <;> (repeat' split) <;> omega
      · simp only [hn0, hd0, decide_true, decide_false, bne_self_eq_false, Bool.false_eq_true, Bool.true_bne, Bool.false_bne, Bool.not_false, Bool.not_true, if_false, if_true] at e1 hlt ⊢
        rw [e5, e1]
        clear hlt e1 e2 e5 hx hmul hQ1 hA hn
        refine Prod.ext ?_ rfl
        rcases hhow with rfl | rfl | rfl | rfl <;> simp [rnd, refD, hR, hQ, hB, m2, hd0, s1, hR00, t3] <;> (repeat' split) <;> omega
    · have e5 : n.tmod d = R := by rw [e2, if_neg hn0]
      have s1 : ¬ R < 0 := by omega
      by_cases hd0 : d < 0
      · simp only [hn0, hd0, decide_true, decide_false, bne_self_eq_false, Bool.false_eq_true, Bool.true_bne, Bool.false_bne, Bool.not_false, Bool.not_true, if_false, if_true] at e1 hlt ⊢
        rw [e5, e1]
        clear hlt e1 e2 e5 hx hmul hQ1 hA hn
        refine Prod.ext ?_ rfl
        rcases hhow with rfl | rfl | rfl | rfl <;> simp [rnd, refD, hR, hQ, hB, m1, hd0, s1, hR00, t3] <;> (repeat' split) <;> omega
      · simp only [hn0, hd0, decide_true, decide_false, bne_self_eq_false, Bool.false_eq_true, Bool.true_bne, Bool.false_bne, Bool.not_false, Bool.not_true, if_false, if_true] at e1 hlt ⊢
        have := hlt (by simp)
        rw [if_neg (by omega), e5, e1]
        clear hlt e1 e2 e5 hx hmul hQ1 hA hn
        refine Prod.ext ?_ rfl
        rcases hhow with rfl | rfl | rfl | rfl <;> simp [rnd, refD, hR, hQ, hB, m1, hd0, s1, hR00, t3] <;> (repeat' split) <;> omega

theorem div_facts (n d : Int) (hd : d ≠ 0) (hd1 : d ≠ -1) (hn1 : -9223372036854775808 ≤ n) (hn2 : n ≤ 9223372036854775807) :
    -9223372036854775808 ≤ n.tdiv d ∧ n.tdiv d ≤ 9223372036854775807 ∧ mag (n.tmod d) < mag d ∧ (n.tmod d ≠ 0 → -4611686018427387904 ≤ n.tdiv d ∧ n.tdiv d ≤ 4611686018427387904) := by
  obtain ⟨e1, e2⟩ := tdiv_mag n d
  have hmn := mag_nonneg n
  have hmn2 : mag n ≤ 9223372036854775808 := by unfold mag; split <;> omega
  have hmd1 : 1 ≤ mag d := by unfold mag; split <;> omega
  have hR0 : 0 ≤ mag n % mag d := Int.emod_nonneg _ (by omega)
  have hR1 : mag n % mag d < mag d := Int.emod_lt_of_pos _ (by omega)
  have hQ0 : 0 ≤ mag n / mag d := Int.ediv_nonneg hmn (by omega)
  have hQ1 : mag n / mag d ≤ mag n := Int.ediv_le_self _ hmn
  have hmul := Int.mul_ediv_add_emod (mag n) (mag d)
  have h2 : d ≠ 1 → 2 * (mag n / mag d) ≤ mag d * (mag n / mag d) := fun h => Int.mul_le_mul_of_nonneg_right (by unfold mag; split <;> omega) hQ0
  have hr : mag (n.tmod d) = mag n % mag d := by
    rw [e2]; generalize mag n % mag d = R at *; unfold mag; split <;> split <;> omega
  by_cases h1 : d = 1
  · subst h1
    simp at e1 e2 ⊢
    refine ⟨hn1, hn2, ?_⟩
    simp [mag]
  · have := h2 h1
    rw [hr, e1]
    refine ⟨?_, ?_, hR1, fun _ => ?_⟩
    · split <;> omega
    · split <;> omega
    · split <;> omega
end Go.Proofs.YtlglfdhiopnglaaGreatDoor
end

section
namespace Go.Proofs.YtlglfdhiopnglaaGreatDoor
set_option linter.unusedSimpArgs false
open Go.ChangeShapes Go.WideShapes Go.ChangeAt Go.RowKit
set_option linter.unusedVariables false

/-- A slice of structs of k one-cell fields that reads as f. -/
structure SlAt (w : World) (v : Value) (len k : Nat) (f : Nat → Nat → Value) : Prop where
  ex : ∃ (a : Option Addr) (cap : Nat), v = .slice a len cap ∧ (a = none → len = 0) ∧ ∀ x, a = some x → 0 < len → x.spot = none ∧ x.block < w.heap.size ∧ ∀ i j, i < len → j < k → w.cell? ⟨x.block, x.off + i * k + j, none⟩ = some (f i j)
  max : len ≤ 9223372036854775807

theorem SlAt.up {w w' : World} {v : Value} {len k : Nat} {f : Nat → Nat → Value} (h : SlAt w v len k f) (u : Up w w') : SlAt w' v len k f := by
  obtain ⟨⟨a, cap, hv, h0, h1⟩, h2⟩ := h
  refine ⟨⟨a, cap, hv, h0, fun x hx hl => ?_⟩, h2⟩
  obtain ⟨g1, g2, g3⟩ := h1 x hx hl
  exact ⟨g1, Nat.lt_of_lt_of_le g2 u.size, fun i j hi hj => (u.cell _ _ g2).trans (g3 i j hi hj)⟩

theorem SlAt.congr {w : World} {v : Value} {len k : Nat} {f g : Nat → Nat → Value} (h : SlAt w v len k f) (e : ∀ i j, i < len → j < k → f i j = g i j) : SlAt w v len k g := by
  obtain ⟨⟨a, cap, hv, h0, h1⟩, h2⟩ := h
  refine ⟨⟨a, cap, hv, h0, fun x hx hl => ?_⟩, h2⟩
  obtain ⟨g1, g2, g3⟩ := h1 x hx hl
  exact ⟨g1, g2, fun i j hi hj => by rw [← e i j hi hj]; exact g3 i j hi hj⟩

theorem SlAt.nil (w : World) (k : Nat) (f : Nat → Nat → Value) : SlAt w (.slice none 0 0) 0 k f := ⟨⟨none, 0, rfl, fun _ => rfl, fun x hx => nomatch hx⟩, by decide⟩

theorem add_lit_ne (b o k : Nat) : (⟨b, o, none⟩ : Addr).add k = ⟨b, o + k, none⟩ := by
  simp only [Addr.add]
  split
  · rename_i h; rw [h]; rfl
  · rfl

/-- All cells, in their order. -/
def flat (f : Nat → Nat → Value) (len k : Nat) : List Value := (List.range (len * k)).map fun q => f (q / k) (q % k)
theorem flat_length (f : Nat → Nat → Value) (len k : Nat) : (flat f len k).length = len * k := by simp [flat]
theorem flat_get (f : Nat → Nat → Value) (len k i j : Nat) (hi : i < len) (hj : j < k) : (flat f len k)[i * k + j]? = some (f i j) := by
  have hlt : i * k + j < len * k := by
    have : (i + 1) * k ≤ len * k := Nat.mul_le_mul_right k hi
    rw [Nat.add_mul] at this; omega
  unfold flat
  rw [List.getElem?_map, List.getElem?_range hlt]
  have hd : (i * k + j) / k = i := by rw [Nat.mul_comm, Nat.mul_add_div (by omega), Nat.div_eq_of_lt hj]; rfl
  have hm : (i * k + j) % k = j := by rw [Nat.mul_comm, Nat.mul_add_mod, Nat.mod_eq_of_lt hj]
  simp [hd, hm]
theorem flat_one (f : Nat → Nat → Value) (len : Nat) : flat f len 1 = (List.range len).map fun q => f q 0 := by
  simp only [flat, Nat.mul_one, Nat.div_one]
  refine List.map_congr_left fun a _ => ?_
  rw [Nat.mod_one]

theorem run_append_sl {P : Program} (w : World) (base : Nat) (t ty e : TypeId) (i : TypeInfo) (z : Value) (size bytes : Nat) (ht : P.underlying t = some (.slice e)) (hi : P.info? e = some i) (hz : i.zero = some z)
    (hsize : i.size = size) (hby : i.bytes = bytes) (hzs : z.cells.size = size) (hsz : 0 < size)
    (v : Value) (n : Nat) (xs : List Value) (hown : w.ownsRow base e size v n xs) (x : Value) (m : Nat) (f : Nat → Nat → Value) (hx : SlAt w x m size f) (h1 : ∀ i j, i < m → j < size → (f i j).oneCell' = true)
    (h63 : n + m ≤ maxLen) (hbytes : (n + m) * bytes ≤ 140737488355328) (hbase : base ≤ w.heap.size) :
    ∃ v' w', (Builtin.append_ #[t, t] ty #[v, x]).run P w = .ok v' w' ∧ w'.ownsRow base e size v' (n + m) (xs ++ flat f m size) ∧ w.grownBy w' v.ownBlock ∧ (v'.ownBlock = v.ownBlock ∨ v'.ownBlock = some w.heap.size) ∧ (v' = .slice none 0 0 → m = 0) := by
  obtain ⟨⟨a, cap, rfl, h0, hc⟩, hmax⟩ := hx
  by_cases hm : m = 0
  · subst hm
    have hf : flat f 0 size = [] := by simp [flat]
    rw [hf]
    cases a with
    | none =>
      have hrun : (Builtin.append_ #[t, t] ty #[v, .slice none 0 cap]).run P w = .ok v w := by
        rcases hown.2 with ⟨rfl, rfl⟩ | ⟨g, cap', cur, rfl, _, _, hnc, _⟩
        · simp [Builtin.append_, run_underlying ht, sizeOf, typeInfo, hi, Builtin.lenOf, Builtin.firstCells]
        · simp [Builtin.append_, run_underlying ht, sizeOf, typeInfo, hi, Builtin.lenOf, Builtin.firstCells, hnc, storeCells]
      exact ⟨v, w, hrun, by simpa using hown, World.grownBy.refl w _, .inl rfl, fun _ => rfl⟩
    | some ad =>
      obtain ⟨v', w', hrun, h2, h3, _, h5⟩ := run_append_own_at (P := P) w base t ty e i z size bytes ht hi hz hsize hby hzs hsz v n xs hown ad 0 cap [] (by simp) (by simp) (by simp) h63 hbytes hbase
      exact ⟨v', w', hrun, h2, h3, h5, fun _ => rfl⟩
  · cases a with
    | none => exact absurd (h0 rfl) hm
    | some ad =>
      obtain ⟨s1, s2, s3⟩ := hc ad rfl (by omega)
      obtain ⟨b, o, sp⟩ := ad
      have s1' : sp = none := s1
      subst s1'
      have key : ∀ q, q < m * size → w.cell? ⟨b, o + q, none⟩ = some (f (q / size) (q % size)) := fun q hq => by
        have hd : q / size < m := Nat.div_lt_of_lt_mul (by rw [Nat.mul_comm]; exact hq)
        have := s3 (q / size) (q % size) hd (Nat.mod_lt _ hsz)
        have he : q / size * size + q % size = q := by rw [Nat.mul_comm]; exact Nat.div_add_mod q size
        rw [← this]
        congr 2
        show o + q = o + q / size * size + q % size
        omega
      obtain ⟨v', w', hrun, h2, h3, h4, h5⟩ := run_append_own_at (P := P) w base t ty e i z size bytes ht hi hz hsize hby hzs hsz v n xs hown ⟨b, o, none⟩ m cap (flat f m size) (flat_length _ _ _)
        (fun q u hu => by
          rw [add_lit_ne]
          have hq : q < m * size := by
            have := (List.getElem?_eq_some_iff.1 hu).1
            rwa [flat_length] at this
          rw [key q hq]
          unfold flat at hu
          rw [List.getElem?_map, List.getElem?_range hq] at hu
          exact hu)
        (fun u hu => by
          unfold flat at hu
          obtain ⟨q, hq, rfl⟩ := List.mem_map.1 hu
          have hq' := List.mem_range.1 hq
          exact h1 _ _ (Nat.div_lt_of_lt_mul (by rw [Nat.mul_comm]; exact hq')) (Nat.mod_lt _ hsz))
        h63 hbytes hbase
      exact ⟨v', w', hrun, h2, h3, h5, fun e => (h4.1 e).2⟩

theorem wp_append_sl {P : Program} (w : World) {o : Oper} {a : Act} {K : Act → World → Prop} {Q : Exit → Act → World → Prop} (s x : Operand) (t : TypeId)
    (ho : o.op = .call { callee := .builtin .append, args := #[s, x], argTypes := #[t, t] })
    (base : Nat) (e : TypeId) (i : TypeInfo) (z : Value) (size bytes : Nat) (ht : P.underlying t = some (.slice e)) (hi : P.info? e = some i) (hz : i.zero = some z)
    (hsize : i.size = size) (hby : i.bytes = bytes) (hzs : z.cells.size = size) (hsz : 0 < size)
    (v : Value) (n : Nat) (xs : List Value) (hs : a.eval s = v) (hown : w.ownsRow base e size v n xs) (xv : Value) (m : Nat) (f : Nat → Nat → Value) (hxv : a.eval x = xv) (hx : SlAt w xv m size f) (h1 : ∀ i j, i < m → j < size → (f i j).oneCell' = true)
    (h63 : n + m ≤ maxLen) (hbytes : (n + m) * bytes ≤ 140737488355328) (hbase : base ≤ w.heap.size)
    (h : ∀ v' w', w'.ownsRow base e size v' (n + m) (xs ++ flat f m size) → w.grownBy w' v.ownBlock → (v'.ownBlock = v.ownBlock ∨ v'.ownBlock = some w.heap.size) → (v' = .slice none 0 0 → m = 0) → K (a.put o.dst v') w') : o.wp P a w K Q := by
  obtain ⟨v', w', hrun, h2, h3, h4, h5⟩ := run_append_sl (P := P) w base t o.type e i z size bytes ht hi hz hsize hby hzs hsz v n xs hown xv m f hx h1 h63 hbytes hbase
  unfold Oper.wp execOp
  simp only [ho, resolve, invoke, builtin, Sem.run_bind, Sem.run_pure, Result.andThen_ok, List.map_toArray, List.map_cons, List.map_nil, hs, hxv, hrun]
  exact h v' w' h2 h3 h4 h5

theorem wpList_append_sl {P : Program} (w : World) {ops : Array Oper} {rest : List Oper} {o : Oper} {a : Act} {Q : Exit → Act → World → Prop} (hgd : o.guard = none) (s x : Operand) (t : TypeId)
    (ho : o.op = .call { callee := .builtin .append, args := #[s, x], argTypes := #[t, t] })
    (base : Nat) (e : TypeId) (i : TypeInfo) (z : Value) (size bytes : Nat) (ht : P.underlying t = some (.slice e)) (hi : P.info? e = some i) (hz : i.zero = some z)
    (hsize : i.size = size) (hby : i.bytes = bytes) (hzs : z.cells.size = size) (hsz : 0 < size)
    (v : Value) (n : Nat) (xs : List Value) (hs : a.eval s = v) (hown : w.ownsRow base e size v n xs) (xv : Value) (m : Nat) (f : Nat → Nat → Value) (hxv : a.eval x = xv) (hx : SlAt w xv m size f) (h1 : ∀ i j, i < m → j < size → (f i j).oneCell' = true)
    (h63 : n + m ≤ maxLen) (hbytes : (n + m) * bytes ≤ 140737488355328) (hbase : base ≤ w.heap.size)
    (h : ∀ v' w', w'.ownsRow base e size v' (n + m) (xs ++ flat f m size) → w.grownBy w' v.ownBlock → (v'.ownBlock = v.ownBlock ∨ v'.ownBlock = some w.heap.size) → (v' = .slice none 0 0 → m = 0) → wpList P ops Q rest (a.put o.dst v') w') : wpList P ops Q (o :: rest) a w :=
  wpList_plain hgd fun _ hK => wp_append_sl w s x t ho base e i z size bytes ht hi hz hsize hby hzs hsz v n xs hs hown xv m f hxv hx h1 h63 hbytes hbase fun v' w' h2 h3 h4 h5 => hK _ _ (h v' w' h2 h3 h4 h5)

/-- A slice of the call's own reads as its list. -/
theorem SlAt.of_own {w : World} {base n k : Nat} {e : TypeId} {v : Value} {xs : List Value} {f : Nat → Nat → Value} (h : w.ownsRow base e k v n xs) (hn : n ≤ 9223372036854775807) (hf : ∀ i j, i < n → j < k → xs[i * k + j]? = some (f i j)) : SlAt w v n k f := by
  refine ⟨?_, hn⟩
  rcases h.2 with ⟨rfl, rfl⟩ | ⟨g, cap, cur, rfl, hb, hg, _⟩
  · exact ⟨none, 0, rfl, fun _ => rfl, fun x hx => nomatch hx⟩
  · refine ⟨some ⟨g, 0, none⟩, cap, rfl, (fun e => nomatch e), fun x hx hl => ?_⟩
    cases hx
    refine ⟨rfl, (Array.getElem?_eq_some_iff.1 hg).1, fun i j hi hj => ?_⟩
    have := h.cells (g := g) rfl _ _ (hf i j hi hj)
    rw [add_lit_ne] at this
    rw [← this]
    congr 2
    show 0 + i * k + j = 0 + (i * k + j)
    omega

theorem own_get {w : World} {base n k : Nat} {e : TypeId} {v : Value} {xs : List Value} (h : w.ownsRow base e k v n xs) (hn : 0 < n) :
    ∃ g cap, v = .slice (some ⟨g, 0, none⟩) n cap ∧ base ≤ g ∧ g < w.heap.size ∧ n ≤ cap ∧ (∀ o, w.frozen? ⟨g, o, none⟩ = false) ∧ ∀ q u, xs[q]? = some u → w.cell? ⟨g, q, none⟩ = some u := by
  rcases h.2 with ⟨_, h0⟩ | ⟨g, cap, cur, rfl, hb, hg, hnc, _⟩
  · omega
  · refine ⟨g, cap, rfl, hb, (Array.getElem?_eq_some_iff.1 hg).1, hnc, fun o => frozen_of_row _ _ _ _ _ hg, fun q u hq => ?_⟩
    have := h.cells (g := g) rfl _ _ hq
    rw [add_lit_ne] at this
    rw [← this]; simp

theorem own_slice {w : World} {base n k : Nat} {e : TypeId} {v : Value} {xs : List Value} (h : w.ownsRow base e k v n xs) : ∃ a cap, v = .slice a n cap := by
  rcases h.2 with ⟨rfl, rfl⟩ | ⟨g, cap, cur, rfl, _⟩
  · exact ⟨none, 0, rfl⟩
  · exact ⟨some ⟨g, 0, none⟩, cap, rfl⟩

/-- A store into a slice of the call's own. -/
theorem own_set {w : World} {base n k g cap : Nat} {e : TypeId} {xs : List Value} (h : w.ownsRow base e k (.slice (some ⟨g, 0, none⟩) n cap) n xs) (q : Nat) (hq : q < xs.length) (u : Value) :
    (w.setCell ⟨g, q, none⟩ u).ownsRow base e k (.slice (some ⟨g, 0, none⟩) n cap) n (xs.set q u) := by
  refine ⟨by rw [List.length_set]; exact h.1, ?_⟩
  rcases h.2 with ⟨hv, h0⟩ | ⟨g', cap', cur, hv, hb, hg, hnc, hcm, hcs, ht⟩
  · cases hv
  · cases hv
    have hqn : q < n * k := by rw [← h.1]; exact hq
    refine .inr ⟨g, cap, cur.setIfInBounds q u, rfl, hb, ?_, hnc, hcm, by simpa using hcs, ?_⟩
    · simp [World.setCell, Array.getElem?_modify, hg]
    · rw [← ht]
      simp [List.take_set]

theorem grown_up {w w' : World} {row : Option Nat} (h : w.grownBy w' row) (hr : ∀ k, row = some k → w.heap.size ≤ k) : Up w w' :=
  ⟨h.os, h.tape, h.output, h.size, fun i hi => h.block i hi (fun e => by have := hr i e.symm; omega)⟩
theorem Up.grown {w0 w w' : World} {row : Option Nat} (k : Up w0 w) (h : w.grownBy w' row) (hr : ∀ g, row = some g → w0.heap.size ≤ g) : Up w0 w' := Below.grown k h k.size hr
end Go.Proofs.YtlglfdhiopnglaaGreatDoor
end

section
namespace Go.Proofs.YtlglfdhiopnglaaGreatDoor
open Go.ChangeShapes Go.WideShapes Go.ChangeAt Go.RowKit
set_option linter.unusedVariables false
set_option linter.unusedSimpArgs false

/-- kind, bits, fraction bits, rounding, overflow -/
abbrev Typ := Int × Int × Int × Int × Int
/-- opcode, A, B, C, Val (N, D), Type -/
abbrev Ins := Int × Int × Int × Int × (Int × Int) × Typ
abbrev y0 : Typ := (0, 0, 0, 0, 0)
abbrev i0 : Ins := (0, 0, 0, 0, (0, 0), y0)
def typC (t : Typ) : Nat → Int
  | 0 => t.1
  | 1 => t.2.1
  | 2 => t.2.2.1
  | 3 => t.2.2.2.1
  | _ => t.2.2.2.2
def insC (x : Ins) : Nat → Int
  | 0 => x.1
  | 1 => x.2.1
  | 2 => x.2.2.1
  | 3 => x.2.2.2.1
  | 4 => x.2.2.2.2.1.1
  | 5 => x.2.2.2.2.1.2
  | 6 => x.2.2.2.2.2.1
  | 7 => x.2.2.2.2.2.2.1
  | 8 => x.2.2.2.2.2.2.2.1
  | 9 => x.2.2.2.2.2.2.2.2.1
  | _ => x.2.2.2.2.2.2.2.2.2
def R64 (n : Int) : Prop := -9223372036854775808 ≤ n ∧ n ≤ 9223372036854775807
def InR (x : Ins) : Prop := ∀ j, R64 (insC x j)
def TyR (t : Typ) : Prop := ∀ j, R64 (typC t j)
def insF (l : List Ins) (i j : Nat) : Value := .int .i64 (insC (l.getD i i0) j)
def typF (l : List Typ) (i j : Nat) : Value := .int .i64 (typC (l.getD i y0) j)
def InsAt (w : World) (v : Value) (l : List Ins) : Prop := SlAt w v l.length 11 (insF l) ∧ ∀ x ∈ l, InR x
def TypAt (w : World) (v : Value) (l : List Typ) : Prop := SlAt w v l.length 5 (typF l) ∧ ∀ x ∈ l, TyR x
theorem InsAt.up {w w' : World} {v : Value} {l : List Ins} (h : InsAt w v l) (u : Up w w') : InsAt w' v l := ⟨h.1.up u, h.2⟩
theorem TypAt.up {w w' : World} {v : Value} {l : List Typ} (h : TypAt w v l) (u : Up w w') : TypAt w' v l := ⟨h.1.up u, h.2⟩
theorem InsAt.slice {w : World} {v : Value} {l : List Ins} (h : InsAt w v l) : (∃ a cap, v = .slice a l.length cap) ∧ l.length ≤ 9223372036854775807 := by
  obtain ⟨⟨⟨a, cap, hv, _, _⟩, hm⟩, _⟩ := h
  exact ⟨⟨a, cap, hv⟩, hm⟩
theorem TypAt.slice {w : World} {v : Value} {l : List Typ} (h : TypAt w v l) : (∃ a cap, v = .slice a l.length cap) ∧ l.length ≤ 9223372036854775807 := by
  obtain ⟨⟨⟨a, cap, hv, _, _⟩, hm⟩, _⟩ := h
  exact ⟨⟨a, cap, hv⟩, hm⟩
/-- The cells of an instruction at an address. -/
def InsIn (w : World) (bl o : Nat) (x : Ins) : Prop :=
  w.cell? ⟨bl, o, none⟩ = some (.int .i64 x.1) ∧ w.cell? ⟨bl, o + 1, none⟩ = some (.int .i64 x.2.1) ∧ w.cell? ⟨bl, o + 2, none⟩ = some (.int .i64 x.2.2.1) ∧ w.cell? ⟨bl, o + 3, none⟩ = some (.int .i64 x.2.2.2.1) ∧
  w.cell? ⟨bl, o + 4, none⟩ = some (.int .i64 x.2.2.2.2.1.1) ∧ w.cell? ⟨bl, o + 5, none⟩ = some (.int .i64 x.2.2.2.2.1.2) ∧ w.cell? ⟨bl, o + 6, none⟩ = some (.int .i64 x.2.2.2.2.2.1) ∧ w.cell? ⟨bl, o + 7, none⟩ = some (.int .i64 x.2.2.2.2.2.2.1) ∧
  w.cell? ⟨bl, o + 8, none⟩ = some (.int .i64 x.2.2.2.2.2.2.2.1) ∧ w.cell? ⟨bl, o + 9, none⟩ = some (.int .i64 x.2.2.2.2.2.2.2.2.1) ∧ w.cell? ⟨bl, o + 10, none⟩ = some (.int .i64 x.2.2.2.2.2.2.2.2.2)
theorem InsAt.elem {w wr : World} {v : Value} {l : List Ins} (h : InsAt w v l) (hU : Up w wr) (k : Nat) (hk : k < l.length) {n : Nat} (hn : l.length = n) {a : Option Addr} {cap : Nat} (hv : v = .slice a n cap) {x : Ins} (hx : l.getD k i0 = x) :
    ∃ bl off, a = some ⟨bl, off, none⟩ ∧ bl < w.heap.size ∧ InsIn wr bl (off + k * 11) x ∧ InR x := by
  subst hn
  obtain ⟨⟨⟨a', cap', hv', h0, hc⟩, hmax⟩, hr⟩ := h
  rw [hv'] at hv
  simp only [Value.slice.injEq] at hv
  obtain ⟨rfl, -, rfl⟩ := hv
  cases a' with
  | none => exact absurd (h0 rfl) (by omega)
  | some y =>
    obtain ⟨g1, g2, g3⟩ := hc y rfl (by omega)
    obtain ⟨bl, off, sp⟩ := y
    have g1' : sp = none := g1
    subst g1'
    have g2' : bl < w.heap.size := g2
    have hm : x ∈ l := by
      rw [List.getD_eq_getElem?_getD, List.getElem?_eq_getElem hk] at hx
      exact hx ▸ List.getElem_mem hk
    have key : ∀ j, j < 11 → wr.cell? ⟨bl, off + k * 11 + j, none⟩ = some (.int .i64 (insC x j)) := fun j hj => by
      have := (hU.cell _ _ g2').trans (g3 k j hk hj)
      unfold insF at this
      rw [hx] at this
      exact this
    exact ⟨bl, off, rfl, g2', ⟨key 0 (by omega), key 1 (by omega), key 2 (by omega), key 3 (by omega), key 4 (by omega), key 5 (by omega), key 6 (by omega), key 7 (by omega), key 8 (by omega), key 9 (by omega), key 10 (by omega)⟩, hr x hm⟩
theorem TypAt.elem {w wr : World} {v : Value} {l : List Typ} (h : TypAt w v l) (hU : Up w wr) (k : Nat) (hk : k < l.length) {n : Nat} (hn : l.length = n) {a : Option Addr} {cap : Nat} (hv : v = .slice a n cap) {x : Typ} (hx : l.getD k y0 = x) :
    ∃ bl off, a = some ⟨bl, off, none⟩ ∧ bl < w.heap.size ∧ (wr.cell? ⟨bl, off + k * 5, none⟩ = some (.int .i64 x.1) ∧ wr.cell? ⟨bl, off + k * 5 + 1, none⟩ = some (.int .i64 x.2.1) ∧ wr.cell? ⟨bl, off + k * 5 + 2, none⟩ = some (.int .i64 x.2.2.1) ∧ wr.cell? ⟨bl, off + k * 5 + 3, none⟩ = some (.int .i64 x.2.2.2.1) ∧ wr.cell? ⟨bl, off + k * 5 + 4, none⟩ = some (.int .i64 x.2.2.2.2)) ∧ TyR x := by
  subst hn
  obtain ⟨⟨⟨a', cap', hv', h0, hc⟩, hmax⟩, hr⟩ := h
  rw [hv'] at hv
  simp only [Value.slice.injEq] at hv
  obtain ⟨rfl, -, rfl⟩ := hv
  cases a' with
  | none => exact absurd (h0 rfl) (by omega)
  | some y =>
    obtain ⟨g1, g2, g3⟩ := hc y rfl (by omega)
    obtain ⟨bl, off, sp⟩ := y
    have g1' : sp = none := g1
    subst g1'
    have g2' : bl < w.heap.size := g2
    have hm : x ∈ l := by
      rw [List.getD_eq_getElem?_getD, List.getElem?_eq_getElem hk] at hx
      exact hx ▸ List.getElem_mem hk
    have key : ∀ j, j < 5 → wr.cell? ⟨bl, off + k * 5 + j, none⟩ = some (.int .i64 (typC x j)) := fun j hj => by
      have := (hU.cell _ _ g2').trans (g3 k j hk hj)
      unfold typF at this
      rw [hx] at this
      exact this
    exact ⟨bl, off, rfl, g2', ⟨key 0 (by omega), key 1 (by omega), key 2 (by omega), key 3 (by omega), key 4 (by omega)⟩, hr x hm⟩
theorem InsIn.up {w w' : World} {bl o : Nat} {x : Ins} (h : InsIn w bl o x) (u : Up w w') (hb : bl < w.heap.size) : InsIn w' bl o x := by
  obtain ⟨h0, h1, h2, h3, h4, h5, h6, h7, h8, h9, h10⟩ := h
  exact ⟨(u.cell _ _ hb).trans h0, (u.cell _ _ hb).trans h1, (u.cell _ _ hb).trans h2, (u.cell _ _ hb).trans h3, (u.cell _ _ hb).trans h4, (u.cell _ _ hb).trans h5, (u.cell _ _ hb).trans h6, (u.cell _ _ hb).trans h7, (u.cell _ _ hb).trans h8, (u.cell _ _ hb).trans h9, (u.cell _ _ hb).trans h10⟩

/-! ### Plain functions -/
def jumpsB (op : Int) : Bool := decide (op = 7) || decide (op = 8) || decide (op = 14)
/-- What is pushed behind an instruction: the last is looked at first. -/
def succF (x : Ins) (i : Int) : List Int := (if jumpsB x.1 then [x.2.1] else []) ++ (if x.1 = 0 ∨ x.1 = 7 then [] else [i + 1])
/-- The walk over the instructions that can be reached; the stack's top first. -/
def reachG (l : List Ins) : Nat → List Bool → List Int → List Bool
  | 0, seen, _ => seen
  | _ + 1, seen, [] => seen
  | f + 1, seen, i :: st => if i < 0 ∨ (l.length : Int) ≤ i ∨ seen.getD i.toNat true = true then reachG l f seen st else reachG l f (seen.set i.toNat true) ((succF (l.getD i.toNat i0) i).reverse ++ st)
def reachF (l : List Ins) : List Bool := reachG l (3 * l.length + 1) (List.replicate l.length false) [0]
def unseen (seen : List Bool) : Nat := seen.count false
theorem reachG_nil (l : List Ins) (f : Nat) (seen : List Bool) : reachG l f seen [] = seen := by cases f <;> rfl
theorem reachG_cons (l : List Ins) (f : Nat) (seen : List Bool) (i : Int) (st : List Int) : reachG l (f + 1) seen (i :: st) = if i < 0 ∨ (l.length : Int) ≤ i ∨ seen.getD i.toNat true = true then reachG l f seen st else reachG l f (seen.set i.toNat true) ((succF (l.getD i.toNat i0) i).reverse ++ st) := rfl
theorem succF_len (x : Ins) (i : Int) : (succF x i).length ≤ 2 := by
  unfold succF
  split <;> split <;> simp
theorem unseen_set : ∀ (seen : List Bool) (i : Nat), i < seen.length → seen.getD i true = false → unseen (seen.set i true) + 1 = unseen seen
  | [], i, h, _ => absurd h (by simp)
  | b :: r, 0, _, h => by
    have h : b = false := h
    subst h
    show (true :: r).count false + 1 = (false :: r).count false
    simp
  | b :: r, i + 1, h, hg => by
    have ih := unseen_set r i (by simpa using h) hg
    show (b :: r.set i true).count false + 1 = (b :: r).count false
    unfold unseen at ih
    rw [List.count_cons, List.count_cons]
    omega
/-- The indices of what is not reached. -/
def unF : List Bool → Int → List Int
  | [], _ => []
  | b :: r, i => (if b then [] else [i]) ++ unF r (i + 1)
def unreachF (l : List Ins) : List Int := unF (reachF l) 0
/-- final: follows jumps to jumps; k rounds. -/
def finG (l : List Ins) (t : Int) : Nat → Int → Int
  | 0, at' => if 0 ≤ at' ∧ at' < l.length ∧ (l.getD at'.toNat i0).1 = 7 then t else at'
  | k + 1, at' => if at' < 0 ∨ (l.length : Int) ≤ at' ∨ (l.getD at'.toNat i0).1 ≠ 7 then at' else finG l t k (l.getD at'.toNat i0).2.1
def finF (l : List Ins) (t : Int) : Int := finG l t l.length t
def decA (x : Ins) (i : Int) : Ins := if jumpsB x.1 && decide (i < x.2.1) then (x.1, x.2.1 - 1, x.2.2) else x
/-- remove: the instruction at i goes, targets behind it move. -/
def remG : List Ins → Int → Int → List Ins
  | [], _, _ => []
  | x :: r, k, i => (if k = i then [] else [decA x i]) ++ remG r (k + 1) i
def remF (l : List Ins) (i : Int) : List Ins := remG l 0 i
def idleB (x : Ins) (i : Int) : Bool :=
  if x.1 = 2 then decide (x.2.1 = x.2.2.1) else if x.1 = 4 then decide (x.2.1 = x.2.2.1) && decide (x.2.2.2.1 = 1) else if x.1 = 7 ∨ x.1 = 8 then decide (x.2.1 = i + 1) else false
end Go.Proofs.YtlglfdhiopnglaaGreatDoor
end

section
namespace Go.Proofs.YtlglfdhiopnglaaGreatDoor
open Go.ChangeShapes Go.WideShapes Go.ChangeAt Go.RowKit
set_option linter.unusedVariables false
set_option linter.unusedSimpArgs false

/-- An instruction as a value. -/
abbrev insV (x : Ins) : Value := .agg #[.int .i64 x.1, .int .i64 x.2.1, .int .i64 x.2.2.1, .int .i64 x.2.2.2.1, .int .i64 x.2.2.2.2.1.1, .int .i64 x.2.2.2.2.1.2, .int .i64 x.2.2.2.2.2.1, .int .i64 x.2.2.2.2.2.2.1, .int .i64 x.2.2.2.2.2.2.2.1, .int .i64 x.2.2.2.2.2.2.2.2.1, .int .i64 x.2.2.2.2.2.2.2.2.2]


set_option maxHeartbeats 1000000 in
theorem r47_Jumps (op : Int) (e : Bool) (he : jumpsB op = e) (w : World) :
    Calls Tryz.prog 29 #[.int .i64 op] w fun e' w' => e' = .returned (.bool e) ∧ w' = w := by
  have HE := Lib.hid he
  clear he
  go_enter Tryz.func29, Tryz.ntmps29
  go_wp2
  all_goals try simp only [Bool.not_eq_false', Bool.not_eq_true', bne_iff_ne, ne_eq, bne_eq_false_iff_eq, beq_iff_eq, beq_eq_false_iff_ne, decide_eq_true_eq, decide_eq_false_iff_not] at *
  all_goals
    go_ret
    exact ⟨ret_bool (by rw [← HE.out, jumpsB, Bool.eq_iff_iff]; simp; try omega), rfl⟩


theorem SlAt.lay (w : World) (t : TypeId) (cs : Array Value) (n k : Nat) (f : Nat → Nat → Value) (hn : n ≤ 9223372036854775807) (h : ∀ i j, i < n → j < k → cs[i * k + j]? = some (f i j)) :
    SlAt (w.alloc (.cells cs t)) (.slice (some ⟨w.heap.size, 0, none⟩) n n) n k f :=
  ⟨⟨some ⟨w.heap.size, 0, none⟩, n, rfl, (fun e => nomatch e), fun x hx _ => by
    cases hx
    refine ⟨rfl, by simp, fun i j hi hj => ?_⟩
    rw [cell_of_row _ _ _ _ _ _ (heap_alloc_new w _)]
    simp only [Nat.zero_add]
    exact h i j hi hj⟩, hn⟩
theorem cell_up_new {w x : World} {cs : Array Value} {t : TypeId} (h : Up (w.alloc (.cells cs t)) x) (j : Nat) {u : Value} (hu : cs[j]? = some u) : x.cell? ⟨w.heap.size, j, none⟩ = some u :=
  (h.cell _ _ (by simp)).trans ((cell_of_row _ _ _ _ _ _ (heap_alloc_new w _)).trans hu)
theorem ret_v {v : Value} {Q : Value → Prop} (h : Q v) : ∃ u, Ending.returned v = .returned u ∧ Q u := ⟨v, rfl, h⟩
/-- A list of integers in memory. -/
def IntsAt (w : World) (v : Value) (l : List Int) : Prop := SlAt w v l.length 1 (fun j _ => .int .i64 (l.getD j 0))
theorem IntsAt.zero (w : World) : IntsAt w (.slice none 0 0) [] := SlAt.nil _ _ _
theorem IntsAt.one (w : World) (t : TypeId) (a : Int) : IntsAt (w.alloc (.cells #[.int .i64 a] t)) (.slice (some ⟨w.heap.size, 0, none⟩) 1 1) [a] :=
  SlAt.lay w t _ 1 1 _ (by decide) fun i j hi hj => by
    obtain rfl : i = 0 := by omega
    obtain rfl : j = 0 := by omega
    rfl
theorem IntsAt.one' {b : Nat} (w : World) (t : TypeId) (a : Int) (hb : b = w.heap.size) : IntsAt (w.alloc (.cells #[.int .i64 a] t)) (.slice (some ⟨b, 0, none⟩) 1 1) [a] := hb ▸ IntsAt.one w t a
theorem IntsAt.two (w : World) (t : TypeId) (a b : Int) : IntsAt (w.alloc (.cells #[.int .i64 a, .int .i64 b] t)) (.slice (some ⟨w.heap.size, 0, none⟩) 2 2) [a, b] :=
  SlAt.lay w t _ 2 1 _ (by decide) fun i j hi hj => by
    obtain rfl : j = 0 := by omega
    rcases (by omega : i = 0 ∨ i = 1) with rfl | rfl <;> rfl
theorem IntsAt.two' {g : Nat} (w : World) (t : TypeId) (a b : Int) (hb : g = w.heap.size) : IntsAt (w.alloc (.cells #[.int .i64 a, .int .i64 b] t)) (.slice (some ⟨g, 0, none⟩) 2 2) [a, b] := hb ▸ IntsAt.two w t a b

end Go.Proofs.YtlglfdhiopnglaaGreatDoor
end

section
namespace Go.Proofs.YtlglfdhiopnglaaGreatDoor
open Go.ChangeShapes Go.WideShapes Go.ChangeAt Go.RowKit
set_option linter.unusedVariables false
set_option linter.unusedSimpArgs false

section
variable {P : Program} {ops : Array Oper} {md : Region.Mode} {w : World} {M : FuncId → Array Value → Value → World → Prop}

/-- What an operation that comes up in the world x may end in: it only makes memory; a call keeps to the table of contracts M. -/
def GoodR (P : Program) (M : FuncId → Array Value → Value → World → Prop) (x : World) : Result Next → Prop
  | .ok (.value _) x1 => Up x x1
  | .ok .skip x1 => Up x x1
  | .ok (.enter f args) x1 => Up x x1 ∧ Calls P f args x1 fun e x' => ∃ v, e = .returned v ∧ Up x1 x' ∧ M f args v x'
  | _ => False
/-- The outcome v, x'. -/
def OutR (M : FuncId → Array Value → Value → World → Prop) (v : Value) (x' : World) : Result Next → Prop
  | .ok (.value u) x1 => u = v ∧ x1 = x'
  | .ok .skip x1 => v = undef ∧ x1 = x'
  | .ok (.enter f args) x1 => Up x1 x' ∧ M f args v x'
  | _ => False
def GoodM (P : Program) (M : FuncId → Array Value → Value → World → Prop) (w : World) (o : Oper) (a : Act) : Prop := ∀ x, Up w x → GoodR P M x ((execOp a.eval o).run P x)
def SPM (P : Program) (M : FuncId → Array Value → Value → World → Prop) (w : World) (o : Oper) (a : Act) (v : Value) (y : World) : Prop := ∃ x x', Up w x ∧ OutR M v x' ((execOp a.eval o).run P x) ∧ Up x' y
def mGood (P : Program) (ops : Array Oper) (M : FuncId → Array Value → Value → World → Prop) (w : World) (o : Oper) (a : Act) : Prop := Region.wanted o (yielded ops a.tmps) = true → GoodM P M w o a
def mRes (P : Program) (ops : Array Oper) (M : FuncId → Array Value → Value → World → Prop) (w : World) (o : Oper) (a : Act) (v : Value) (T : World → Prop) : Prop :=
  if Region.wanted o (yielded ops a.tmps) = true then (∃ y, Up w y ∧ SPM P M w o a v y) ∧ T = SPM P M w o a v else v = undef ∧ T = fun _ => True
def mStep (P : Program) (ops : Array Oper) (M : FuncId → Array Value → Value → World → Prop) (w : World) (o : Oper) (K : Act → (World → Prop) → Prop) (a : Act) (S : World → Prop) : Prop :=
  mGood P ops M w o a ∧ ∀ v T, mRes P ops M w o a v T → K (a.put o.dst v) (fun y => S y ∧ T y)
def mOp (P : Program) (ops : Array Oper) (M : FuncId → Array Value → Value → World → Prop) (w : World) (i : Nat) (K : Act → (World → Prop) → Prop) (a : Act) (S : World → Prop) : Prop :=
  match ops[i]? with
  | none => K a S
  | some o => mStep P ops M w o K a S
/-- The walk in the text's order. -/
def wpMk (P : Program) (ops : Array Oper) (M : FuncId → Array Value → Value → World → Prop) (w : World) (L : Act → (World → Prop) → Prop) : List Oper → Act → (World → Prop) → Prop
  | [], a, S => L a S
  | o :: rest, a, S => mStep P ops M w o (wpMk P ops M w L rest) a S

def KeptS (S : World → Prop) : Prop := ∀ x y, S x → Up x y → S y
theorem SPM.kept {o : Oper} {a : Act} {v : Value} : KeptS (SPM P M w o a v) := fun _ _ ⟨x, x', h1, h2, h3⟩ hu => ⟨x, x', h1, h2, h3.trans hu⟩
theorem mRes.kept {o : Oper} {a : Act} {v : Value} {T : World → Prop} (h : mRes P ops M w o a v T) : KeptS T := by
  unfold mRes at h
  split at h
  · rw [h.2]; exact SPM.kept
  · rw [h.2]; exact fun _ _ _ _ => trivial
theorem mStep_mono {o : Oper} {K K' : Act → (World → Prop) → Prop} {a : Act} {S : World → Prop} (h : ∀ a S, K a S → K' a S) (hh : mStep P ops M w o K a S) : mStep P ops M w o K' a S :=
  ⟨hh.1, fun v T hr => h _ _ (hh.2 v T hr)⟩
theorem mOp_mono {i : Nat} {K K' : Act → (World → Prop) → Prop} {a : Act} {S : World → Prop} (h : ∀ a S, K a S → K' a S) (hh : mOp P ops M w i K a S) : mOp P ops M w i K' a S := by
  unfold mOp at *
  split
  · rename_i ho; simp only [ho] at hh; exact h _ _ hh
  · rename_i o ho; simp only [ho] at hh; exact mStep_mono h hh
theorem GoodM.some {o : Oper} {a : Act} (h : GoodM P M w o a) : ∃ v y, Up w y ∧ SPM P M w o a v y := by
  have h0 := h w (Up.refl w)
  have key : ∀ r : Result Next, GoodR P M w r → ∃ v x', Up w x' ∧ OutR M v x' r := fun r hr => by
    cases r with
    | ok n x1 =>
      cases n with
      | value u => exact ⟨u, x1, hr, rfl, rfl⟩
      | skip => exact ⟨undef, x1, hr, rfl, rfl⟩
      | enter f args =>
        obtain ⟨hu, hc⟩ := hr
        obtain ⟨e, w', fr, ⟨v, _, h2, h3⟩, _⟩ := hc []
        exact ⟨v, w', hu.trans h2, h2, h3⟩
      | _ => exact absurd hr (by simp [GoodR])
    | halt _ _ => exact absurd hr (by simp [GoodR])
  obtain ⟨v, x', h1, h2⟩ := key _ h0
  exact ⟨v, x', h1, w, x', Up.refl w, h2, Up.refl _⟩
theorem mGood.some {o : Oper} {a : Act} (h : mGood P ops M w o a) : ∃ v T, mRes P ops M w o a v T := by
  unfold mRes
  by_cases hw : Region.wanted o (yielded ops a.tmps) = true
  · obtain ⟨v, y, h1, h2⟩ := (h hw).some
    exact ⟨v, _, by rw [if_pos hw]; exact ⟨⟨y, h1, h2⟩, rfl⟩⟩
  · exact ⟨undef, _, by rw [if_neg hw]; exact ⟨rfl, rfl⟩⟩

theorem mGood_put {o : Oper} {a : Act} (hs : ∀ cs b, o.op ≠ .select cs b) (dst : Option Tmp) (u : Value) (h : ∀ d, dst = some d → d ∉ o.looksAt ops) : mGood P ops M w o (a.put dst u) ↔ mGood P ops M w o a := by
  unfold mGood GoodM
  rw [execOp_put o hs a dst u h, wanted_put o a dst u h]
theorem mRes_put {o : Oper} {a : Act} (hs : ∀ cs b, o.op ≠ .select cs b) (dst : Option Tmp) (u : Value) (h : ∀ d, dst = some d → d ∉ o.looksAt ops) (v : Value) (T : World → Prop) : mRes P ops M w o (a.put dst u) v T ↔ mRes P ops M w o a v T := by
  unfold mRes SPM
  rw [execOp_put o hs a dst u h, wanted_put o a dst u h]

theorem mOp_put {j : Nat} {oi oj : Oper} (hj : ops[j]? = some oj) (hap : oi.apart ops oj = true)
    (hsi : ∀ cs b, oi.op ≠ .select cs b) (hsj : ∀ cs b, oj.op ≠ .select cs b) {K : Act → (World → Prop) → Prop} {a : Act} {S : World → Prop}
    (hy : mGood P ops M w oi a) (h : ∀ v T, mRes P ops M w oi a v T → mOp P ops M w j K (a.put oi.dst v) (fun y => S y ∧ T y)) :
    mOp P ops M w j (fun a' S' => mGood P ops M w oi a' ∧ ∀ v T, mRes P ops M w oi a' v T → K (a'.put oi.dst v) (fun y => S' y ∧ T y)) a S := by
  obtain ⟨h1, h2, h3⟩ := Oper.apart_spec hap
  unfold mOp at *
  simp only [hj] at *
  obtain ⟨v0, T0, hr0⟩ := hy.some
  refine ⟨(mGood_put hsj oi.dst v0 h1).1 (h v0 T0 hr0).1, fun u U hu => ⟨(mGood_put hsi oj.dst u h3).2 hy, fun v T hv => ?_⟩⟩
  have hv' := (mRes_put hsi oj.dst u h3 v T).1 hv
  have := (h v T hv').2 u U ((mRes_put hsj oi.dst v h1 u U).2 hu)
  rw [Act.put_comm a v u h2] at this
  have e : (fun y => (S y ∧ T y) ∧ U y) = (fun y => (S y ∧ U y) ∧ T y) := funext fun y => propext ⟨fun ⟨⟨a, b⟩, c⟩ => ⟨⟨a, c⟩, b⟩, fun ⟨⟨a, b⟩, c⟩ => ⟨⟨a, c⟩, b⟩⟩
  rw [e] at this
  exact this

def wpAnyM (P : Program) (md : Region.Mode) (ops : Array Oper) (M : FuncId → Array Value → Value → World → Prop) (w : World) (n : Nat) (L : Array Bool → Act → (World → Prop) → Prop) : Nat → Array Bool → Act → (World → Prop) → Prop
  | 0, listed, a, S => L listed a S
  | f + 1, listed, a, S =>
    Region.ready md ops listed ≠ [] ∧ ∀ i ∈ Region.ready md ops listed, i < n ∧ mOp P ops M w i (wpAnyM P md ops M w n L f (listed.setIfInBounds i true)) a S

theorem wpOp_of_mOp {i : Nat} {a : Act} {S : World → Prop} {K : Act → (World → Prop) → Prop} {K' : Act → World → Prop} {Q' : Exit → Act → World → Prop} {x : World} (hx : Up w x) (hS : S x) (hk : KeptS S)
    (h : ∀ a S x', Up w x' → S x' → KeptS S → K a S → K' a x') (hh : mOp P ops M w i K a S) : wpOp P ops Q' i K' a x := by
  unfold mOp at hh
  unfold wpOp
  split
  · rename_i ho; simp only [ho] at hh; exact h _ _ _ hx hS hk hh
  · rename_i o ho
    simp only [ho] at hh
    obtain ⟨hg, hn⟩ := hh
    split
    · rename_i hw
      refine .inl ?_
      have hgx := hg hw x hx
      have hn' : ∀ v x', Up x x' → OutR M v x' ((execOp a.eval o).run P x) → K' (a.put o.dst v) x' := fun v x' hu ho => by
        have hsp : SPM P M w o a v x' := ⟨x, x', hx, ho, Up.refl _⟩
        have hr : mRes P ops M w o a v (SPM P M w o a v) := by
          unfold mRes; rw [if_pos hw]; exact ⟨⟨x', hx.trans hu, hsp⟩, rfl⟩
        exact h _ _ _ (hx.trans hu) ⟨hk _ _ hS hu, hsp⟩ (fun y z hy hz => ⟨hk _ _ hy.1 hz, SPM.kept _ _ hy.2 hz⟩) (hn v _ hr)
      unfold Oper.wp
      generalize (execOp a.eval o).run P x = r at *
      cases r with
      | ok n x1 =>
        cases n with
        | value u => exact hn' u x1 hgx ⟨rfl, rfl⟩
        | skip => exact hn' undef x1 hgx ⟨rfl, rfl⟩
        | enter f args =>
          obtain ⟨hu, hc⟩ := hgx
          rw [Oper.upon_enter]
          refine hc.mono fun e x' ⟨v, he, h2, h3⟩ => ?_
          subst he
          exact hn' v x' (hu.trans h2) ⟨h2, h3⟩
        | _ => exact absurd hgx (by simp [GoodR])
      | halt _ _ => exact absurd hgx (by simp [GoodR])
    · rename_i hw
      have hr : mRes P ops M w o a undef (fun _ => True) := by unfold mRes; rw [if_neg hw]; exact ⟨rfl, rfl⟩
      exact h _ _ _ hx ⟨hS, trivial⟩ (fun y z hy hz => ⟨hk _ _ hy.1 hz, trivial⟩) (hn _ _ hr)

theorem wpAny_of_headM {n g : Nat} {L : Array Bool → Act → (World → Prop) → Prop} {Q' : Exit → Act → World → Prop} (hL : ∀ listed a S x, Up w x → S x → KeptS S → L listed a S → wpAny P md ops Q' g listed a x) :
    ∀ (f : Nat) (listed : Array Bool) (a : Act) (S : World → Prop) (x : World), Up w x → S x → KeptS S → wpAnyM P md ops M w n L f listed a S → wpAny P md ops Q' (f + g) listed a x
  | 0, listed, a, S, x, hx, hS, hk, h => by rw [Nat.zero_add]; exact hL _ _ _ _ hx hS hk h
  | f + 1, listed, a, S, x, hx, hS, hk, h => by
    rw [show f + 1 + g = (f + g) + 1 by omega]
    exact ⟨fun h0 => absurd h0 h.1, fun i hi => wpOp_of_mOp hx hS hk (fun a' S' x' h1 h2 h3 h' => wpAny_of_headM hL f _ a' S' x' h1 h2 h3 h') (h.2 i hi).2⟩

theorem wpAnyM_first {n i : Nat} {oi : Oper} {L : Array Bool → Act → (World → Prop) → Prop} (hi : ops[i]? = some oi) (hsel : ∀ (j : Nat) (o : Oper) cs b, ops[j]? = some o → o.op ≠ .select cs b)
    (hlt : ∀ listed, HeadInv md ops n listed → i ∈ Region.ready md ops listed → ∀ j ∈ Region.ready md ops listed, j < n)
    (hdone : ∀ listed a S, L listed a S → ∀ j ∈ Region.ready md ops listed, n ≤ j) :
    ∀ (f : Nat) (listed : Array Bool) (a : Act) (S : World → Prop), HeadInv md ops n listed →
      (∀ j oj, ops[j]? = some oj → j ≠ i → listed.getD j true = false → (∀ e ∈ oj.after, Region.binds md e = true → e.on ≠ i) → oi.apart ops oj = true) →
      i ∈ Region.ready md ops listed → mGood P ops M w oi a →
      (∀ v T, mRes P ops M w oi a v T → wpAnyM P md ops M w n L f (listed.setIfInBounds i true) (a.put oi.dst v) (fun y => S y ∧ T y)) → wpAnyM P md ops M w n L (f + 1) listed a S := by
  intro f
  induction f with
  | zero =>
    intro listed a S inv _ hr hy H
    have hun := (mem_ready.1 hr).1
    refine ⟨fun h => (by rw [h] at hr; cases hr), fun j hj => ?_⟩
    have hjn : j < n := hlt listed inv hr j hj
    refine ⟨hjn, ?_⟩
    by_cases hji : j = i
    · subst hji; unfold mOp; simp only [hi]; exact ⟨hy, H⟩
    · obtain ⟨v0, T0, hr0⟩ := hy.some
      have := hdone _ _ _ (H v0 T0 hr0) j (ready_mono hj hji)
      omega
  | succ f ih =>
    intro listed a S inv hfree hr hy H
    have hun := (mem_ready.1 hr).1
    refine ⟨fun h => (by rw [h] at hr; cases hr), fun j hj => ?_⟩
    have hjn : j < n := hlt listed inv hr j hj
    refine ⟨hjn, ?_⟩
    by_cases hji : j = i
    · subst hji; unfold mOp; simp only [hi]; exact ⟨hy, H⟩
    · obtain ⟨hjun, oj, hoj, hall⟩ := mem_ready.1 hj
      have hnot : ∀ e ∈ oj.after, Region.binds md e = true → e.on ≠ i := fun e he hb heq => by
        have h1 := hall e he hb
        rw [heq, getD_both hun] at h1
        cases h1
      have h2 := mOp_put (K := wpAnyM P md ops M w n L f ((listed.setIfInBounds i true).setIfInBounds j true)) hoj (hfree j oj hoj hji hjun hnot) (fun cs b => hsel i oi cs b hi) (fun cs b => hsel j oj cs b hoj) hy
        (fun v T hv => ((H v T hv).2 j (ready_mono hj hji)).2)
      have hfree' : ∀ k ok, ops[k]? = some ok → k ≠ i → (listed.setIfInBounds j true).getD k true = false →
          (∀ e ∈ ok.after, Region.binds md e = true → e.on ≠ i) → oi.apart ops ok = true := fun k ok hk hki hun hno => by
        refine hfree k ok hk hki ?_ hno
        by_cases hjk : j = k
        · subst hjk; exact hjun
        · rw [getD_set_ne true hjk] at hun; exact hun
      refine mOp_mono (fun a' S' h3 => ih (listed.setIfInBounds j true) a' S' (inv.set hj hjn) hfree' (ready_mono hr (Ne.symm hji)) h3.1 ?_) h2
      rw [Array.setIfInBounds_comm _ _ hji]
      exact h3.2

theorem wpAnyM_lex {n : Nat} {Lq : Act → (World → Prop) → Prop} {B : Array Bool → Prop} {lex : Nat → Nat → Array Bool → Bool}
    (h0B : ∀ k listed, lex 0 k listed = true → k = n → B listed) (h1B : ∀ f k listed, lex (f + 1) k listed = true → (Region.ready md ops listed).contains k = true ∧ Region.free md ops listed k = true ∧ lex f (k + 1) (listed.setIfInBounds k true) = true)
    (hsel : Region.noSelect ops = true) (hlt : ∀ i, i < n → ∀ listed, HeadInv md ops n listed → i ∈ Region.ready md ops listed → ∀ j ∈ Region.ready md ops listed, j < n)
    (hdone : ∀ listed, B listed → ∀ j ∈ Region.ready md ops listed, n ≤ j) :
    ∀ (l : List Oper) (k : Nat) (listed : Array Bool) (a : Act) (S : World → Prop), (∀ j, j < l.length → l[j]? = ops[k + j]?) → k + l.length = n → HeadInv md ops n listed →
    lex l.length k listed = true → wpMk P ops M w Lq l a S →
    wpAnyM P md ops M w n (fun listed' a' S' => B listed' ∧ Lq a' S') l.length listed a S
  | [], k, listed, a, S, _, hk, _, hB, h => by
    have : k = n := by simpa using hk
    exact ⟨h0B k listed (by simpa using hB) this, h⟩
  | o :: l, k, listed, a, S, hl, hk, inv, hB, h => by
    have h0 : ops[k]? = some o := by simpa using (hl 0 (by simp)).symm
    obtain ⟨hr, hf, hB'⟩ := h1B _ _ _ hB
    have hkn : k < n := by simp only [List.length_cons] at hk; omega
    have hr' : k ∈ Region.ready md ops listed := by simpa using hr
    exact wpAnyM_first h0 (Region.noSelect_spec hsel) (hlt k hkn) (fun listed' a' S' hL => hdone _ hL.1) l.length listed a S inv (Region.free_spec h0 hf) hr' h.1
      (fun v T hv => wpAnyM_lex h0B h1B hsel hlt hdone l (k + 1) _ _ _ (fun j hj => by have := hl (j + 1) (by simp; omega); simpa [Nat.add_assoc, Nat.add_comm 1 j] using this) (by simp only [List.length_cons] at hk; omega) (inv.set hr' hkn) hB' (h.2 v T hv))

/-- The head once, in the text's order; then the tail as it stands. -/
theorem wp_region_mk {id : Nat} {Q : Exit → Act → World → Prop} {a : Act} {l : List Oper} (n : Nat) (M : FuncId → Array Value → Value → World → Prop) (hm : P.follows .mixedOrders = true) (hB : Region.lexTailB .any l.toArray n = true)
    (h : wpMk P l.toArray M w (fun a' S => ∀ x, Up w x → S x → wpList P l.toArray Q (l.drop n) a' x) (l.take n) a (fun _ => True)) : (Code.region id l.toArray true).wp P Q a w := by
  simp only [Region.lexTailB, Bool.and_eq_true, decide_eq_true_eq] at hB
  obtain ⟨⟨⟨⟨hsel, hn⟩, hs⟩, hc⟩, hlex⟩ := hB
  have hn' : n < l.length := by simpa using hn
  have htl : (l.take n).length = n := by simp; omega
  have hdl : (l.drop n).length = l.toArray.size - n := by simp
  have inv0 : HeadInv .any l.toArray n (Array.replicate l.toArray.size false) :=
    ⟨by simp, fun j oj _ hl => (by rw [getD_replicate_false] at hl; cases hl), fun t _ ht => getD_in (by simpa using ht) (getD_replicate_false _ _)⟩
  have H := wpAnyM_lex (md := .any) (n := n) (B := fun listed => Region.seqB .any l.toArray (l.toArray.size - n) n listed = true) (lex := Region.lexHead .any l.toArray (l.toArray.size - n))
    (fun k listed h1 h2 => by subst h2; simpa [Region.lexHead] using h1) (fun f k listed h1 => by
      simp only [Region.lexHead, Bool.and_eq_true] at h1; exact ⟨h1.1.1, h1.1.2, h1.2⟩) hsel
    (fun i hin listed inv hr j hj => by
      rcases Nat.lt_or_ge j n with h | h
      · exact h
      · exact absurd hj (tail_waits hs hc hn inv _ i rfl hin (mem_ready.1 hr).1 j h))
    (fun listed h1 => seqB_ready h1) (l.take n) 0 _ a _ (fun j hj => by
    have hj' : j < n := by rw [htl] at hj; exact hj
    simp [hj']) (by simpa using htl) inv0 (by rw [htl]; exact hlex) h
  refine wp_region_any hm ?_
  have := wpAny_of_headM (Q' := Q) (g := l.toArray.size - n) (fun listed a' S x hx hS _ hL => by
    have := wpAny_of_seq (md := .any) (Q' := Q) (l.drop n) n listed a' x (fun j => by simp [List.getElem?_drop]) (by rw [hdl]; exact hL.1) (hL.2 x hx hS)
    rwa [hdl] at this) _ _ _ _ { w with drawn := w.drawn + 1 } (Up.refl w).drew trivial (fun _ _ _ _ => trivial) H
  rw [htl, show n + (l.toArray.size - n) = l.toArray.size by omega] at this
  exact this

/-- The whole region. -/
theorem wp_region_mk_all {id : Nat} {Q : Exit → Act → World → Prop} {a : Act} {l : List Oper} (M : FuncId → Array Value → Value → World → Prop) (hm : P.follows .mixedOrders = true) (hB : Region.lexB .any l.toArray = true)
    (h : wpMk P l.toArray M w (fun a' S => ∀ x, Up w x → S x → Q .normal a' x) l a (fun _ => True)) : (Code.region id l.toArray true).wp P Q a w := by
  simp only [Region.lexB, Bool.and_eq_true] at hB
  obtain ⟨hsel, hlex⟩ := hB
  have hsz : l.length = l.toArray.size := by simp
  have inv0 : HeadInv .any l.toArray l.length (Array.replicate l.toArray.size false) :=
    ⟨by simp, fun j oj _ hl => (by rw [getD_replicate_false] at hl; cases hl), fun t h1 ht => (by simp at ht; omega)⟩
  have H := wpAnyM_lex (md := .any) (n := l.length) (B := fun listed => Region.ready .any l.toArray listed = []) (lex := Region.lexFrom .any l.toArray)
    (fun k listed h1 h2 => by simpa [Region.lexFrom] using h1) (fun f k listed h1 => by
      simp only [Region.lexFrom, Bool.and_eq_true] at h1; exact ⟨h1.1.1, h1.1.2, h1.2⟩) hsel
    (fun i hin listed inv hr j hj => by
      obtain ⟨_, oj, hoj, _⟩ := mem_ready.1 hj
      have := (Array.getElem?_eq_some_iff.1 hoj).1
      simpa using this)
    (fun listed h1 j hj => by rw [h1] at hj; cases hj) l 0 _ a _ (fun j hj => by simp) (by simp) inv0 (by rw [hsz]; simpa using hlex) h
  refine wp_region_any hm ?_
  have := wpAny_of_headM (Q' := Q) (g := 0) (fun listed a' S x hx hS _ hL => ⟨hL.1, hL.2 x hx hS⟩) _ _ _ _ { w with drawn := w.drawn + 1 } (Up.refl w).drew trivial (fun _ _ _ _ => trivial) H
  rw [hsz, Nat.add_zero] at this
  exact this

/-! ### One operation at a time -/

/-- A continuation that asks less of the facts. -/
def AntiS (L : Act → (World → Prop) → Prop) : Prop := ∀ a S T, (∀ x, Up w x → T x → S x) → L a S → L a T
theorem wpMk_anti {L : Act → (World → Prop) → Prop} (hL : AntiS (w := w) L) : ∀ (l : List Oper) (a : Act) (S T : World → Prop), (∀ x, Up w x → T x → S x) → wpMk P ops M w L l a S → wpMk P ops M w L l a T
  | [], a, S, T, h, hh => hL a S T h hh
  | o :: l, a, S, T, h, hh => ⟨hh.1, fun v U hv => wpMk_anti hL l _ _ _ (fun x hx ⟨h1, h2⟩ => ⟨h x hx h1, h2⟩) (hh.2 v U hv)⟩
theorem anti_post {F : Act → World → Prop} : AntiS (w := w) (fun a' S => ∀ x, Up w x → S x → F a' x) := fun a S T h hh x hx hT => hh x hx (h x hx hT)

theorem wpMk_nil {L : Act → (World → Prop) → Prop} {a : Act} {S : World → Prop} (h : L a S) : wpMk P ops M w L [] a S := h

/-- Any operation that yields a value of which R is known. -/
theorem wpMk_any {L : Act → (World → Prop) → Prop} (hL : AntiS (w := w) L) {o : Oper} {rest : List Oper} {a : Act} {S : World → Prop} (R : Value → World → Prop) (hR : ∀ v x y, R v x → Up x y → R v y)
    (hw : Region.wanted o (yielded ops a.tmps) = true) (hrun : ∀ x, Up w x → ∃ v x', (execOp a.eval o).run P x = .ok (.value v) x' ∧ Up x x' ∧ R v x')
    (h : ∀ v, (∃ y, Up w y ∧ R v y) → wpMk P ops M w L rest (a.put o.dst v) (fun y => S y ∧ R v y)) : wpMk P ops M w L (o :: rest) a S := by
  have key : ∀ v y, SPM P M w o a v y → R v y := fun v y ⟨x, x', h1, h2, h3⟩ => by
    obtain ⟨v', x1, hr, hu, hv⟩ := hrun x h1
    rw [hr] at h2
    obtain ⟨rfl, rfl⟩ := h2
    exact hR _ _ _ hv h3
  refine ⟨fun _ x hx => ?_, fun v T hv => ?_⟩
  · obtain ⟨v', x1, hr, hu, _⟩ := hrun x hx
    rw [hr]; exact hu
  · unfold mRes at hv
    rw [if_pos hw] at hv
    obtain ⟨⟨y, hy, hs⟩, rfl⟩ := hv
    exact wpMk_anti hL _ _ _ _ (fun x _ ⟨h1, h2⟩ => ⟨h1, key _ _ h2⟩) (h v ⟨y, hy, key _ _ hs⟩)

/-- A call. -/
theorem wpMk_enter {L : Act → (World → Prop) → Prop} (hL : AntiS (w := w) L) {o : Oper} {rest : List Oper} {a : Act} {S : World → Prop} (f : FuncId) (args : Array Value) (hK : ∀ v x y, M f args v x → Up x y → M f args v y)
    (hw : Region.wanted o (yielded ops a.tmps) = true) (hrun : ∀ x, (execOp a.eval o).run P x = .ok (.enter f args) x)
    (hc : ∀ x, Up w x → Calls P f args x fun e x' => ∃ v, e = .returned v ∧ Up x x' ∧ M f args v x')
    (h : ∀ v, (∃ y, Up w y ∧ M f args v y) → wpMk P ops M w L rest (a.put o.dst v) (fun y => S y ∧ M f args v y)) : wpMk P ops M w L (o :: rest) a S := by
  have key : ∀ v y, SPM P M w o a v y → M f args v y := fun v y ⟨x, x', h1, h2, h3⟩ => by
    rw [hrun x] at h2
    exact hK _ _ _ h2.2 h3
  refine ⟨fun _ x hx => ?_, fun v T hv => ?_⟩
  · rw [hrun x]; exact ⟨Up.refl x, hc x hx⟩
  · unfold mRes at hv
    rw [if_pos hw] at hv
    obtain ⟨⟨y, hy, hs⟩, rfl⟩ := hv
    exact wpMk_anti hL _ _ _ _ (fun x _ ⟨h1, h2⟩ => ⟨h1, key _ _ h2⟩) (h v ⟨y, hy, key _ _ hs⟩)

/-- A new variable. -/
theorem wpMk_alloc {L : Act → (World → Prop) → Prop} (hL : AntiS (w := w) L) {o : Oper} {rest : List Oper} {a : Act} {S : World → Prop} (cs : Array Value) (t : TypeId)
    (hw : Region.wanted o (yielded ops a.tmps) = true) (hrun : ∀ x, (execOp a.eval o).run P x = .ok (.value (.pointer (some ⟨x.heap.size, 0, none⟩))) (x.alloc (.cells cs t (0, 0))))
    (h : ∀ b, w.heap.size ≤ b → wpMk P ops M w L rest (a.put o.dst (.pointer (some ⟨b, 0, none⟩))) (fun y => S y ∧ y.heap[b]? = some (.cells cs t (0, 0)))) : wpMk P ops M w L (o :: rest) a S := by
  refine wpMk_any hL (fun v y => ∃ b, v = .pointer (some ⟨b, 0, none⟩) ∧ w.heap.size ≤ b ∧ y.heap[b]? = some (.cells cs t (0, 0))) (fun v x y ⟨b, h1, h2, h3⟩ hu => ⟨b, h1, h2, by rw [hu.heap b (Array.getElem?_eq_some_iff.1 h3).1]; exact h3⟩) hw
    (fun x hx => ⟨_, _, hrun x, (Up.refl x).alloc _, x.heap.size, rfl, hx.size, heap_alloc_new x _⟩) (fun v ⟨y, _, b, h1, h2, _⟩ => ?_)
  subst h1
  refine wpMk_anti hL _ _ _ _ (fun x _ ⟨h3, b', h4, h5, h6⟩ => ?_) (h b h2)
  cases h4
  exact ⟨h3, h6⟩

/-- Operations that read, one at a time, by the tactics of the quiet walk. -/
def noEnter (o : Oper) : Bool := match o.op with
  | .move _ | .assign _ | .pick _ _ _ | .build _ _ | .load _ _ | .binOp _ _ _ _ _ | .unOp _ _ _ | .convert _ _ _ | .slice _ _ _ _ _ | .fieldAddr _ _ _ | .field _ _ _ | .indexAddr _ _ _ | .index _ _ _ | .extract _ _ => true
  | .call c => match c.callee with
    | .builtin .len => true
    | _ => false
  | _ => false
theorem noEnter_spec {o : Oper} (h : noEnter o = true) (e : Operand → Value) (x : World) (f : FuncId) (args : Array Value) (x1 : World) : (execOp e o).run P x ≠ .ok (.enter f args) x1 := by
  have key : ∀ s : Sem Value, (do pure (Next.value (← s)) : Sem Next).run P x ≠ .ok (.enter f args) x1 := fun s => by
    rw [Sem.run_bind]
    cases s.run P x with
    | ok v x2 => simp [Sem.run_pure]
    | halt _ _ => simp [Result.andThen]
  unfold noEnter at h
  unfold execOp
  split at h <;> rename_i ho <;> simp only [ho] <;> first | exact key _ | skip
  · simp [Sem.run_pure]
  · simp [Sem.run_pure]
  · rw [Sem.run_bind]
    generalize Sem.run P _ x = r
    cases r <;> simp [Result.andThen, Sem.run_pure]
  · split at h
    · rename_i hb
      simp only [resolve, hb, invoke, builtin, Sem.run_bind, Sem.run_pure, Result.andThen_ok]
      intro hc
      revert hc
      generalize Sem.run P _ x = r
      cases r <;> simp [Result.andThen]
    · cases h
  · cases h

theorem wpMk_quiet {L : Act → (World → Prop) → Prop} (hL : AntiS (w := w) L) {o : Oper} {rest : List Oper} {a : Act} {S : World → Prop} (hn : noEnter o = true)
    (h : wpQuiet P ops (fun x => ∃ i : Ext w, x = i.w) (fun a' => wpMk P ops M w L rest a' S) [o] a) : wpMk P ops M w L (o :: rest) a S := by
  unfold wpQuiet at h
  by_cases hw : Region.wanted o (yielded ops a.tmps) = true
  · rw [if_pos hw] at h
    obtain ⟨u, h1, h2⟩ := h
    have hrun : ∀ x, Up w x → (execOp a.eval o).run P x = .ok (.value u) x ∨ ((execOp a.eval o).run P x = .ok .skip x ∧ u = undef) := fun x hx => by
      have h3 := h1 x ⟨⟨x, hx⟩, rfl⟩
      unfold Oper.quietAt at h3
      have h4 := noEnter_spec (P := P) hn a.eval x
      generalize (execOp a.eval o).run P x = r at *
      cases r with
      | ok n x1 =>
        cases n with
        | value v => obtain ⟨rfl, rfl⟩ := h3; exact .inl rfl
        | skip => obtain ⟨rfl, rfl⟩ := h3; exact .inr ⟨rfl, rfl⟩
        | enter f args => exact absurd rfl (h4 f args x1)
        | _ => exact absurd h3 (by simp [Oper.quietUpon])
      | halt _ _ => exact absurd h3 (by simp [Oper.quietUpon])
    have key : ∀ v y, SPM P M w o a v y → v = u := fun v y ⟨x, x', g1, g2, g3⟩ => by
      rcases hrun x g1 with hr | ⟨hr, rfl⟩ <;> rw [hr] at g2
      · exact g2.1.symm
      · exact g2.1
    refine ⟨fun _ x hx => ?_, fun v T hv => ?_⟩
    · rcases hrun x hx with hr | ⟨hr, rfl⟩ <;> rw [hr] <;> exact Up.refl x
    · unfold mRes at hv
      rw [if_pos hw] at hv
      obtain ⟨⟨y, hy, hs⟩, rfl⟩ := hv
      obtain rfl := key _ _ hs
      exact wpMk_anti hL _ _ _ _ (fun x _ h3 => h3.1) h2
  · rw [if_neg hw] at h
    refine ⟨fun hw' => absurd hw' hw, fun v T hv => ?_⟩
    unfold mRes at hv
    rw [if_neg hw] at hv
    obtain ⟨rfl, rfl⟩ := hv
    exact wpMk_anti hL _ _ _ _ (fun x _ h3 => h3.1) h
end
end Go.Proofs.YtlglfdhiopnglaaGreatDoor
end

section
namespace Go.Proofs.YtlglfdhiopnglaaGreatDoor
open Go.ChangeShapes Go.WideShapes Go.ChangeAt Go.RowKit
set_option linter.unusedVariables false
set_option linter.unusedSimpArgs false

theorem own_up' {w w' : World} {base n k : Nat} {e : TypeId} {v : Value} {xs : List Value} (h : w.ownsRow base e k v n xs) (u : Up w w') : w'.ownsRow base e k v n xs := by
  refine ⟨h.1, ?_⟩
  rcases h.2 with h0 | ⟨g, cap, cur, hv, hb, hg, hr⟩
  · exact .inl h0
  · exact .inr ⟨g, cap, cur, hv, hb, (u.heap g (Array.getElem?_eq_some_iff.1 hg).1).trans hg, hr⟩
/-- A store into a block of another type leaves the row as it is. -/
theorem own_far {w : World} {base n k b : Nat} {e t : TypeId} {v : Value} {xs : List Value} {cs : Array Value} (h : w.ownsRow base e k v n xs) (hb : w.heap[b]? = some (.cells cs t (0, 0))) (hne : t ≠ e) (o : Nat) (u : Value) : (w.setCell ⟨b, o, none⟩ u).ownsRow base e k v n xs := by
  refine ⟨h.1, ?_⟩
  rcases h.2 with h0 | ⟨g, cap, cur, hv, hb', hg, hr⟩
  · exact .inl h0
  · refine .inr ⟨g, cap, cur, hv, hb', ?_, hr⟩
    have hgb : b ≠ g := fun e => by subst e; rw [hb] at hg; cases hg; exact hne rfl
    simp only [World.setCell, Array.getElem?_modify, hgb, if_false]
    exact hg
theorem set_heap {w : World} {b o : Nat} {cs : Array Value} {t : TypeId} (h : w.heap[b]? = some (.cells cs t (0, 0))) (u : Value) : (w.setCell ⟨b, o, none⟩ u).heap[b]? = some (.cells (cs.setIfInBounds o u) t (0, 0)) := by
  simp [World.setCell, Array.getElem?_modify, h]
theorem own_from {w : World} {base n k : Nat} {e : TypeId} {v : Value} {xs : List Value} (h : w.ownsRow base e k v n xs) (B : Nat) (hB : B ≤ base) : w.ownsRow B e k v n xs := by
  refine ⟨h.1, ?_⟩
  rcases h.2 with h0 | ⟨g, cap, cur, hv, hb, hr⟩
  · exact .inl h0
  · exact .inr ⟨g, cap, cur, hv, by omega, hr⟩

theorem wpMk_append {P : Program} {ops : Array Oper} {w : World} {M : FuncId → Array Value → Value → World → Prop} {L : Act → (World → Prop) → Prop} (hL : AntiS (w := w) L) {o : Oper} {rest : List Oper} {a : Act} {S : World → Prop} (s x : Operand) (t : TypeId)
    (ho : o.op = .call { callee := .builtin .append, args := #[s, x], argTypes := #[t, t] })
    (e : TypeId) (i : TypeInfo) (z : Value) (size bytes : Nat) (ht : P.underlying t = some (.slice e)) (hi : P.info? e = some i) (hz : i.zero = some z)
    (hsize : i.size = size) (hby : i.bytes = bytes) (hzs : z.cells.size = size) (hsz : 0 < size)
    (hs : a.eval s = .slice none 0 0) (xv : Value) (m : Nat) (f : Nat → Nat → Value) (hxv : a.eval x = xv) (hx : SlAt w xv m size f) (h1 : ∀ i j, i < m → j < size → (f i j).oneCell' = true)
    (h63 : m ≤ maxLen) (hbytes : m * bytes ≤ 140737488355328) (hw : Region.wanted o (yielded ops a.tmps) = true)
    (h : ∀ vb vd, (∃ y, Up w y ∧ y.ownsRow w.heap.size e size (.slice vb m vd) m (flat f m size)) → wpMk P ops M w L rest (a.put o.dst (.slice vb m vd)) (fun y => S y ∧ y.ownsRow w.heap.size e size (.slice vb m vd) m (flat f m size))) : wpMk P ops M w L (o :: rest) a S := by
  refine wpMk_any hL (fun v y => y.ownsRow w.heap.size e size v m (flat f m size)) (fun v x y h hu => own_up' h hu) hw (fun y hy => ?_) (fun v hv => ?_)
  · obtain ⟨v', w', hrun, h2, h3, h4, h5⟩ := run_append_sl (P := P) y y.heap.size t o.type e i z size bytes ht hi hz hsize hby hzs hsz (.slice none 0 0) 0 [] (World.ownsRow_nil _ _ _ _) xv m f (hx.up hy) h1 (by omega) (by rw [Nat.zero_add]; exact hbytes) (Nat.le_refl _)
    refine ⟨v', w', ?_, grown_up h3 (fun k hk => by cases hk), ?_⟩
    · unfold execOp
      simp only [ho, resolve, invoke, builtin, Sem.run_bind, Sem.run_pure, Result.andThen_ok, List.map_toArray, List.map_cons, List.map_nil, hs, hxv, hrun]
    · rw [Nat.zero_add, List.nil_append] at h2
      exact own_from h2 _ hy.size
  · obtain ⟨y, hy, hv⟩ := hv
    obtain ⟨vb, vd, rfl⟩ := own_slice hv
    exact h vb vd ⟨y, hy, hv⟩
end Go.Proofs.YtlglfdhiopnglaaGreatDoor
end

section
namespace Go.Proofs.YtlglfdhiopnglaaGreatDoor
open Go.ChangeShapes Go.WideShapes Go.ChangeAt Go.RowKit
set_option linter.unusedVariables false
set_option linter.unusedSimpArgs false
set_option maxRecDepth 100000

theorem own_blk {w : World} {base n k : Nat} {e : TypeId} {v : Value} {xs : List Value} (h : w.ownsRow base e k v n xs) : ∀ g, v.ownBlock = some g → g < w.heap.size := fun g hg => by
  rcases h.2 with ⟨rfl, _⟩ | ⟨g', cap, cur, rfl, _, hr, _⟩
  · cases hg
  · cases hg; exact (Array.getElem?_eq_some_iff.1 hr).1
theorem own_base {w : World} {base n k : Nat} {e : TypeId} {v : Value} {xs : List Value} (h : w.ownsRow base e k v n xs) : ∀ g, v.ownBlock = some g → base ≤ g := fun g hg => by
  rcases h.2 with ⟨rfl, _⟩ | ⟨g', cap, cur, rfl, hb, _⟩
  · cases hg
  · cases hg; exact hb
/-- Rows behind one another. -/
theorem flat_snoc {f g h : Nat → Nat → Value} {n k : Nat} (hk : 0 < k) (h1 : ∀ i j, i < n → j < k → h i j = f i j) (h2 : ∀ j, j < k → h n j = g 0 j) : flat f n k ++ flat g 1 k = flat h (n + 1) k := by
  refine List.ext_getElem? fun q => ?_
  have hl1 : (flat f n k).length = n * k := flat_length _ _ _
  have hl2 : (flat h (n + 1) k).length = n * k + k := by rw [flat_length, Nat.add_mul]; omega
  have hl3 : (flat g 1 k).length = k := by rw [flat_length]; omega
  rcases Nat.lt_or_ge q (n * k) with hq | hq
  · rw [List.getElem?_append_left (by rw [hl1]; exact hq)]
    have hi : q / k < n := Nat.div_lt_of_lt_mul (by rw [Nat.mul_comm]; exact hq)
    have hj : q % k < k := Nat.mod_lt _ hk
    have e : q = q / k * k + q % k := by rw [Nat.mul_comm]; exact (Nat.div_add_mod q k).symm
    rw [e, flat_get _ _ _ _ _ hi hj, flat_get _ _ _ _ _ (by omega) hj, h1 _ _ hi hj]
  · rw [List.getElem?_append_right (by rw [hl1]; exact hq), hl1]
    rcases Nat.lt_or_ge (q - n * k) k with hj | hj
    · have e1 : q - n * k = 0 * k + (q - n * k) := by omega
      have e2 : q = n * k + (q - n * k) := by omega
      rw [e1, flat_get _ _ _ _ _ (by omega) hj]
      conv => rhs; rw [e2]
      rw [flat_get _ _ _ _ _ (by omega) hj, h2 _ hj]
    · rw [List.getElem?_eq_none (by omega), List.getElem?_eq_none (by omega)]

theorem ins_info : (Tryz.prog.info? 42).map (fun i => (i.zero, i.size, i.bytes)) = some (some (.agg #[.int .i64 0, .int .i64 0, .int .i64 0, .int .i64 0, .int .i64 0, .int .i64 0, .int .i64 0, .int .i64 0, .int .i64 0, .int .i64 0, .int .i64 0]), 11, 88) := by kernel_rfl
theorem insF_one (l : List Ins) (i j : Nat) : (insF l i j).oneCell' = true := rfl
theorem ins_snoc (ys : List Ins) (x : Ins) : flat (insF ys) ys.length 11 ++ flat (insF [x]) 1 11 = flat (insF (ys ++ [x])) (ys.length + 1) 11 :=
  flat_snoc (by decide) (fun i j hi _ => by
    unfold insF
    rw [List.getD_eq_getElem?_getD, List.getD_eq_getElem?_getD, List.getElem?_append_left hi]) (fun j _ => by
    unfold insF
    rw [List.getD_eq_getElem?_getD, List.getElem?_append_right (Nat.le_refl _), Nat.sub_self]; rfl)
theorem ins_one (w : World) (t : TypeId) (x : Ins) {g : Nat} (hg : g = w.heap.size) : SlAt (w.alloc (.cells #[.int .i64 x.1, .int .i64 x.2.1, .int .i64 x.2.2.1, .int .i64 x.2.2.2.1, .int .i64 x.2.2.2.2.1.1, .int .i64 x.2.2.2.2.1.2, .int .i64 x.2.2.2.2.2.1, .int .i64 x.2.2.2.2.2.2.1, .int .i64 x.2.2.2.2.2.2.2.1, .int .i64 x.2.2.2.2.2.2.2.2.1, .int .i64 x.2.2.2.2.2.2.2.2.2] t)) (.slice (some ⟨g, 0, none⟩) 1 1) 1 11 (insF [x]) :=
  hg ▸ SlAt.lay w t _ 1 11 _ (by decide) fun i j hi hj => by
    obtain rfl : i = 0 := by omega
    rcases (by omega : j = 0 ∨ j = 1 ∨ j = 2 ∨ j = 3 ∨ j = 4 ∨ j = 5 ∨ j = 6 ∨ j = 7 ∨ j = 8 ∨ j = 9 ∨ j = 10) with rfl | rfl | rfl | rfl | rfl | rfl | rfl | rfl | rfl | rfl | rfl <;> rfl
theorem InsAt.of_own {w : World} {base n : Nat} {e : TypeId} {v : Value} {l : List Ins} (h : w.ownsRow base e 11 v n (flat (insF l) n 11)) (hn : l.length = n) (hl : n ≤ 9223372036854775807) (hr : ∀ x ∈ l, InR x) : InsAt w v l := by
  subst hn
  exact ⟨SlAt.of_own h hl fun i j hi hj => flat_get _ _ _ _ _ hi hj, hr⟩
theorem InsAt.nil (w : World) : InsAt w (.slice none 0 0) [] := ⟨SlAt.nil _ _ _, fun x h => by cases h⟩
theorem drop_ins {l : List Ins} {k n : Nat} {x : Ins} (hn : l.length = n) (hk : k < n) (hx : l.getD k i0 = x) : l.drop k = x :: l.drop (k + 1) := by
  subst hn
  rw [List.drop_eq_getElem_cons hk, ← hx, List.getD_eq_getElem?_getD, List.getElem?_eq_getElem hk]; rfl
theorem R64.dec {a i : Int} (h : R64 a) (hi : 0 ≤ i) (hlt : i < a) : IntKind.i64.wrap (a - 1) = a - 1 := by
  obtain ⟨h1, h2⟩ := h
  rw [IntKind.wrap_i64]; omega
theorem InR.dec {x : Ins} {i : Int} (h : InR x) (hi : 0 ≤ i) : InR (decA x i) := by
  unfold decA
  split
  · rename_i hc
    have hc2 : i < x.2.1 := by simp at hc; exact hc.2
    intro j
    obtain ⟨h1, h2⟩ := h 1
    have h1 : -9223372036854775808 ≤ x.2.1 := h1
    have h2 : x.2.1 ≤ 9223372036854775807 := h2
    match j with
    | 0 => exact h 0
    | 1 => exact ⟨(by show -9223372036854775808 ≤ x.2.1 - 1; omega), (by show x.2.1 - 1 ≤ 9223372036854775807; omega)⟩
    | 2 => exact h 2
    | 3 => exact h 3
    | 4 => exact h 4
    | 5 => exact h 5
    | 6 => exact h 6
    | 7 => exact h 7
    | 8 => exact h 8
    | 9 => exact h 9
    | j + 10 => exact h (j + 10)
  · exact h
theorem remG_cons (x : Ins) (r : List Ins) (k i : Int) : remG (x :: r) k i = (if k = i then [] else [decA x i]) ++ remG r (k + 1) i := rfl
end Go.Proofs.YtlglfdhiopnglaaGreatDoor
end

section
namespace Go.Proofs.YtlglfdhiopnglaaGreatDoor
open Go.ChangeShapes Go.WideShapes Go.ChangeAt Go.RowKit
set_option linter.unusedVariables false
set_option linter.unusedSimpArgs false

/-- The last element goes. -/
theorem own_pop {w : World} {B m cap : Nat} {e : TypeId} {a : Option Addr} {xs : List Value} {u : Value} (h : w.ownsRow B e 1 (.slice a (m + 1) cap) (m + 1) (xs ++ [u])) : w.ownsRow B e 1 (.slice a m cap) m xs := by
  have hl : xs.length = m := by have := h.1; simp at this; omega
  refine ⟨by omega, ?_⟩
  rcases h.2 with ⟨_, h0⟩ | ⟨g, cap', cur, hv, hb, hg, hnc, hcm, hcs, ht⟩
  · omega
  · cases hv
    refine .inr ⟨g, cap, cur, rfl, hb, hg, by omega, hcm, hcs, ?_⟩
    have : cur.toList.take (m * 1) = (cur.toList.take ((m + 1) * 1)).take m := by rw [List.take_take]; congr 1; omega
    rw [this, ht, List.take_left' hl]
/-- One row grows, a row of another type stays. -/
theorem own_other {w w' : World} {B B' k k' n m : Nat} {e t : TypeId} {v u : Value} {xs ys : List Value} (h : w.ownsRow B e k v n xs) (hu : w.ownsRow B' t k' u m ys) (hne : t ≠ e) (g : w.grownBy w' u.ownBlock) : w'.ownsRow B e k v n xs := by
  refine ⟨h.1, ?_⟩
  rcases h.2 with h0 | ⟨b, cap, cur, hv, hb, hg, hr⟩
  · exact .inl h0
  · refine .inr ⟨b, cap, cur, hv, hb, ?_, hr⟩
    rw [g.block b (Array.getElem?_eq_some_iff.1 hg).1 (fun e' => ?_)]
    · exact hg
    · rcases hu.2 with ⟨rfl, _⟩ | ⟨b', cap', cur', hv', _, hg', _⟩
      · cases e'
      · subst hv'
        have e2 : b = b' := Option.some.inj e'
        subst e2
        rw [hg] at hg'
        cases hg'
        exact hne rfl
/-- A store into a row, and a row of another type. -/
theorem own_mark {w : World} {B B' k k' n m g cap : Nat} {e t : TypeId} {v : Value} {xs ys : List Value} (h : w.ownsRow B e k v n xs) (hu : w.ownsRow B' t k' (.slice (some ⟨g, 0, none⟩) m cap) m ys) (hne : t ≠ e) (o : Nat) (y : Value) : (w.setCell ⟨g, o, none⟩ y).ownsRow B e k v n xs := by
  rcases hu.2 with ⟨hv, _⟩ | ⟨b', cap', cur', hv', _, hg', _⟩
  · cases hv
  · cases hv'
    exact own_far h hg' hne o y

def intV (l : List Int) : List Value := l.map fun x => .int .i64 x
def boolV (l : List Bool) : List Value := l.map fun x => .bool x
theorem intV_app (a b : List Int) : intV (a ++ b) = intV a ++ intV b := List.map_append
theorem intV_len (l : List Int) : (intV l).length = l.length := List.length_map _
theorem boolV_len (l : List Bool) : (boolV l).length = l.length := List.length_map _
theorem boolV_set (l : List Bool) (i : Nat) (b : Bool) : (boolV l).set i (.bool b) = boolV (l.set i b) := by simp [boolV, List.map_set]
theorem boolV_get (l : List Bool) (i : Nat) (d : Bool) (h : i < l.length) : (boolV l)[i]? = some (.bool (l.getD i d)) := by
  simp [boolV, List.getD_eq_getElem?_getD, List.getElem?_eq_getElem h]
theorem boolV_rep (n : Nat) : (madeCells (Value.bool false).cells (n * 1)).toList = boolV (List.replicate n false) := by
  refine List.ext_getElem? fun i => ?_
  simp only [madeCells, boolV, Value.cells]
  by_cases h : i < n
  · simp [h, Nat.mod_one]
  · simp [h]
/-- The marks that are still off, read out of the world. -/
def unW (w : World) (g n : Nat) : Nat := (List.range n).countP fun i => match w.cell? ⟨g, i, none⟩ with | some (.bool false) => true | _ => false
def lenOfV : Value → Nat
  | .slice _ n _ => n
  | _ => 0
theorem unseen_range : ∀ (l : List Bool), unseen l = (List.range l.length).countP fun i => !(l.getD i true)
  | [] => rfl
  | b :: r => by
    have ih := unseen_range r
    unfold unseen at ih ⊢
    rw [List.count_cons, ih, List.length_cons, List.range_succ_eq_map, List.countP_cons, List.countP_map]
    have : ((fun i => !(b :: r).getD i true) ∘ Nat.succ) = fun i => !(r.getD i true) := by funext i; rfl
    rw [this]
    cases b <;> rfl
theorem unW_eq {w : World} {B g n cap : Nat} {e : TypeId} {l : List Bool} (h : w.ownsRow B e 1 (.slice (some ⟨g, 0, none⟩) n cap) n (boolV l)) (hl : l.length = n) : unW w g n = unseen l := by
  subst hl
  rw [unseen_range]
  unfold unW
  refine List.countP_congr fun i hi => ?_
  have hi' := List.mem_range.1 hi
  obtain ⟨g', cap', hv, _, _, _, _, hc⟩ := own_get h (by omega)
  cases hv
  rw [hc i _ (boolV_get l i true hi')]
  cases l.getD i true <;> simp
def BoolsAt (w : World) (v : Value) (l : List Bool) : Prop := SlAt w v l.length 1 (fun j _ => .bool (l.getD j false))
theorem BoolsAt.up {w w' : World} {v : Value} {l : List Bool} (h : BoolsAt w v l) (u : Up w w') : BoolsAt w' v l := SlAt.up h u
theorem BoolsAt.own {w : World} {B n : Nat} {e : TypeId} {v : Value} {l : List Bool} (h : w.ownsRow B e 1 v n (boolV l)) (hl : l.length = n) (hn : n ≤ 9223372036854775807) : BoolsAt w v l := by
  subst hl
  exact SlAt.of_own h hn fun i j hi hj => by
    obtain rfl : j = 0 := by omega
    rw [Nat.mul_one, Nat.add_zero]; exact boolV_get l i false hi
theorem BoolsAt.elem {w wr : World} {v : Value} {l : List Bool} (h : BoolsAt w v l) (hU : Up w wr) (k : Nat) (hk : k < l.length) {n : Nat} (hn : l.length = n) {a : Option Addr} {cap : Nat} (hv : v = .slice a n cap) :
    ∃ bl off, a = some ⟨bl, off, none⟩ ∧ bl < w.heap.size ∧ wr.cell? ⟨bl, off + k, none⟩ = some (.bool (l.getD k false)) := by
  subst hn
  obtain ⟨⟨a', cap', hv', h0, hc⟩, hmax⟩ := h
  rw [hv'] at hv
  simp only [Value.slice.injEq] at hv
  obtain ⟨rfl, -, rfl⟩ := hv
  cases a' with
  | none => exact absurd (h0 rfl) (by omega)
  | some y =>
    obtain ⟨g1, g2, g3⟩ := hc y rfl (by omega)
    obtain ⟨bl, off, sp⟩ := y
    have g1' : sp = none := g1
    subst g1'
    have := g3 k 0 hk (by omega)
    rw [Nat.mul_one, Nat.add_zero] at this
    exact ⟨bl, off, rfl, g2, (hU.cell _ _ g2).trans this⟩
theorem BoolsAt.slice {w : World} {v : Value} {l : List Bool} (h : BoolsAt w v l) : (∃ a cap, v = .slice a l.length cap) ∧ l.length ≤ 9223372036854775807 := by
  obtain ⟨⟨a, cap, hv, _, _⟩, hm⟩ := h
  exact ⟨⟨a, cap, hv⟩, hm⟩
theorem IntsAt.up {w w' : World} {v : Value} {l : List Int} (h : IntsAt w v l) (u : Up w w') : IntsAt w' v l := SlAt.up h u
theorem IntsAt.slice {w : World} {v : Value} {l : List Int} (h : IntsAt w v l) : (∃ a cap, v = .slice a l.length cap) ∧ l.length ≤ 9223372036854775807 := by
  obtain ⟨⟨a, cap, hv, _, _⟩, hm⟩ := h
  exact ⟨⟨a, cap, hv⟩, hm⟩
theorem IntsAt.elem {w wr : World} {v : Value} {l : List Int} (h : IntsAt w v l) (hU : Up w wr) (k : Nat) (hk : k < l.length) {n : Nat} (hn : l.length = n) {a : Option Addr} {cap : Nat} (hv : v = .slice a n cap) :
    ∃ bl off, a = some ⟨bl, off, none⟩ ∧ bl < w.heap.size ∧ wr.cell? ⟨bl, off + k, none⟩ = some (.int .i64 (l.getD k 0)) := by
  subst hn
  obtain ⟨⟨a', cap', hv', h0, hc⟩, hmax⟩ := h
  rw [hv'] at hv
  simp only [Value.slice.injEq] at hv
  obtain ⟨rfl, -, rfl⟩ := hv
  cases a' with
  | none => exact absurd (h0 rfl) (by omega)
  | some y =>
    obtain ⟨g1, g2, g3⟩ := hc y rfl (by omega)
    obtain ⟨bl, off, sp⟩ := y
    have g1' : sp = none := g1
    subst g1'
    have := g3 k 0 hk (by omega)
    rw [Nat.mul_one, Nat.add_zero] at this
    exact ⟨bl, off, rfl, g2, (hU.cell _ _ g2).trans this⟩
theorem intV_get (l : List Int) (i : Nat) (h : i < l.length) : (intV l)[i]? = some (.int .i64 (l.getD i 0)) := by
  simp [intV, List.getD_eq_getElem?_getD, List.getElem?_eq_getElem h]
theorem intV_flat (l : List Int) : flat (fun j _ => .int .i64 (l.getD j 0)) l.length 1 = intV l := by
  rw [flat_one]
  refine List.ext_getElem? fun i => ?_
  by_cases h : i < l.length
  · rw [intV_get l i h, List.getElem?_map, List.getElem?_range h]; rfl
  · rw [List.getElem?_eq_none (by simp; omega), List.getElem?_eq_none (by rw [intV_len]; omega)]
theorem IntsAt.own {w : World} {B n : Nat} {e : TypeId} {v : Value} {l : List Int} (h : w.ownsRow B e 1 v n (intV l)) (hl : l.length = n) (hn : n ≤ 9223372036854775807) : IntsAt w v l := by
  subst hl
  exact SlAt.of_own h hn fun i j hi hj => by
    obtain rfl : j = 0 := by omega
    rw [Nat.mul_one, Nat.add_zero]; exact intV_get l i hi
theorem int_info : (Tryz.prog.info? 3).map (fun i => (i.zero, i.size, i.bytes)) = some (some (.int .i64 0), 1, 8) := by kernel_rfl
theorem bool_info : (Tryz.prog.info? 4).map (fun i => (i.zero, i.size, i.bytes)) = some (some (.bool false), 1, 1) := by kernel_rfl
theorem own_one {w : World} {B : Nat} (hB : B ≤ w.heap.size) (e : TypeId) (u : Value) : (w.alloc (.cells #[u] e)).ownsRow B e 1 (.slice (some ⟨w.heap.size, 0, none⟩) 1 1) 1 [u] :=
  ⟨rfl, .inr ⟨w.heap.size, 1, #[u], rfl, hB, heap_alloc_new w _, by decide, by decide, rfl, rfl⟩⟩
end Go.Proofs.YtlglfdhiopnglaaGreatDoor
end

section
namespace Go.Proofs.YtlglfdhiopnglaaGreatDoor
open Go.ChangeShapes Go.WideShapes Go.ChangeAt Go.RowKit
set_option linter.unusedVariables false
set_option linter.unusedSimpArgs false
set_option maxRecDepth 100000

theorem reachG_skip {l : List Ins} {f : Nat} {sn : List Bool} {p : Int} {st : List Int} {r : List Bool} (h : reachG l (f + 1) sn (p :: st) = r) (hc : p < 0 ∨ (l.length : Int) ≤ p ∨ sn.getD p.toNat true = true) : reachG l f sn st = r := by
  rw [reachG_cons, if_pos hc] at h; exact h
theorem reachG_push {l : List Ins} {f : Nat} {sn : List Bool} {k : Nat} {st : List Int} {r : List Bool} (h : reachG l (f + 1) sn ((k : Int) :: st) = r) (h1 : k < l.length) (h2 : sn.getD k true = false) : reachG l f (sn.set k true) ((succF (l.getD k i0) k).reverse ++ st) = r := by
  rw [reachG_cons, if_neg (by rw [Int.toNat_natCast, h2]; simp; omega), Int.toNat_natCast] at h; exact h
theorem rev_push (st ls : List Int) : intV st.reverse ++ intV ls = intV (ls.reverse ++ st).reverse := by simp [intV]


end Go.Proofs.YtlglfdhiopnglaaGreatDoor
end

section
namespace Go.Proofs.YtlglfdhiopnglaaGreatDoor
open Go.ChangeShapes Go.WideShapes Go.ChangeAt Go.RowKit
set_option linter.unusedVariables false
set_option linter.unusedSimpArgs false
set_option maxRecDepth 100000

theorem drop_bool {l : List Bool} {k n : Nat} {x : Bool} (hn : l.length = n) (hk : k < n) (hx : l.getD k false = x) : l.drop k = x :: l.drop (k + 1) := by
  subst hn
  rw [List.drop_eq_getElem_cons hk, ← hx, List.getD_eq_getElem?_getD, List.getElem?_eq_getElem hk]; rfl
theorem drop_int {l : List Int} {k n : Nat} {x : Int} (hn : l.length = n) (hk : k < n) (hx : l.getD k 0 = x) : l.drop k = x :: l.drop (k + 1) := by
  subst hn
  rw [List.drop_eq_getElem_cons hk, ← hx, List.getD_eq_getElem?_getD, List.getElem?_eq_getElem hk]; rfl
theorem unF_cons (b : Bool) (r : List Bool) (k : Int) : unF (b :: r) k = (if b then [] else [k]) ++ unF r (k + 1) := rfl
theorem int_snoc (ys : List Int) (x : Int) : intV ys ++ flat (fun j _ => Value.int .i64 (([x] : List Int).getD j 0)) 1 1 = intV (ys ++ [x]) := by
  rw [show flat (fun j _ => Value.int .i64 (([x] : List Int).getD j 0)) 1 1 = intV [x] from intV_flat [x], intV_app]


set_option maxHeartbeats 4000000 in
theorem base_Ints (va vb : Value) (la lb : List Int) (w : World) (ha : IntsAt w va la) (hb : IntsAt w vb lb) :
    Calls Tryz.prog 20 #[va, vb] w fun e w' => e = .returned (.bool (decide (la = lb))) ∧ Up w w' := by
  obtain ⟨r, hr⟩ : ∃ r, decide (la = lb) = r := ⟨_, rfl⟩
  rw [hr]
  have HA := Lib.hid ha
  have HB := Lib.hid hb
  obtain ⟨⟨a, cap, rfl⟩, hmax⟩ := ha.slice
  obtain ⟨⟨b, cap2, rfl⟩, hmax2⟩ := hb.slice
  obtain ⟨n, hn⟩ : ∃ n, la.length = n := ⟨_, rfl⟩
  obtain ⟨n2, hn2⟩ : ∃ n, lb.length = n := ⟨_, rfl⟩
  rw [hn, hn2]
  rw [hn] at hmax
  rw [hn2] at hmax2
  have HN := Lib.hid hn
  have HN2 := Lib.hid hn2
  have HR := Lib.hid hr
  clear hn hn2 hr ha hb
  have hmI : (n : Int) ≤ 9223372036854775807 := by omega
  have hmI2 : (n2 : Int) ≤ 9223372036854775807 := by omega
  by_cases hne : n = n2
  · subst hne
    go_enter Tryz.func20, Tryz.ntmps20
    go_wp2
    go_loopw [5] (fun iv wr => ∃ (k : Nat), k ≤ n ∧ iv = .int .i64 k ∧ decide (la.drop k = lb.drop k) = r ∧ Up w wr) (fun iv _ => n - (intOf iv).toNat)
    case atStart => exact ⟨0, by omega, rfl, by rw [List.drop_zero, List.drop_zero]; exact HR.out, Up.refl w⟩
    case round =>
      rename World => wr
      obtain ⟨k, hk, rfl, hf, hU⟩ := hrel
      have HU := Lib.hid hU
      have HF := Lib.hid hf
      clear hf hU
      by_cases hlt : k < n
      · have hltI : (k : Int) < n := by omega
        obtain ⟨x, hx⟩ : ∃ x, la.getD k 0 = x := ⟨_, rfl⟩
        obtain ⟨y, hy⟩ : ∃ y, lb.getD k 0 = y := ⟨_, rfl⟩
        obtain ⟨bl, off, hA, hbl, k0⟩ := HA.out.elem HU.out k (by rw [HN.out]; exact hlt) HN.out (by rw [HN.out])
        obtain ⟨bl2, off2, hB, hbl2, k2⟩ := HB.out.elem HU.out k (by rw [HN2.out]; exact hlt) HN2.out (by rw [HN2.out])
        subst hA hB
        rw [hx] at k0
        rw [hy] at k2
        have hb1 : bl < wr.heap.size := Nat.lt_of_lt_of_le hbl HU.out.size
        have hb2 : bl2 < wr.heap.size := Nat.lt_of_lt_of_le hbl2 HU.out.size
        have HG : Hid (decide (x = y ∧ la.drop (k + 1) = lb.drop (k + 1)) = r) := Lib.hid (by
          have := HF.out
          rw [drop_int HN.out hlt hx, drop_int HN2.out hlt hy] at this
          rw [← this]; simp)
        clear hx hy HF
        go_wp2_with fail
        refine wp_region_ext (by kernel_rfl) (by kernel_rfl) ?_
        repeat (go_big_quiet_step (fail))
        refine wpQuiet_nil ?_
        intro x5 hx5
        have HU5 := Lib.hid (HU.out.trans hx5)
        clear hx5
        by_cases hxy : x = y
        · subst hxy
          have HG2 : Hid (decide (la.drop (k + 1) = lb.drop (k + 1)) = r) := Lib.hid (by rw [← HG.out]; simp)
          go_wp2
          go_roundw
          case rel => exact ⟨k + 1, by omega, by go_num, HG2.out, HU5.out⟩
          case measure => simp [intOf]; omega
        · have hxb : (x == y) = false := by simpa using hxy
          have hxb2 : (x != y) = true := by simpa using hxy
          have HG2 : Hid (false = r) := Lib.hid (by rw [← HG.out]; simp [hxy])
          go_wp2
          go_ret
          exact ⟨ret_bool HG2.out, HU5.out⟩
      · obtain rfl : k = n := by omega
        have HG : Hid (true = r) := Lib.hid (by rw [← HF.out, List.drop_eq_nil_of_le (by rw [HN.out]; omega), List.drop_eq_nil_of_le (by rw [HN2.out]; omega)]; simp)
        go_wp2
        go_ret
        exact ⟨ret_bool HG.out, HU.out⟩
  · have hneI : ¬ (n : Int) = (n2 : Int) := by omega
    have hnb : ((n : Int) == n2) = false := by simpa using hneI
    have hnb2 : ((n : Int) != n2) = true := by simpa using hneI
    have HG : Hid (false = r) := Lib.hid (by
      rw [← HR.out]
      symm
      rw [decide_eq_false_iff_not]
      rintro rfl
      exact hne (HN.out.symm.trans HN2.out))
    go_enter Tryz.func20, Tryz.ntmps20
    go_wp2
    go_ret
    exact ⟨ret_bool HG.out, Up.refl w⟩

end Go.Proofs.YtlglfdhiopnglaaGreatDoor
end
