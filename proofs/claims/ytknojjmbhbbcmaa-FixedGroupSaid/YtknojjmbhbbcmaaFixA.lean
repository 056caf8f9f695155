/-
  Contracts of chapter 3: valid types and values, on both sides. Printed by mk03a.py.
-/
import Derived.Test.YtknojjmbhbbcmaaQuant
import Derived.Test.YtknojjmbhbbcmaaNarrowA
import Derived.Test.YtknojjmbhbbcmaaBase
namespace Go.Proofs.Ytknojjmbhbbcmaa
open Go.ChangeShapes Go.WideShapes Go.ChangeAt Go.RowKit
set_option linter.unusedVariables false
set_option linter.unusedSimpArgs false

def vT (k b f r o : Int) : Bool := decide (k = 2 ∧ 2 ≤ b ∧ b ≤ 31 ∧ 0 ≤ f ∧ f ≤ 30 ∧ 1 ≤ r ∧ r ≤ 4 ∧ (o = 1 ∨ o = 2))
def eT (k b f r o : Int) : Int := if vT k b f r o = true then 0 else 10
theorem vT_spec {k b f r o : Int} (h : vT k b f r o = true) : k = 2 ∧ 2 ≤ b ∧ b ≤ 31 ∧ 0 ≤ f ∧ f ≤ 30 ∧ 1 ≤ r ∧ r ≤ 4 ∧ (o = 1 ∨ o = 2) := by simpa [vT] using h
theorem eT_zero {k b f r o : Int} : eT k b f r o = 0 ↔ vT k b f r o = true := by unfold eT; split <;> simp_all
theorem eT_val (k b f r o : Int) : eT k b f r o = 0 ∨ eT k b f r o = 10 := by unfold eT; split <;> simp
def vV (b n d : Int) : Bool := decide (d = 1 ∧ -(2 ^ (b.toNat - 1) : Int) ≤ n ∧ n ≤ (2 ^ (b.toNat - 1) : Int) - 1)
theorem beq_int (a b : Int) : ((a == b) = true ↔ a = b) ∧ ((a == b) = false ↔ ¬ a = b) := by simp

set_option maxHeartbeats 2000000 in
theorem fixed_ValidateType (k b f r o : Int) (e : Int) (he : eT k b f r o = e) (w : World) :
    Calls Try.prog 12 #[.agg #[.int .i64 k, .int .i64 b, .int .i64 f, .int .i64 r, .int .i64 o]] w fun e' w' => e' = .returned (.int .i64 e) ∧ Up w w' := by
  have HE := Lib.hid he
  have hV := (Up.refl w).alloc (.cells #[.int .i64 k, .int .i64 b, .int .i64 f, .int .i64 r, .int .i64 o] 23)
  clear he
  go_enter Try.func12, Try.ntmps12
  go_wp2
  all_goals try simp only [Bool.not_eq_false', Bool.not_eq_true', bne_iff_ne, ne_eq, bne_eq_false_iff_eq, beq_iff_eq, beq_eq_false_iff_ne, decide_eq_true_eq, decide_eq_false_iff_not] at *
  all_goals
    go_ret
    exact ⟨ret_int (by have := HE.out; rw [← this, eT, vT]; first | (rw [if_pos (by simp; omega)]) | (rw [if_neg (by simp; omega)])), (Up.refl w).alloc _⟩

set_option maxHeartbeats 2000000 in
theorem base_Type (k b f r o : Int) (hk : k = 2) (e : Bool) (he : vT k b f r o = e) (w : World) :
    Calls Try.prog 34 #[.agg #[.int .i64 k, .int .i64 b, .int .i64 f, .int .i64 r, .int .i64 o]] w fun e' w' => e' = .returned (.bool e) ∧ Up w w' := by
  subst hk
  have HE := Lib.hid he
  have hV := (Up.refl w).alloc (.cells #[.int .i64 2, .int .i64 b, .int .i64 f, .int .i64 r, .int .i64 o] 23)
  clear he
  go_enter Try.func34, Try.ntmps34
  go_wp2
  all_goals try simp only [Bool.not_eq_false', Bool.not_eq_true', bne_iff_ne, ne_eq, bne_eq_false_iff_eq, beq_iff_eq, beq_eq_false_iff_ne, decide_eq_true_eq, decide_eq_false_iff_not] at *
  all_goals
    go_ret
    exact ⟨ret_bool (by have := HE.out; rw [← this, vT, Bool.eq_iff_iff]; simp; omega), (Up.refl w).alloc _⟩

set_option maxHeartbeats 1000000 in
theorem ref03_ValidateType (k b f r o : Int) (e : Int) (he : eT k b f r o = e) (w : World) :
    Calls Try.prog 13 #[.agg #[.int .i64 k, .int .i64 b, .int .i64 f, .int .i64 r, .int .i64 o]] w fun e' w' => e' = .returned (.int .i64 e) ∧ Up w w' := by
  have HE := Lib.hid he
  have hV := (Up.refl w).alloc (.cells #[.int .i64 k, .int .i64 b, .int .i64 f, .int .i64 r, .int .i64 o] 23)
  clear he
  by_cases hk : k = 2
  · subst hk
    obtain ⟨v, hv⟩ : ∃ v, vT 2 b f r o = v := ⟨_, rfl⟩
    have HV := Lib.hid hv
    clear hv
    cases v
    all_goals
      go_enter Try.func13, Try.ntmps13
      go_wp2_with (go_at_call 34; refine (base_Type _ _ _ _ _ rfl _ HV.out _).mono ?_; rintro e' x ⟨rfl, hx⟩; replace hV := hV.trans hx)
      go_ret
      exact ⟨ret_int (by rw [← HE.out, eT, HV.out]; simp), hV⟩
  · have hk2 : (k == 2) = false := by simpa using hk
    have hk3 : (k != 2) = true := by simpa using hk
    go_enter Try.func13, Try.ntmps13
    go_wp2
    go_ret
    exact ⟨ret_int (by rw [← HE.out, eT, vT, if_neg (by simp; omega)]), hV⟩

end Go.Proofs.Ytknojjmbhbbcmaa
