/-
  Plain facts on rounded quotients by a positive divisor: floor, and one more or not.
-/
import Derived.Test.YtknojjmbhbbcmaaM
namespace Go.Proofs.Ytknojjmbhbbcmaa
open Go.RowKit

/-- What is added to the floor. -/
def rcorr (n d how : Int) : Int :=
  if n % d = 0 then 0
  else if how = 2 then 1
  else if how = 3 then (if n < 0 then 1 else 0)
  else if how = 4 then (if d < 2 * (n % d) ∨ (2 * (n % d) = d ∧ n / d % 2 ≠ 0) then 1 else 0)
  else 0

theorem neg_div_pos (n d : Int) (hd : 1 ≤ d) : (n % d = 0 → (-n) / d = -(n / d) ∧ (-n) % d = 0) ∧ (n % d ≠ 0 → (-n) / d = -(n / d) - 1 ∧ (-n) % d = d - n % d) := by
  have h := Int.mul_ediv_add_emod n d
  have h0 : 0 ≤ n % d := Int.emod_nonneg _ (by omega)
  have h1 : n % d < d := Int.emod_lt_of_pos _ (by omega)
  have key : ∀ q r : Int, 0 ≤ r → r < d → r + d * q = -n → (-n) / d = q ∧ (-n) % d = r := fun q r a b c => (Int.ediv_emod_unique (by omega)).2 ⟨c, a, b⟩
  refine ⟨fun e => key _ _ (by omega) (by omega) ?_, fun e => key _ _ (by omega) (by omega) ?_⟩
  · rw [Int.mul_neg]; omega
  · rw [Int.mul_sub, Int.mul_neg, Int.mul_one]; omega

theorem divR_pos (n d how : Int) (hM : isMode how = true) (hd : 1 ≤ d) (hn1 : -9223372036854775808 ≤ n) (hn2 : n ≤ 9223372036854775807) : divR n d how = (n / d + rcorr n d how, 0) := by
  have hw : 1 ≤ how ∧ how ≤ 4 := by simpa [isMode] using hM
  have hmd : mag d = d := by unfold mag; split <;> omega
  have hds : decide (d < 0) = false := by simp; omega
  have h := Int.mul_ediv_add_emod n d
  have h0 : 0 ≤ n % d := Int.emod_nonneg _ (by omega)
  have h1 : n % d < d := Int.emod_lt_of_pos _ (by omega)
  obtain ⟨g1, g2⟩ := neg_div_pos n d hd
  rw [divR, if_neg (by simp [hM]), if_neg (by omega), hmd, hds]
  have hhow : how = 1 ∨ how = 2 ∨ how = 3 ∨ how = 4 := by omega
  by_cases hn : n < 0
  · have hmn : mag n = -n := by simp [mag, hn]
    rw [hmn]
    simp only [hn, decide_true, Bool.bne_false, if_true]
    refine Prod.ext ?_ rfl
    by_cases hR : n % d = 0
    · obtain ⟨a, b⟩ := g1 hR
      simp only [rnd, rcorr, a, b, hR, if_true, true_or]
      omega
    · obtain ⟨a, b⟩ := g2 hR
      have hR2 : d - n % d ≠ 0 := by omega
      simp only [rnd, rcorr, a, b]
      generalize n / d = Q at *
      generalize n % d = R at *
      clear g1 g2 h a b hmn
      rcases hhow with rfl | rfl | rfl | rfl <;> simp [hR, hR2, hn] <;> (repeat' split) <;> omega
  · have hmn : mag n = n := by unfold mag; split <;> omega
    rw [hmn]
    have hlt : rnd n d false how ≤ n := (rnd_bd n d false how (by omega) hd).2
    have hq0 : 0 ≤ n / d := Int.ediv_nonneg (by omega) (by omega)
    simp only [hn, decide_false, bne_self_eq_false, Bool.false_eq_true, if_false]
    rw [if_neg (by omega)]
    refine Prod.ext ?_ rfl
    simp only [rnd, rcorr]
    generalize n / d = Q at *
    generalize n % d = R at *
    clear g1 g2 h hmn hlt
    by_cases hR : R = 0
    · simp [hR]
    · rcases hhow with rfl | rfl | rfl | rfl <;> simp [hR, hn] <;> (repeat' split) <;> omega
end Go.Proofs.Ytknojjmbhbbcmaa
