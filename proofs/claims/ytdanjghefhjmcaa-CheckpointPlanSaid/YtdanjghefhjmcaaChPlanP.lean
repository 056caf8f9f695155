/-
  Plain laws for the plan: the first stored state splits the cost; the plan as a list.
-/
import Derived.Test.YtdanjghefhjmcaaChBruteP
namespace Go.Proofs.Ytdanjghefhjmcaa
open Go.RowKit
set_option linter.unusedVariables false

set_option maxRecDepth 100000 in
theorem firstT_b : (all64 fun n => all64 fun s => decide (n < 2) || s == 0 || (fun m => decide (1 ≤ m) && decide (m < n) && costT n s == m + costT (n - m) (s - 1) + costT m s) (bfT n s (n - 1)).2) = true := by decide +kernel
theorem first_split (n s : Nat) (hn : n ≤ 64) (hs : s ≤ 64) (h2 : 2 ≤ n) (h0 : 1 ≤ s) : 1 ≤ firstF n s ∧ firstF n s < n ∧ costF n s = firstF n s + costF (n - firstF n s) (s - 1) + costF (firstF n s) s := by
  have := all64_spec (all64_spec firstT_b n hn) s hs
  have h3 : (s == 0) = false := by simp; omega
  have h4 : decide (n < 2) = false := by simp; omega
  have hf : firstF n s = (bfT n s (n - 1)).2 := by rw [firstF, if_neg (by omega), bf_eq n s hn hs _ (by omega)]
  rw [h3, h4] at this
  simp only [Bool.false_or, Bool.and_eq_true, decide_eq_true_eq, beq_iff_eq] at this
  rw [← hf] at this
  obtain ⟨⟨a1, a2⟩, a3⟩ := this
  refine ⟨a1, a2, ?_⟩
  rw [costT_eq n s hn hs, costT_eq (n - firstF n s) (s - 1) (by omega) (by omega), costT_eq (firstF n s) s (by omega) hs]
  exact a3
end Go.Proofs.Ytdanjghefhjmcaa
