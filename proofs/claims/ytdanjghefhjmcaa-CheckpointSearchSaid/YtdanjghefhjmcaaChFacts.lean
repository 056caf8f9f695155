/-
  Facts on the cost over all numbers up to 64, by computation.
-/
import Derived.Test.YtdanjghefhjmcaaCh
namespace Go.Proofs.Ytdanjghefhjmcaa

theorem ext1_b : (all64 fun n => costF n 0 == n * (n - 1) / 2) = true := by decide +kernel
theorem ext2_b : (all64 fun n => costF n (n - 1) == n - 1) = true := by decide +kernel
theorem ext3_b : (all64 fun n => all64 fun s => decide (costF n (s + 1) ≤ costF n s) && decide (costF n s ≤ n * (n - 1) / 2) && decide (n - 1 ≤ costF n s)) = true := by decide +kernel

theorem ext1 (n : Nat) (hn : n ≤ 64) : costF n 0 = n * (n - 1) / 2 := by simpa using all64_spec ext1_b n hn
theorem ext2 (n : Nat) (hn : n ≤ 64) : costF n (n - 1) = n - 1 := by simpa using all64_spec ext2_b n hn
theorem ext3 (n s : Nat) (hn : n ≤ 64) (hs : s ≤ 64) : costF n (s + 1) ≤ costF n s ∧ costF n s ≤ n * (n - 1) / 2 ∧ n - 1 ≤ costF n s := by
  have := all64_spec (all64_spec ext3_b n hn) s hs
  simp only [Bool.and_eq_true, decide_eq_true_eq] at this
  exact ⟨this.1.1, this.1.2, this.2⟩
end Go.Proofs.Ytdanjghefhjmcaa
