/-
  Checked products, the base package's side.
-/
import Derived.Test.YtpclbgaaoednnaaDoorLinT
namespace Go.Proofs.YtpclbgaaoednnaaDoor
set_option linter.unusedSimpArgs false
open Go.ChangeShapes Go.WideShapes Go.ChangeAt Go.RowKit
set_option linter.unusedVariables false

/-- A wrapped product divides back just if it fits. -/
theorem wrap_quo {a b c : Int} (ha : In64 a) (hb : In64 b) (hb0 : b ≠ 0) (hc : wrap64 (a * b) = c) (hs : ¬ (a = -1 ∧ b = -9223372036854775808)) (hs2 : ¬ (b = -1 ∧ a = -9223372036854775808)) :
    (c.tdiv b = a ↔ fitB (a * b) = true) := by
  constructor
  · intro h
    have h1 := Int.mul_tdiv_add_tmod c b
    rw [h, Int.mul_comm] at h1
    have h2 : (c.tmod b).natAbs < b.natAbs := by
      have := Int.natAbs_tmod c b
      rw [this]
      exact Nat.mod_lt _ (by omega)
    obtain ⟨a0, a1⟩ := ha
    obtain ⟨b0, b1⟩ := hb
    generalize c.tmod b = r at h1 h2
    generalize a * b = p at h1 hc ⊢
    apply fit_true
    unfold wrap64 at hc
    omega
  · intro h
    have : c = a * b := by
      rw [← hc]
      unfold fitB at h; simp at h
      unfold wrap64; omega
    rw [this]
    exact Int.mul_tdiv_cancel a hb0

end Go.Proofs.YtpclbgaaoednnaaDoor

