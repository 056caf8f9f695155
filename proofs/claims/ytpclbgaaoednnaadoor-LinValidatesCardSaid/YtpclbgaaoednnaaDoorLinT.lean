/-
  Checked sums and products of 64-bit numbers, both sides.
-/
import Derived.Test.YtpclbgaaoednnaaDoorLinE
namespace Go.Proofs.YtpclbgaaoednnaaDoor
set_option linter.unusedSimpArgs false
open Go.ChangeShapes Go.WideShapes Go.ChangeAt Go.RowKit
set_option linter.unusedVariables false

def mulR (a b : Int) : Int × Bool := if fitB (a * b) then (a * b, true) else (0, false)
theorem fit_true {n : Int} (h : -9223372036854775808 ≤ n ∧ n ≤ 9223372036854775807) : fitB n = true := by
  unfold fitB; simp; omega
theorem fit_false {n : Int} (h : ¬ (-9223372036854775808 ≤ n ∧ n ≤ 9223372036854775807)) : fitB n = false := by
  unfold fitB; simp; omega

def addR (a b : Int) : Int × Bool := if fitB (a + b) then (a + b, true) else (0, false)

end Go.Proofs.YtpclbgaaoednnaaDoor

