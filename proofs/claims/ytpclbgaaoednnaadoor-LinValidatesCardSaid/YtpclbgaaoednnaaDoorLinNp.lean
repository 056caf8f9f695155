/-
  Near numbers, plain.
-/
import Derived.Test.YtpclbgaaoednnaaDoorLin0
namespace Go.Proofs.YtpclbgaaoednnaaDoor
set_option linter.unusedSimpArgs false
open Go.ChangeShapes Go.WideShapes Go.ChangeAt Go.RowKit
set_option linter.unusedVariables false

def nearB (n : Int) : Bool := decide (-1048576 ≤ n) && decide (n ≤ 1048576)
def nearAll (l : List Mono) : Bool := l.all fun m => nearB m.2
end Go.Proofs.YtpclbgaaoednnaaDoor

