/-
  Equality of linear forms: Same, and Lin of the base package; the constant form and the form of one variable.
-/
import Derived.Test.YtpclbgaaoednnaaDoorLin2
namespace Go.Proofs.YtpclbgaaoednnaaDoor
set_option linter.unusedSimpArgs false
open Go.ChangeShapes Go.WideShapes Go.ChangeAt Go.RowKit
set_option linter.unusedVariables false

def eqForm (K K' : Int) (l l' : List Mono) : Bool := decide (K = K') && eqM l l'

def varL (s : ByteArray) : List Mono := if nameB s.toList then [(s, 1)] else []
theorem monos_nil (w : World) : MonosAt w (.slice none 0 0) [] := SlAt.nil w 2 _
theorem monos_one (w : World) (t : TypeId) (s : ByteArray) (b : Int) : MonosAt (w.alloc (.cells #[.string s, .int .i64 b] t)) (.slice (some ⟨w.heap.size, 0, none⟩) 1 1) [(s, b)] :=
  SlAt.new w t _ 1 2 _ (by decide) fun i j hi hj => by
    obtain rfl : i = 0 := by omega
    rcases (by omega : j = 0 ∨ j = 1) with rfl | rfl <;> rfl

end Go.Proofs.YtpclbgaaoednnaaDoor

