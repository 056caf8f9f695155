/-
  Chapter 50: final, of both sides.
-/
import Derived.Test.YtlglfdhiopnglaaGreatDoorGa
namespace Go.Proofs.YtlglfdhiopnglaaGreatDoor
open Go.ChangeShapes Go.WideShapes Go.ChangeAt Go.RowKit
set_option linter.unusedVariables false
set_option linter.unusedSimpArgs false

theorem finG_step (l : List Ins) (t : Int) (k : Nat) (p : Int) : finG l t (k + 1) p = if p < 0 ∨ (l.length : Int) ≤ p ∨ (l.getD p.toNat i0).1 ≠ 7 then p else finG l t k (l.getD p.toNat i0).2.1 := rfl
theorem finG_zero (l : List Ins) (t : Int) (p : Int) : finG l t 0 p = if 0 ≤ p ∧ p < l.length ∧ (l.getD p.toNat i0).1 = 7 then t else p := rfl

end Go.Proofs.YtlglfdhiopnglaaGreatDoor

