/-
  The reference 47, reading: Instr, whole. Printed by mkIsIn.py.
-/
import Derived.Test.YtlglfdhiopnglaaGreatDoorIsIb
import Derived.Test.YtlglfdhiopnglaaGreatDoorIsIc
import Derived.Test.YtlglfdhiopnglaaGreatDoorIsId
import Derived.Test.YtlglfdhiopnglaaGreatDoorIsIe
import Derived.Test.YtlglfdhiopnglaaGreatDoorIsIf
import Derived.Test.YtlglfdhiopnglaaGreatDoorIsIg
import Derived.Test.YtlglfdhiopnglaaGreatDoorIsIi
import Derived.Test.YtlglfdhiopnglaaGreatDoorIsIj
namespace Go.Proofs.YtlglfdhiopnglaaGreatDoor
open Go.ChangeShapes Go.WideShapes Go.ChangeAt Go.RowKit
theorem r47_Instr (S : List UInt8) (hS : S.length ≤ 10000) (w : World) :
    Calls Tryz.prog 40 #[.string (bst S)] w fun e w' => e = .returned (.tuple #[insV (riF S).1, .bool (riF S).2]) ∧ Up w w' := by
  cases h : fndL ((cutL 32 false S).getD 0 []) 17 0 with
  | none => exact r47_Instr_none S hS w h
  | some op =>
    have hop : op < 17 := by have := (fndL_ok _ _ _ _ h).2; omega
    by_cases q12 : op = 12
    · exact r47_Instr_op S hS w op hop q12 h
    by_cases q14 : op = 14
    · exact r47_Instr_test S hS w op hop q14 h
    by_cases q13 : op = 13
    · exact r47_Instr_cast S hS w op hop q13 h
    by_cases q9 : op = 9
    · exact r47_Instr_v9 S hS w op hop q9 h
    by_cases q10 : op = 10
    · exact r47_Instr_v10 S hS w op hop q10 h
    by_cases q11 : op = 11
    · exact r47_Instr_v11 S hS w op hop q11 h
    exact r47_Instr_plain S hS w op hop ⟨q12, q14, q13, q9, q10, q11⟩ h
end Go.Proofs.YtlglfdhiopnglaaGreatDoor
