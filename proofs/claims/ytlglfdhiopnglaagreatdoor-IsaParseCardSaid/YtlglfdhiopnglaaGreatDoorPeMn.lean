/-
  The reference 47: Mnemonic. Printed by mkPeMn.py.
-/
import Derived.Test.YtlglfdhiopnglaaGreatDoorGi
namespace Go.Proofs.YtlglfdhiopnglaaGreatDoor
open Go.ChangeShapes Go.WideShapes Go.ChangeAt Go.RowKit
set_option linter.unusedVariables false
set_option linter.unusedSimpArgs false
set_option maxRecDepth 100000

set_option maxHeartbeats 8000000 in
theorem r47_Mnemonic (op : Nat) (h : op < 17) (w : World) :
    Calls Tryz.prog 15 #[.int .i64 (op : Int)] w fun e w' => e = .returned (.string (mnS op)) ∧ Up w w' := by
  rcases (by omega : op = 0 ∨ op = 1 ∨ op = 2 ∨ op = 3 ∨ op = 4 ∨ op = 5 ∨ op = 6 ∨ op = 7 ∨ op = 8 ∨ op = 9 ∨ op = 10 ∨ op = 11 ∨ op = 12 ∨ op = 13 ∨ op = 14 ∨ op = 15 ∨ op = 16) with rfl | rfl | rfl | rfl | rfl | rfl | rfl | rfl | rfl | rfl | rfl | rfl | rfl | rfl | rfl | rfl | rfl
  all_goals
    go_enter Tryz.func15, Tryz.ntmps15
    go_wp2
    go_ret
    exact ⟨rfl, (Up.refl w).alloc _⟩
set_option maxHeartbeats 8000000 in
theorem r47_Mnemonic_no (op : Int) (h : knownB op = false) (w : World) :
    Calls Tryz.prog 15 #[.int .i64 op] w fun e w' => e = .returned (.string ⟨#[]⟩) ∧ Up w w' := by
  have hc : op < 0 ∨ 0 ≤ op ∧ 17 ≤ op := by simp [knownB] at h; omega
  clear h
  rcases hc with hc | ⟨hc1, hc2⟩
  all_goals
    go_enter Tryz.func15, Tryz.ntmps15
    go_wp2
    go_ret
    exact ⟨rfl, (Up.refl w).alloc _⟩
end Go.Proofs.YtlglfdhiopnglaaGreatDoor

