/-
  The reference 47: Mnemonic, operands. Printed by mkPeL.py.
-/
import Derived.Test.YtbpojmhgifgfdaaDoorPeF
namespace Go.Proofs.YtbpojmhgifgfdaaDoor
open Go.ChangeShapes Go.WideShapes Go.ChangeAt Go.RowKit
set_option linter.unusedVariables false
set_option linter.unusedSimpArgs false
set_option maxRecDepth 100000

def mnS : Nat → ByteArray
  | 0 => ⟨#[104, 97, 108, 116]⟩
  | 1 => ⟨#[105, 110, 116]⟩
  | 2 => ⟨#[109, 111, 118, 101]⟩
  | 3 => ⟨#[97, 100, 100]⟩
  | 4 => ⟨#[109, 117, 108]⟩
  | 5 => ⟨#[109, 105, 110]⟩
  | 6 => ⟨#[109, 97, 120]⟩
  | 7 => ⟨#[106, 117, 109, 112]⟩
  | 8 => ⟨#[106, 108, 116]⟩
  | 9 => ⟨#[99, 111, 110, 115, 116]⟩
  | 10 => ⟨#[108, 111, 97, 100]⟩
  | 11 => ⟨#[115, 116, 111, 114, 101]⟩
  | 12 => ⟨#[111, 112]⟩
  | 13 => ⟨#[99, 97, 115, 116]⟩
  | 14 => ⟨#[116, 101, 115, 116]⟩
  | 15 => ⟨#[116, 111, 105, 110, 116]⟩
  | 16 => ⟨#[102, 114, 111, 109, 105, 110, 116]⟩
  | _ => ⟨#[]⟩
def kdS : Nat → ByteArray
  | 0 => ⟨#[45, 45, 45]⟩
  | 1 => ⟨#[120, 110, 45]⟩
  | 2 => ⟨#[120, 120, 45]⟩
  | 3 => ⟨#[120, 120, 120]⟩
  | 4 => ⟨#[120, 120, 110]⟩
  | 5 => ⟨#[120, 120, 120]⟩
  | 6 => ⟨#[120, 120, 120]⟩
  | 7 => ⟨#[116, 45, 45]⟩
  | 8 => ⟨#[116, 120, 120]⟩
  | 9 => ⟨#[114, 45, 45]⟩
  | 10 => ⟨#[114, 120, 99]⟩
  | 11 => ⟨#[114, 120, 99]⟩
  | 12 => ⟨#[114, 114, 114]⟩
  | 13 => ⟨#[114, 114, 45]⟩
  | 14 => ⟨#[116, 114, 114]⟩
  | 15 => ⟨#[120, 114, 109]⟩
  | 16 => ⟨#[114, 120, 45]⟩
  | _ => ⟨#[]⟩

set_option maxHeartbeats 8000000 in
theorem r47_operands (op : Nat) (h : op < 17) (w : World) :
    Calls Tryd.prog 48 #[.int .i64 (op : Int)] w fun e w' => e = .returned (.string (kdS op)) ∧ Up w w' := by
  rcases (by omega : op = 0 ∨ op = 1 ∨ op = 2 ∨ op = 3 ∨ op = 4 ∨ op = 5 ∨ op = 6 ∨ op = 7 ∨ op = 8 ∨ op = 9 ∨ op = 10 ∨ op = 11 ∨ op = 12 ∨ op = 13 ∨ op = 14 ∨ op = 15 ∨ op = 16) with rfl | rfl | rfl | rfl | rfl | rfl | rfl | rfl | rfl | rfl | rfl | rfl | rfl | rfl | rfl | rfl | rfl
  all_goals
    go_enter Tryd.func48, Tryd.ntmps48
    go_wp2
    go_ret
    exact ⟨rfl, (Up.refl w).alloc _⟩

end Go.Proofs.YtbpojmhgifgfdaaDoor
