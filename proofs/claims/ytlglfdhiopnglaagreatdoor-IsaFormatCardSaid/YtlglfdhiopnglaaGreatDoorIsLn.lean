/-
  The reference 47 as text: operator, operand.
-/
import Derived.Test.YtlglfdhiopnglaaGreatDoorIsDg
import Derived.Test.YtlglfdhiopnglaaGreatDoorGh
import Derived.Test.YtlglfdhiopnglaaGreatDoorPeMn
namespace Go.Proofs.YtlglfdhiopnglaaGreatDoor
open Go.ChangeShapes Go.WideShapes Go.ChangeAt Go.RowKit
set_option linter.unusedVariables false
set_option linter.unusedSimpArgs false
set_option maxRecDepth 100000

set_option maxHeartbeats 8000000 in
theorem r47_operator (n : Int) (h : (4 ≤ n ∧ n ≤ 10) ∨ (13 ≤ n ∧ n ≤ 15)) (w : World) :
    Calls Tryz.prog 57 #[.int .i64 n] w fun e w' => e = .returned (.string (bst (opnL n))) ∧ Up w w' := by
  rcases (by omega : n = 4 ∨ n = 5 ∨ n = 6 ∨ n = 7 ∨ n = 8 ∨ n = 9 ∨ n = 10 ∨ n = 13 ∨ n = 14 ∨ n = 15) with rfl | rfl | rfl | rfl | rfl | rfl | rfl | rfl | rfl | rfl
  all_goals
    clear h
    go_enter Tryz.func57, Tryz.ntmps57
    go_wp2
    go_ret
    exact ⟨rfl, (Up.refl w).alloc _⟩

/-- The text of a field, with a leading space. -/
def ofdL (kind n : Int) : List UInt8 := if kind = 45 then [] else 32 :: fldT kind n
set_option maxHeartbeats 4000000 in
theorem r47_operand (kind n : Int) (hn : R64 n) (w : World) :
    Calls Tryz.prog 58 #[.int .u8 kind, .int .i64 n] w fun e w' => e = .returned (.string (bst (ofdL kind n))) ∧ Up w w' := by
  obtain ⟨T, hT⟩ : ∃ T, ofdL kind n = T := ⟨_, rfl⟩
  rw [hT]
  have hl := itoa_len hn
  have HD := Lib.hid (fun w => r01_Digits n hn w)
  unfold ofdL fldT at hT
  generalize Lib.itoa n = d at *
  have c1 := cat (A := ⟨#[32, 120]⟩) (a := [32, 120]) (B := bst d) (b := d) (c := 32 :: 120 :: d) rfl rfl rfl (by decide) (by omega)
  have c2 := cat (A := ⟨#[32, 114]⟩) (a := [32, 114]) (B := bst d) (b := d) (c := 32 :: 114 :: d) rfl rfl rfl (by decide) (by omega)
  have c3 := cat (A := ⟨#[32]⟩) (a := [32]) (B := bst d) (b := d) (c := 32 :: d) rfl rfl rfl (by decide) (by omega)
  clear hl hn
  by_cases h1 : kind = 45
  · subst h1
    have HE : Hid (T = []) := Lib.hid (by rw [← hT, if_pos rfl])
    clear hT
    go_enter Tryz.func58, Tryz.ntmps58
    go_wp2
    go_ret
    exact ⟨ret_str (by rw [HE.out]; rfl), Up.refl _⟩
  have h1b : (kind == 45) = false := by simpa using h1
  by_cases h2 : kind = 120
  · subst h2
    have HE : Hid (T = 32 :: 120 :: d) := Lib.hid (by rw [← hT, if_neg (by decide), if_pos rfl])
    clear hT h1
    go_enter Tryz.func58, Tryz.ntmps58
    go_wp2_with (go_at_call 60; refine (HD.out _).mono ?_; rintro e x ⟨rfl, hx⟩)
    go_ret
    exact ⟨ret_str (by rw [HE.out]), hx⟩
  have h2b : (kind == 120) = false := by simpa using h2
  by_cases h3 : kind = 114
  · subst h3
    have HE : Hid (T = 32 :: 114 :: d) := Lib.hid (by rw [← hT, if_neg (by decide), if_neg (by decide), if_pos rfl])
    clear hT h1 h2
    go_enter Tryz.func58, Tryz.ntmps58
    go_wp2_with (go_at_call 60; refine (HD.out _).mono ?_; rintro e x ⟨rfl, hx⟩)
    go_ret
    exact ⟨ret_str (by rw [HE.out]), hx⟩
  have h3b : (kind == 114) = false := by simpa using h3
  have HE : Hid (T = 32 :: d) := Lib.hid (by rw [← hT, if_neg h1, if_neg h2, if_neg h3])
  clear hT h1 h2 h3
  go_enter Tryz.func58, Tryz.ntmps58
  go_wp2_with (go_at_call 60; refine (HD.out _).mono ?_; rintro e x ⟨rfl, hx⟩)
  go_ret
  exact ⟨ret_str (by rw [HE.out]), hx⟩
end Go.Proofs.YtlglfdhiopnglaaGreatDoor
