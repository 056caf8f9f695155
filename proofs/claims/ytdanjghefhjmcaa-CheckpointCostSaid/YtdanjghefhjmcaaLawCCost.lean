/-
  CheckpointCost: the walk of the law.
-/
import Derived.Test.YtdanjghefhjmcaaChEx
import Derived.Test.YtdanjghefhjmcaaChRefCost
namespace Go.Proofs.Ytdanjghefhjmcaa.checkpointCost
open Go.ChangeShapes Go.WideShapes Go.ChangeAt Go.RowKit
set_option linter.unusedVariables false

theorem walk (W : World) {x y : Int} (w0 : (Lit.int .i64 x).wf = true) (w1 : (Lit.int .i64 y).wf = true) :
    Calls Try.prog 3 #[.int .i64 x, .int .i64 y] W fun e w' => e = .returned (.bool true) ∧ Up W w' := by
  clear w0 w1
  by_cases h : 0 ≤ x ∧ x ≤ 64 ∧ 0 ≤ y ∧ y ≤ 64
  · obtain ⟨h1, h2, h3, h4⟩ := h
    obtain ⟨n, rfl⟩ := Int.eq_ofNat_of_zero_le h1
    obtain ⟨s, rfl⟩ := Int.eq_ofNat_of_zero_le h3
    go_enter Try.func3, Try.ntmps3
    go_wp2_with fail
    refine (chk_Cost_ok n s (by omega) (by omega) _).mono ?_
    rintro e x1 ⟨rfl, hx1⟩
    go_wp2_with fail
    refine (r28_Cost_ok n s (by omega) (by omega) _).mono ?_
    rintro e x2 ⟨rfl, hx2⟩
    go_wp2_with fail
    refine (law28_examples _).mono ?_
    rintro e x3 ⟨rfl, hx3⟩
    go_wp2_with fail
    go_ret
    exact ⟨rfl, (hx1.trans hx2).trans hx3⟩
  · have H := Lib.hid h
    clear h
    go_enter Try.func3, Try.ntmps3
    go_wp2_with fail
    refine (chk_Cost_bad x y H.out _).mono ?_
    rintro e x1 ⟨rfl, hx1⟩
    go_wp2_with fail
    refine (r28_Cost_bad x y H.out _).mono ?_
    rintro e x2 ⟨rfl, hx2⟩
    go_wp2_with fail
    refine (law28_examples _).mono ?_
    rintro e x3 ⟨rfl, hx3⟩
    go_wp2_with fail
    go_ret
    exact ⟨rfl, (hx1.trans hx2).trans hx3⟩
end Go.Proofs.Ytdanjghefhjmcaa.checkpointCost
