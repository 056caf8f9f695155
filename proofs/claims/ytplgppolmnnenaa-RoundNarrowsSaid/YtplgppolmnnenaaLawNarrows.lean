/-
  RoundNarrows: the walk of the law.
-/
import Derived.Test.YtplgppolmnnenaaNarrowB
namespace Go.Proofs.Ytplgppolmnnenaa.roundNarrows
open Go.ChangeShapes Go.WideShapes Go.ChangeAt Go.RowKit
set_option linter.unusedVariables false

theorem walk (W : World) {n b o : Int} (w0 : (Lit.int .i64 n).wf = true) (w1 : (Lit.int .i64 b).wf = true) (w2 : (Lit.int .i64 o).wf = true) :
    Calls Try.prog 3 #[.int .i64 n, .int .i64 b, .int .i64 o] W fun e w' => e = .returned (.bool true) ∧ Up W w' := by
  have b0 := bounds_i64 w0
  clear w0 w1 w2
  have hU := Up.refl W
  obtain ⟨x, hx⟩ : ∃ x, minW b = x := ⟨_, rfl⟩
  obtain ⟨y, hy⟩ : ∃ x, maxW b = x := ⟨_, rfl⟩
  have HX := Lib.hid hx
  have HY := Lib.hid hy
  clear hx hy
  go_enter Try.func3, Try.ntmps3
  go_wp2_with (first | (go_at_call 10; refine (round_MinInt' _ _ HX.out _).mono ?_; rintro e x ⟨rfl, hx⟩; replace hU := hU.trans hx) | (go_at_call 11; refine (ref02_MinInt' _ _ HX.out _).mono ?_; rintro e x ⟨rfl, hx⟩; replace hU := hU.trans hx) | (go_at_call 12; refine (round_MaxInt' _ _ HY.out _).mono ?_; rintro e x ⟨rfl, hx⟩; replace hU := hU.trans hx) | (go_at_call 13; refine (ref02_MaxInt' _ _ HY.out _).mono ?_; rintro e x ⟨rfl, hx⟩; replace hU := hU.trans hx) | (go_at_call 8; refine (round_Narrow _ _ _ (by omega) (by omega) _).mono ?_; rintro e x ⟨rfl, hx⟩; replace hU := hU.trans hx) | (go_at_call 9; refine (ref02_Narrow _ _ _ (by omega) (by omega) _).mono ?_; rintro e x ⟨rfl, hx⟩; replace hU := hU.trans hx))
  go_ret
  exact ⟨rfl, hU⟩
end Go.Proofs.Ytplgppolmnnenaa.roundNarrows
