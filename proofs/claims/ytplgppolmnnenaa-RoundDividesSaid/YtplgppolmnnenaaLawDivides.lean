/-
  RoundDivides: the walk of the law.
-/
import Derived.Test.YtplgppolmnnenaaRef02
namespace Go.Proofs.Ytplgppolmnnenaa.roundDivides
open Go.ChangeShapes Go.WideShapes Go.ChangeAt Go.RowKit

theorem walk (W : World) {n d how : Int} (w0 : (Lit.int .i64 n).wf = true) (w1 : (Lit.int .i64 d).wf = true) (w2 : (Lit.int .i64 how).wf = true) :
    Calls Try.prog 4 #[.int .i64 n, .int .i64 d, .int .i64 how] W fun e w' => e = .returned (.bool true) ∧ Up W w' := by
  have b0 := bounds_i64 w0
  have b1 := bounds_i64 w1
  have b2 := bounds_i64 w2
  clear w0 w1 w2
  have hU := Up.refl W
  go_enter Try.func4, Try.ntmps4
  go_wp2_with (first | (go_at_call 14; refine (round_Divide _ _ _ (by omega) (by omega) (by omega) (by omega) _).mono ?_; rintro e x ⟨rfl, hx⟩; replace hU := hU.trans hx) | (go_at_call 15; refine (ref02_Divide _ _ _ (by omega) (by omega) (by omega) (by omega) _).mono ?_; rintro e x ⟨rfl, hx⟩; replace hU := hU.trans hx))
  go_ret
  exact ⟨rfl, hU⟩
end Go.Proofs.Ytplgppolmnnenaa.roundDivides
