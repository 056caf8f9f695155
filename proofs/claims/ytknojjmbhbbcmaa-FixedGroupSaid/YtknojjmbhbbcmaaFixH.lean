/-
  Contracts of chapter 3: what the laws call a fraction.
-/
import Derived.Test.YtknojjmbhbbcmaaFixP
namespace Go.Proofs.Ytknojjmbhbbcmaa
open Go.ChangeShapes Go.WideShapes Go.ChangeAt Go.RowKit
set_option linter.unusedVariables false

theorem law03_fraction (n d : Int) (res : Bool) (hr : validF n d = res) (w1 : -9223372036854775808 ≤ n) (w2 : n ≤ 9223372036854775807) (w : World) :
    Calls Try.prog 19 #[.agg #[.int .i64 n, .int .i64 d]] w fun e w' => e = .returned (.bool res) ∧ Up w w' := by
  have HR := Lib.hid hr
  clear hr
  go_enter Try.func19, Try.ntmps19
  go_wp2_with fail
  refine (base_Val_frac _ _ _ _ _ n d res HR.out rfl rfl w1 w2 _).mono ?_
  rintro e x ⟨rfl, hx⟩
  go_wp2
  go_ret
  exact ⟨rfl, Up.trans ((Up.refl w).alloc _) hx⟩
end Go.Proofs.Ytknojjmbhbbcmaa
