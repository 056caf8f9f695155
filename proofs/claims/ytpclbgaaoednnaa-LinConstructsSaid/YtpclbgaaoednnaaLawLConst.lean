/-
  LinConstructs: the walk of the law.
-/
import Derived.Test.YtpclbgaaoednnaaLin3
namespace Go.Proofs.Ytpclbgaaoednnaa.linConstructs
open Go.ChangeShapes Go.WideShapes Go.ChangeAt Go.RowKit
set_option linter.unusedVariables false

theorem eqForm_self (K : Int) (l : List Mono) : eqForm K K l l = true := by simp [eqForm, eqM]

theorem walk (W : World) {K : Int} {s : ByteArray} (w0 : (Lit.int .i64 K).wf = true) (w1 : s.size ≤ maxLen) :
    Calls Try.prog 3 #[.int .i64 K, .string s] W fun e w' => e = .returned (.bool true) ∧ Up W w' := by
  go_enter Try.func3, Try.ntmps3
  go_wp2_with fail
  refine (lin_Const _ _).mono ?_
  rintro e x1 ⟨rfl, hx1⟩
  have HU := Lib.hid hx1
  clear hx1
  go_wp2_with fail
  refine (r05_Const _ _).mono ?_
  rintro e x2 ⟨rfl, hx2⟩
  replace HU := Lib.hid (HU.out.trans hx2)
  clear hx2
  go_wp2_with fail
  refine (lin_Same _ _ _ _ [] [] _ (monos_nil _) (monos_nil _)).mono ?_
  rintro e x3 ⟨rfl, hx3⟩
  rw [eqForm_self]
  replace HU := Lib.hid (HU.out.trans hx3)
  clear hx3
  go_wp2_with fail
  refine (lin_Const _ _).mono ?_
  rintro e x4 ⟨rfl, hx4⟩
  replace HU := Lib.hid (HU.out.trans hx4)
  clear hx4
  go_wp2_with fail
  refine (r05_Const _ _).mono ?_
  rintro e x5 ⟨rfl, hx5⟩
  replace HU := Lib.hid (HU.out.trans hx5)
  clear hx5
  go_wp2_with fail
  refine (base_Lin _ _ _ _ [] [] _ (monos_nil _) (monos_nil _)).mono ?_
  rintro e x6 ⟨rfl, hx6⟩
  rw [eqForm_self]
  replace HU := Lib.hid (HU.out.trans hx6)
  clear hx6
  go_wp2_with fail
  refine (lin_Var _ _).mono ?_
  rintro e x7 ⟨v, rfl, hv, hx7⟩
  replace HU := Lib.hid (HU.out.trans hx7)
  have HV := Lib.hid hv
  clear hx7 hv
  go_wp2_with fail
  refine (r05_Var _ _).mono ?_
  rintro e x8 ⟨v', rfl, hv', hx8⟩
  replace HU := Lib.hid (HU.out.trans hx8)
  have HV2 := Lib.hid (HV.out.up hx8)
  have HV' := Lib.hid hv'
  clear hx8 hv'
  go_wp2_with fail
  refine (base_Lin _ _ _ _ _ _ _ HV2.out HV'.out).mono ?_
  rintro e x9 ⟨rfl, hx9⟩
  rw [eqForm_self]
  replace HU := Lib.hid (HU.out.trans hx9)
  clear hx9
  go_wp2
  go_ret
  exact ⟨rfl, HU.out⟩
end Go.Proofs.Ytpclbgaaoednnaa.linConstructs
