/-
  PeepholeUnreachable: the walk of the law.
-/
import Derived.Test.YtbpojmhgifgfdaaDoorPeEx
import Derived.Test.YtbpojmhgifgfdaaDoorPeOi
namespace Go.Proofs.YtbpojmhgifgfdaaDoor.peepholeUnreachable
open Go.ChangeShapes Go.WideShapes Go.ChangeAt Go.RowKit
set_option linter.unusedVariables false
set_option linter.unusedSimpArgs false
set_option maxRecDepth 100000

set_option maxHeartbeats 8000000 in
theorem walk (W : World) {v : Value} {l : List Ins} (w0 : InsAt W v l) (hT : ITab W) :
    Calls Tryd.prog 3 #[v] W fun e w' => e = .returned (.bool true) ∧ Up W w' := by
  have HV := Lib.hid w0
  have HT := Lib.hid hT
  obtain ⟨⟨a, cap, rfl⟩, hmax⟩ := w0.slice
  obtain ⟨n, hn⟩ : ∃ n, l.length = n := ⟨_, rfl⟩
  rw [hn] at HV hmax ⊢
  have HN := Lib.hid hn
  clear hn w0 hT
  by_cases h1 : 1000 < n
  · have h1I : (1000 : Int) < n := by omega
    go_enter Tryd.func3, Tryd.ntmps3
    go_wp2_with (go_at_call 8; refine (law_examples _ (HT.out.up (Up.refl _))).mono ?_; rintro e ze ⟨rfl, hze⟩)
    go_ret
    exact ⟨rfl, hze⟩
  · have h1I : ¬ (1000 : Int) < n := by omega
    have HLN : Hid (l.length ≤ 100000) := Lib.hid (by rw [HN.out]; omega)
    go_enter Tryd.func3, Tryd.ntmps3
    go_wp2_with (first
      | (go_at_call 10; refine (pe_Unreachable _ l _ HV.out HLN.out).mono ?_; rintro e z ⟨v1, rfl, hz, hv1⟩; have HU := Lib.hid hz; have H1 := Lib.hid hv1; clear hz hv1)
      | (go_at_call 11; refine (r50_Unreachable _ l _ (HV.out.up HU.out) HLN.out).mono ?_; rintro e z2 ⟨v2, rfl, hz2, hv2⟩; replace H1 := Lib.hid (H1.out.up hz2); replace HU := Lib.hid (HU.out.trans hz2); have H2 := Lib.hid hv2; clear hz2 hv2)
      | (go_at_call 9; refine (base_Ints _ _ _ _ _ H1.out H2.out).mono ?_; rintro e z3 ⟨rfl, hz3⟩; rw [show decide (unreachF l = unreachF l) = true from decide_eq_true rfl]; replace HU := Lib.hid (HU.out.trans hz3); clear hz3)
      | (go_at_call 8; refine (law_examples _ (HT.out.up HU.out)).mono ?_; rintro e ze ⟨rfl, hze⟩))
    go_ret
    exact ⟨rfl, HU.out.trans hze⟩
end Go.Proofs.YtbpojmhgifgfdaaDoor.peepholeUnreachable
