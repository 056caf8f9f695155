/-
  ConstraintNormalize: the walk of the law.
-/
import Derived.Test.YtahlecmlhdikjaaDoorCoRm
import Derived.Test.YtahlecmlhdikjaaDoorCoX
import Derived.Test.YtahlecmlhdikjaaDoorGi
namespace Go.Proofs.YtahlecmlhdikjaaDoor.constraintNormalize
open Go.ChangeShapes Go.WideShapes Go.ChangeAt Go.RowKit
set_option linter.unusedVariables false
set_option linter.unusedSimpArgs false

set_option maxHeartbeats 8000000 in
set_option maxRecDepth 100000 in
theorem walk (W : World) {v : Value} {cs : List Con} (w0 : ConsAt W v cs) :
    Calls Tryd.prog 7 #[v] W fun e w' => e = .returned (.bool true) ∧ Up W w' := by
  obtain ⟨⟨a, cap, rfl⟩, hmax⟩ := w0.slice
  obtain ⟨n, hn⟩ : ∃ n, cs.length = n := ⟨_, rfl⟩
  rw [hn] at hmax ⊢
  have HV : Hid (ConsAt W (.slice a n cap) cs) := Lib.hid (by rw [← hn]; exact w0)
  obtain ⟨q, hq⟩ : ∃ q, smallC cs 300 = q := ⟨_, rfl⟩
  have HSM : Hid (∀ x, ConsAt x (.slice a n cap) cs → Calls Tryd.prog 13 #[.slice a n cap, .int .i64 300] x fun e w' => e = .returned (.bool q) ∧ Up x w') := Lib.hid fun x hx => by
    rw [← hq]; exact law_Small _ _ 300 _ hx (by omega)
  have HLEN : Hid (q = true → (∀ c ∈ cs, c.2.1.length ≤ 1000) ∧ cs.length ≤ 300) := Lib.hid fun h => by
    rw [h] at hq
    unfold smallC smallK at hq
    simp only [Bool.and_eq_true, decide_eq_true_eq, List.all_eq_true] at hq
    exact ⟨fun c hc => Nat.le_trans (hq.2 c hc).1 (by omega), hq.1⟩
  have HEX : Hid (∀ x, Calls Tryd.prog 14 #[] x fun e w' => e = .returned (.bool true) ∧ Up x w') := Lib.hid law_examples
  obtain ⟨⟨nl, ok, er⟩, hr⟩ : ∃ r, normF cs = r := ⟨_, rfl⟩
  have HNO : Hid ((∀ c ∈ cs, c.2.1.length ≤ 1000) ∧ cs.length ≤ 300 → ∀ x, ConsAt x (.slice a n cap) cs → Calls Tryd.prog 23 #[.slice a n cap] x (NormR x (nl, ok, er))) := Lib.hid fun hl x h => hr ▸ con_Normalize _ cs x h hl.2 hl.1
  have HRN : Hid ((∀ c ∈ cs, c.2.1.length ≤ 1000) ∧ cs.length ≤ 300 → ∀ x, ConsAt x (.slice a n cap) cs → Calls Tryd.prog 24 #[.slice a n cap] x (NormR x (nl, ok, er))) := Lib.hid fun hl x h => hr ▸ r06_Normalize _ cs x h hl.2 hl.1
  have HCO : Hid (∀ x v v', ConsAt x v nl → ConsAt x v' nl → Calls Tryd.prog 22 #[v, v'] x fun e w' => e = .returned (.bool true) ∧ Up x w') := Lib.hid fun x v v' h h' => (by unfold consEq; exact decide_eq_true rfl : consEq nl nl = true) ▸ base_Cons v v' nl nl x h h'
  clear hn hr hq w0
  go_enter Tryd.func7, Tryd.ntmps7
  go_wp2_with fail
  refine (HSM.out _ HV.out).mono ?_
  rintro e x1 ⟨rfl, hx1⟩
  have HU1 := Lib.hid hx1
  clear hx1
  cases q
  · go_wp2_with fail
    refine (HEX.out _).mono ?_
    rintro e x2 ⟨rfl, hx2⟩
    go_wp2
    go_ret
    exact ⟨rfl, HU1.out.trans hx2⟩
  have HL := Lib.hid (HLEN.out rfl)
  go_wp2_with fail
  refine (HNO.out HL.out _ (HV.out.up HU1.out)).mono ?_
  rintro e x2 ⟨⟨v1, rfl, hv1⟩, hx2⟩
  dsimp only at hv1
  have HU2 := Lib.hid (HU1.out.trans hx2)
  have HV1 := Lib.hid hv1
  obtain ⟨⟨va, vcap, rfl⟩, hm1⟩ := hv1.slice
  obtain ⟨m, hm⟩ : ∃ m, nl.length = m := ⟨_, rfl⟩
  rw [hm] at HV1 ⊢
  clear hx2 HU1 hv1 hm1
  go_wp2_with fail
  refine (HRN.out HL.out _ (HV.out.up HU2.out)).mono ?_
  rintro e x3 ⟨⟨v2, rfl, hv2⟩, hx3⟩
  dsimp only at hv2
  have HU3 := Lib.hid (HU2.out.trans hx3)
  have HV3 := Lib.hid (HV1.out.up hx3)
  have HV2 := Lib.hid hv2
  obtain ⟨⟨vb, vcb, rfl⟩, hm2⟩ := hv2.slice
  rw [hm] at HV2 ⊢
  clear hx3 HU2 HV1 hv2 hm2 hm
  cases ok
  all_goals
    go_wp2_with fail
    refine (HCO.out _ _ _ HV3.out HV2.out).mono ?_
    rintro e x6 ⟨rfl, hx6⟩
    go_wp2_with fail
    refine (HEX.out _).mono ?_
    rintro e x5 ⟨rfl, hx5⟩
    go_wp2
    go_ret
    exact ⟨rfl, (HU3.out.trans hx6).trans hx5⟩
end Go.Proofs.YtahlecmlhdikjaaDoor.constraintNormalize
