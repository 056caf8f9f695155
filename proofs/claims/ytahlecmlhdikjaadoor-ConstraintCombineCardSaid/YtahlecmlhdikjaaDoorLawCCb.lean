/-
  ConstraintCombine: the walk of the law.
-/
import Derived.Test.YtahlecmlhdikjaaDoorCoCr
import Derived.Test.YtahlecmlhdikjaaDoorCoX
import Derived.Test.YtahlecmlhdikjaaDoorGi
import Derived.Test.YtahlecmlhdikjaaDoorGg
namespace Go.Proofs.YtahlecmlhdikjaaDoor.constraintCombine
open Go.ChangeShapes Go.WideShapes Go.ChangeAt Go.RowKit
set_option linter.unusedVariables false
set_option linter.unusedSimpArgs false

set_option maxHeartbeats 8000000 in
set_option maxRecDepth 100000 in
theorem walk (W : World) {v bv : Value} {cs : List Con} {bs : List Int} (w0 : ConsAt W v cs) (wb : IntsAt W bv bs) :
    Calls Tryd.prog 10 #[v, bv] W fun e w' => e = .returned (.bool true) ∧ Up W w' := by
  have HB := Lib.hid wb
  obtain ⟨⟨a, cap, rfl⟩, hmax⟩ := w0.slice
  obtain ⟨n, hn⟩ : ∃ n, cs.length = n := ⟨_, rfl⟩
  rw [hn] at hmax ⊢
  have HV : Hid (ConsAt W (.slice a n cap) cs) := Lib.hid (by rw [← hn]; exact w0)
  obtain ⟨q, hq⟩ : ∃ q, smallC cs 60 = q := ⟨_, rfl⟩
  have HSM : Hid (∀ x, ConsAt x (.slice a n cap) cs → Calls Tryd.prog 13 #[.slice a n cap, .int .i64 60] x fun e w' => e = .returned (.bool q) ∧ Up x w') := Lib.hid fun x hx => by
    rw [← hq]; exact law_Small _ _ 60 _ hx (by omega)
  have HLEN : Hid (q = true → (∀ c ∈ cs, c.2.1.length ≤ 40) ∧ cs.length ≤ 60) := Lib.hid fun h => by
    rw [h] at hq
    unfold smallC smallK at hq
    simp only [Bool.and_eq_true, decide_eq_true_eq, List.all_eq_true] at hq
    exact ⟨fun c hc => (hq.2 c hc).1, hq.1⟩
  have HEX : Hid (∀ x, Calls Tryd.prog 14 #[] x fun e w' => e = .returned (.bool true) ∧ Up x w') := Lib.hid law_examples
  obtain ⟨⟨⟨Kc, lc, ec⟩, er⟩, hr⟩ : ∃ r, combF cs bs = r := ⟨_, rfl⟩
  have HCO : Hid ((∀ c ∈ cs, c.2.1.length ≤ 40) ∧ cs.length ≤ 60 → ∀ x, ConsAt x (.slice a n cap) cs → IntsAt x bv bs → Calls Tryd.prog 29 #[.slice a n cap, bv] x (CmbR x ((Kc, lc, ec), er))) := Lib.hid fun hl x h h' => hr ▸ con_Combine _ _ cs bs x h h' hl.1 hl.2
  have HCR : Hid ((∀ c ∈ cs, c.2.1.length ≤ 40) ∧ cs.length ≤ 60 → ∀ x, ConsAt x (.slice a n cap) cs → IntsAt x bv bs → Calls Tryd.prog 30 #[.slice a n cap, bv] x (CmbR x ((Kc, lc, ec), er))) := Lib.hid fun hl x h h' => hr ▸ r06_Combine _ _ cs bs x h h' hl.1 hl.2
  have HEQ : Hid (∀ x v v', MonosAt x v lc → MonosAt x v' lc → Calls Tryd.prog 17 #[.agg #[.int .i64 Kc, v, .bool ec], .agg #[.int .i64 Kc, v', .bool ec]] x fun e w' => e = .returned (.bool true) ∧ Up x w') := Lib.hid fun x v v' h h' => by
    have := base_Con Kc Kc v v' lc lc ec ec x h h'
    rw [(conEq_iff _ _).2 rfl] at this; exact this
  clear hn hr hq w0 wb
  go_enter Tryd.func10, Tryd.ntmps10
  go_wp2_with fail
  refine (HSM.out _ HV.out).mono ?_
  rintro e x1 ⟨rfl, hx1⟩
  have HU1 := Lib.hid hx1
  clear hx1
  cases q
  · go_wp2_with fail
    refine (HEX.out _).mono ?_
    rintro e x2 ⟨rfl, hx2⟩
    go_wp2
    go_ret
    exact ⟨rfl, HU1.out.trans hx2⟩
  have HL := Lib.hid (HLEN.out rfl)
  go_wp2_with fail
  refine (HCO.out HL.out _ (HV.out.up HU1.out) (HB.out.up HU1.out)).mono ?_
  rintro e x2 ⟨⟨v1, rfl, hv1⟩, hx2⟩
  dsimp only at hv1
  have HU2 := Lib.hid (HU1.out.trans hx2)
  have HV1 := Lib.hid hv1.1
  obtain ⟨va, vcap, rfl⟩ := hv1.1.slice
  obtain ⟨nl, hnl⟩ : ∃ n, lc.length = n := ⟨_, rfl⟩
  rw [hnl] at HV1 ⊢
  clear hx2 HU1 hv1
  go_wp2_with fail
  refine (HCR.out HL.out _ (HV.out.up (HU2.out.alloc _)) (HB.out.up (HU2.out.alloc _))).mono ?_
  rintro e x3 ⟨⟨v2, rfl, hv2⟩, hx3⟩
  dsimp only at hv2
  have b0 : x3.cell? ⟨x2.heap.size, 0, none⟩ = some (.int .i64 Kc) := (hx3.cell _ _ (by rw [size_alloc]; omega)).trans (by go_simp)
  have b1 : x3.cell? ⟨x2.heap.size, 1, none⟩ = some (.slice va nl vcap) := (hx3.cell _ _ (by rw [size_alloc]; omega)).trans (by go_simp)
  have b2 : x3.cell? ⟨x2.heap.size, 2, none⟩ = some (.bool ec) := (hx3.cell _ _ (by rw [size_alloc]; omega)).trans (by go_simp)
  have hs := hx3.size
  rw [size_alloc] at hs
  have HUx := Lib.hid (((Up.refl x2).alloc (.cells #[.int .i64 Kc, .slice va nl vcap, .bool ec] 26)).trans hx3)
  have HU3 := Lib.hid (HU2.out.trans HUx.out)
  have HV3 := Lib.hid (HV1.out.up HUx.out)
  have HV2 := Lib.hid hv2.1
  obtain ⟨vb, vcb, rfl⟩ := hv2.1.slice
  rw [hnl] at HV2 ⊢
  have q0 : x2.heap.size < x3.heap.size := by omega
  clear hx3 HU2 HV1 hv2 hs hnl HUx
  go_wp2_with fail
  refine (HEQ.out _ _ _ (HV3.out.up ((Up.refl x3).alloc _)) (HV2.out.up ((Up.refl x3).alloc _))).mono ?_
  rintro e x4 ⟨rfl, hx4⟩
  have HU4 := Lib.hid ((HU3.out.alloc _).trans hx4)
  clear hx4
  go_wp2_with fail
  refine (HEX.out _).mono ?_
  rintro e x5 ⟨rfl, hx5⟩
  go_wp2
  go_ret
  exact ⟨rfl, HU4.out.trans hx5⟩
end Go.Proofs.YtahlecmlhdikjaaDoor.constraintCombine
