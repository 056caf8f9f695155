/-
  ConstraintTighten: the walk of the law.
-/
import Derived.Test.YtahlecmlhdikjaaDoorGe
import Derived.Test.YtahlecmlhdikjaaDoorCoX
import Derived.Test.YtahlecmlhdikjaaDoorGi
import Derived.Test.YtahlecmlhdikjaaDoorCoRt
namespace Go.Proofs.YtahlecmlhdikjaaDoor.constraintTighten
open Go.ChangeShapes Go.WideShapes Go.ChangeAt Go.RowKit
set_option linter.unusedVariables false
set_option linter.unusedSimpArgs false

set_option maxHeartbeats 4000000 in
set_option maxRecDepth 100000 in
theorem walk (W : World) {v : Value} {c : Con} (w0 : ConArg W v c) :
    Calls Tryd.prog 3 #[v] W fun e w' => e = .returned (.bool true) ∧ Up W w' := by
  obtain ⟨K, l, b⟩ := c
  obtain ⟨lv, rfl, hp, hK⟩ := w0
  dsimp only at hp hK ⊢
  have HP := Lib.hid hp
  obtain ⟨⟨⟨Kc, lc, ec⟩, kc, er⟩, hr⟩ : ∃ r, tightF (K, l, b) = r := ⟨_, rfl⟩
  obtain ⟨q, hq⟩ : ∃ q, smallC [(K, l, b)] 1 = q := ⟨_, rfl⟩
  have HSM : Hid (∀ x n, Up W x → x.heap.size = n → Calls Tryd.prog 13 #[.slice (some ⟨n, 0, none⟩) 1 1, .int .i64 1] (x.alloc (.cells #[.int .i64 K, lv, .bool b] 26)) fun e w' => e = .returned (.bool q) ∧ Up (x.alloc (.cells #[.int .i64 K, lv, .bool b] 26)) w') := Lib.hid fun x n hx hn => by
    subst hn
    rw [← hq]; exact law_Small _ _ 1 _ (cons_one _ (hp.up hx) hK) (by omega)
  have HLEN : Hid (q = true → l.length ≤ 1000) := Lib.hid fun h => by
    rw [h] at hq
    unfold smallC smallK at hq
    simp at hq
    omega
  have HNE : Hid (l.length ≤ 1000 → ∀ x, Part x lv l → Calls Tryd.prog 15 #[.agg #[.int .i64 K, lv, .bool b]] x (TightR x ((Kc, lc, ec), kc, er))) := Lib.hid fun h x hx => hr ▸ con_Tighten K lv l b x hx hK h
  have HRN : Hid (l.length ≤ 1000 → ∀ x, Part x lv l → Calls Tryd.prog 16 #[.agg #[.int .i64 K, lv, .bool b]] x (TightR x ((Kc, lc, ec), kc, er))) := Lib.hid fun h x hx => hr ▸ r06_Tighten K lv l b x hx hK h
  have HEX : Hid (∀ x, Calls Tryd.prog 14 #[] x fun e w' => e = .returned (.bool true) ∧ Up x w') := Lib.hid law_examples
  have HEQ : Hid (∀ x v v', MonosAt x v lc → MonosAt x v' lc → Calls Tryd.prog 17 #[.agg #[.int .i64 Kc, v, .bool ec], .agg #[.int .i64 Kc, v', .bool ec]] x fun e w' => e = .returned (.bool true) ∧ Up x w') := Lib.hid fun x v v' h h' => by
    have := base_Con Kc Kc v v' lc lc ec ec x h h'
    rw [(conEq_iff _ _).2 rfl] at this; exact this
  clear hp hK hr hq
  go_enter Tryd.func3, Tryd.ntmps3
  go_wp2_with fail
  refine (HSM.out (W.alloc (.cells #[.int .i64 K, lv, .bool b] 26)) _ ((Up.refl W).alloc _) (size_alloc W _)).mono ?_
  rintro e x1 ⟨rfl, hx1⟩
  have hs := hx1.size
  rw [size_alloc, size_alloc] at hs
  have a0 : x1.cell? ⟨W.heap.size, 0, none⟩ = some (.int .i64 K) := (hx1.cell _ _ (by rw [size_alloc, size_alloc]; omega)).trans (by go_simp)
  have a1 : x1.cell? ⟨W.heap.size, 1, none⟩ = some lv := (hx1.cell _ _ (by rw [size_alloc, size_alloc]; omega)).trans (by go_simp)
  have a2 : x1.cell? ⟨W.heap.size, 2, none⟩ = some (.bool b) := (hx1.cell _ _ (by rw [size_alloc, size_alloc]; omega)).trans (by go_simp)
  have HU1 := Lib.hid ((((Up.refl W).alloc (.cells #[.int .i64 K, lv, .bool b] 26)).alloc _).trans hx1)
  clear hx1
  have q0 : W.heap.size < x1.heap.size := by omega
  clear hs
  cases q
  · go_wp2_with fail
    refine (HEX.out _).mono ?_
    rintro e x2 ⟨rfl, hx2⟩
    go_wp2
    go_ret
    exact ⟨rfl, HU1.out.trans hx2⟩
  have hl := HLEN.out rfl
  go_wp2_with fail
  refine (HNE.out hl _ (HP.out.up HU1.out)).mono ?_
  rintro e x2 ⟨⟨v1, rfl, hv1, -⟩, hx2⟩
  dsimp only at hv1
  have hsx := Nat.lt_of_lt_of_le q0 hx2.size
  have a0' := (hx2.cell _ _ q0).trans a0
  have a1' := (hx2.cell _ _ q0).trans a1
  have a2' := (hx2.cell _ _ q0).trans a2
  have HU2 := Lib.hid (HU1.out.trans hx2)
  have HV1 := Lib.hid hv1.1
  obtain ⟨va, vcap, rfl⟩ := hv1.1.slice
  obtain ⟨nl, hnl⟩ : ∃ n, lc.length = n := ⟨_, rfl⟩
  rw [hnl] at HV1 ⊢
  clear a0 a1 a2 hx2 HU1 hv1
  go_wp2_with fail
  refine (HRN.out hl _ (HP.out.up (HU2.out.alloc _))).mono ?_
  rintro e x3 ⟨⟨v2, rfl, hv2, -⟩, hx3⟩
  dsimp only at hv2
  have b0 : x3.cell? ⟨x2.heap.size, 0, none⟩ = some (.int .i64 Kc) := (hx3.cell _ _ (by rw [size_alloc]; omega)).trans (by go_simp)
  have b1 : x3.cell? ⟨x2.heap.size, 1, none⟩ = some (.slice va nl vcap) := (hx3.cell _ _ (by rw [size_alloc]; omega)).trans (by go_simp)
  have b2 : x3.cell? ⟨x2.heap.size, 2, none⟩ = some (.bool ec) := (hx3.cell _ _ (by rw [size_alloc]; omega)).trans (by go_simp)
  have hs := hx3.size
  rw [size_alloc] at hs
  have HUx := Lib.hid (((Up.refl x2).alloc (.cells #[.int .i64 Kc, .slice va nl vcap, .bool ec] 26)).trans hx3)
  have HU3 := Lib.hid (HU2.out.trans HUx.out)
  have HV3 := Lib.hid (HV1.out.up HUx.out)
  have HV2 := Lib.hid hv2.1
  obtain ⟨vb, vcb, rfl⟩ := hv2.1.slice
  rw [hnl] at HV2 ⊢
  have q1 : x2.heap.size < x3.heap.size := by omega
  clear hx3 HU2 HV1 hv2 hs hnl HUx a0' a1' a2' hsx
  go_wp2_with fail
  refine (HEQ.out _ _ _ (HV3.out.up ((Up.refl x3).alloc _)) (HV2.out.up ((Up.refl x3).alloc _))).mono ?_
  rintro e x4 ⟨rfl, hx4⟩
  have HU4 := Lib.hid ((HU3.out.alloc _).trans hx4)
  clear hx4
  go_wp2_with fail
  refine (HEX.out _).mono ?_
  rintro e x5 ⟨rfl, hx5⟩
  go_wp2
  go_ret
  exact ⟨rfl, HU4.out.trans hx5⟩
end Go.Proofs.YtahlecmlhdikjaaDoor.constraintTighten
