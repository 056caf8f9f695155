/-
  LinSubstEvals: the walk of the law.
-/
import Derived.Test.YtpclbgaaoednnaaLinSw
namespace Go.Proofs.Ytpclbgaaoednnaa.linSubstEvals
open Go.ChangeShapes Go.WideShapes Go.ChangeAt Go.RowKit
open Go.Proofs.Ytpclbgaaoednnaa.linSumEvals (eqForm_self eval_ok near_parts nearE_parts near64 Small Small.evalB)
set_option linter.unusedVariables false
set_option linter.unusedSimpArgs false

def Stopped (p : Prop) : Prop := p
theorem stop {p : Prop} (h : Stopped p) : p := h
theorem lt_alloc (w : World) (o : Obj) : w.heap.size < (w.alloc o).heap.size := by rw [size_alloc]; omega

set_option maxHeartbeats 8000000 in
set_option maxRecDepth 100000 in
theorem walk (W : World) {v v' ev : Value} {x x' : Int × List Mono} {env : List Mono} (w0 : LinArg W v x.1 x.2) (w1 : LinArg W v' x'.1 x'.2) (w2 : MonosArg W ev env) :
    Calls Try.prog 10 #[v, v', ev] W fun e w' => e = .returned (.bool true) ∧ Up W w' := by
  obtain ⟨K, l⟩ := x
  obtain ⟨K', l'⟩ := x'
  obtain ⟨lv, rfl, ⟨hm, hrg, hsz, hcp⟩, hK⟩ := w0
  obtain ⟨lv', rfl, ⟨hm', hrg', hsz', hcp'⟩, hK'⟩ := w1
  obtain ⟨hme, hrge, hsze, hcpe⟩ := w2
  dsimp only at hm hm' hK hK'
  have HA := Lib.hid hm
  have HB := Lib.hid hm'
  have HE := Lib.hid hme
  have HCA := Lib.hid hcp
  have HCB := Lib.hid hcp'
  obtain ⟨qa, hqa⟩ : ∃ q, nearL K l = q := ⟨_, rfl⟩
  obtain ⟨qb, hqb⟩ : ∃ q, nearL K' l' = q := ⟨_, rfl⟩
  obtain ⟨qe, hqe⟩ : ∃ q, nearE env = q := ⟨_, rfl⟩
  obtain ⟨oa, hoa⟩ : ∃ q, okL l = q := ⟨_, rfl⟩
  obtain ⟨ob, hob⟩ : ∃ q, okL l' = q := ⟨_, rfl⟩
  have HNA : Hid (∀ w v, MonosAt w v l → Calls Try.prog 28 #[.agg #[.int .i64 K, v]] w fun e w' => e = .returned (.bool qa) ∧ Up w w') := Lib.hid fun w v h => by
    have := law05_nearLin K v l w h
    rw [hqa] at this; exact this
  have HNB : Hid (∀ w v, MonosAt w v l' → Calls Try.prog 28 #[.agg #[.int .i64 K', v]] w fun e w' => e = .returned (.bool qb) ∧ Up w w') := Lib.hid fun w v h => by
    have := law05_nearLin K' v l' w h
    rw [hqb] at this; exact this
  have HNE : Hid (∀ w v, MonosAt w v env → Calls Try.prog 29 #[v] w fun e w' => e = .returned (.bool qe) ∧ Up w w') := Lib.hid fun w v h => by
    have := law05_nearEnv v env w h
    rw [hqe] at this; exact this
  have HOA : Hid (∀ w v, MonosAt w v l → Calls Try.prog 30 #[.agg #[.int .i64 K, v]] w fun e w' => e = .returned (.int .i64 (errOf oa)) ∧ Up w w') := Lib.hid fun w v h => by
    have := r05_Validate K v l w h
    rw [hoa] at this; exact this
  have HOB : Hid (∀ w v, MonosAt w v l' → Calls Try.prog 30 #[.agg #[.int .i64 K', v]] w fun e w' => e = .returned (.int .i64 (errOf ob)) ∧ Up w w') := Lib.hid fun w v h => by
    have := r05_Validate K' v l' w h
    rw [hob] at this; exact this
  have HALL : Hid (qa = true → qb = true → qe = true → oa = true → ob = true → Small K K' l l' env) := Lib.hid fun h1 h2 h3 h4 h5 => by
    rw [h1] at hqa; rw [h2] at hqb; rw [h3] at hqe; rw [h4] at hoa; rw [h5] at hob
    obtain ⟨a1, a2, a3⟩ := near_parts hqa
    obtain ⟨b1, b2, b3⟩ := near_parts hqb
    obtain ⟨c1, c2⟩ := nearE_parts hqe
    exact ⟨a2, b2, a3, b3, a1, b1, hoa, hob, c2⟩
  obtain ⟨a, cap, rfl⟩ := hm.slice
  obtain ⟨a', cap', rfl⟩ := hm'.slice
  obtain ⟨ae, cape, rfl⟩ := hme.slice
  obtain ⟨n, hn⟩ : ∃ n, l.length = n := ⟨_, rfl⟩
  obtain ⟨n', hn'⟩ : ∃ n, l'.length = n := ⟨_, rfl⟩
  obtain ⟨ne, hne⟩ : ∃ n, env.length = n := ⟨_, rfl⟩
  rw [hn] at HA HCA ⊢
  rw [hn'] at HB HCB ⊢
  rw [hne] at HE ⊢
  have HU := Lib.hid (Up.refl W)
  have HNL := Lib.hid hn
  have HNE2 := Lib.hid hne
  have hmaxe := hme.max
  rw [hne] at hmaxe
  have HQE : Hid (qe = true → ne ≤ 40) := Lib.hid (fun h => by rw [h] at hqe; have := (nearE_parts hqe).1; omega)
  clear hm hrg hsz hcp hK hm' hrg' hsz' hcp' hK' hme hrge hsze hcpe hqa hqb hqe hoa hob hn hn' hne
  go_enter Try.func10, Try.ntmps10
  go_wp2_with fail
  refine (HNA.out _ _ (HA.out.up (((Up.refl W).alloc _).alloc _))).mono ?_
  rintro e x1 ⟨rfl, hx1⟩
  have hs1 := hx1.size
  rw [size_alloc, size_alloc] at hs1
  have c1_0_0 : x1.cell? ⟨W.heap.size, 0, none⟩ = some (.int .i64 K) := (hx1.cell _ _ (by first | omega | (rw [size_alloc]; omega) | (rw [size_alloc, size_alloc]; omega) | (rw [size_alloc, size_alloc, size_alloc]; omega))).trans (by go_simp)
  have c1_0_1 : x1.cell? ⟨W.heap.size, 1, none⟩ = some (.slice a n cap) := (hx1.cell _ _ (by first | omega | (rw [size_alloc]; omega) | (rw [size_alloc, size_alloc]; omega) | (rw [size_alloc, size_alloc, size_alloc]; omega))).trans (by go_simp)
  have c1_0_q : W.heap.size < x1.heap.size := by omega
  have c1_1_0 : x1.cell? ⟨W.heap.size + 1, 0, none⟩ = some (.int .i64 K') := (hx1.cell _ _ (by first | omega | (rw [size_alloc]; omega) | (rw [size_alloc, size_alloc]; omega) | (rw [size_alloc, size_alloc, size_alloc]; omega))).trans (by go_simp)
  have c1_1_1 : x1.cell? ⟨W.heap.size + 1, 1, none⟩ = some (.slice a' n' cap') := (hx1.cell _ _ (by first | omega | (rw [size_alloc]; omega) | (rw [size_alloc, size_alloc]; omega) | (rw [size_alloc, size_alloc, size_alloc]; omega))).trans (by go_simp)
  have c1_1_q : W.heap.size + 1 < x1.heap.size := by omega
  replace HU := Lib.hid (((HU.out.alloc _).alloc _).trans hx1)
  replace HA := Lib.hid ((HA.out.up (((Up.refl W).alloc _).alloc _)).up hx1)
  replace HB := Lib.hid ((HB.out.up (((Up.refl W).alloc _).alloc _)).up hx1)
  replace HE := Lib.hid ((HE.out.up (((Up.refl W).alloc _).alloc _)).up hx1)
  clear hx1
  cases qa
  · go_wp2_with fail
    refine (law05_alive _).mono ?_
    rintro e z ⟨rfl, hz⟩
    go_wp2
    go_ret
    exact ⟨rfl, Up.trans (by repeat (first | exact HU.out | refine Up.alloc ?_ _)) hz⟩
  go_wp2_with fail
  refine (HNB.out _ _ (HB.out.up (Up.refl _))).mono ?_
  rintro e x2 ⟨rfl, hx2⟩
  have hs2 := hx2.size
  have c2_0_0 : x2.cell? ⟨W.heap.size, 0, none⟩ = some (.int .i64 K) := (hx2.cell _ _ (by first | omega | (rw [size_alloc]; omega) | (rw [size_alloc, size_alloc]; omega) | (rw [size_alloc, size_alloc, size_alloc]; omega))).trans (by go_simp)
  have c2_0_1 : x2.cell? ⟨W.heap.size, 1, none⟩ = some (.slice a n cap) := (hx2.cell _ _ (by first | omega | (rw [size_alloc]; omega) | (rw [size_alloc, size_alloc]; omega) | (rw [size_alloc, size_alloc, size_alloc]; omega))).trans (by go_simp)
  have c2_0_q : W.heap.size < x2.heap.size := by omega
  have c2_1_0 : x2.cell? ⟨W.heap.size + 1, 0, none⟩ = some (.int .i64 K') := (hx2.cell _ _ (by first | omega | (rw [size_alloc]; omega) | (rw [size_alloc, size_alloc]; omega) | (rw [size_alloc, size_alloc, size_alloc]; omega))).trans (by go_simp)
  have c2_1_1 : x2.cell? ⟨W.heap.size + 1, 1, none⟩ = some (.slice a' n' cap') := (hx2.cell _ _ (by first | omega | (rw [size_alloc]; omega) | (rw [size_alloc, size_alloc]; omega) | (rw [size_alloc, size_alloc, size_alloc]; omega))).trans (by go_simp)
  have c2_1_q : W.heap.size + 1 < x2.heap.size := by omega
  replace HU := Lib.hid ((HU.out).trans hx2)
  replace HA := Lib.hid ((HA.out.up (Up.refl _)).up hx2)
  replace HB := Lib.hid ((HB.out.up (Up.refl _)).up hx2)
  replace HE := Lib.hid ((HE.out.up (Up.refl _)).up hx2)
  clear c1_0_0 c1_0_1 c1_0_q c1_1_0 c1_1_1 c1_1_q
  clear hx2
  cases qb
  · go_wp2_with fail
    refine (law05_alive _).mono ?_
    rintro e z ⟨rfl, hz⟩
    go_wp2
    go_ret
    exact ⟨rfl, Up.trans (by repeat (first | exact HU.out | refine Up.alloc ?_ _)) hz⟩
  go_wp2_with fail
  refine (HNE.out _ _ (HE.out.up (Up.refl _))).mono ?_
  rintro e x3 ⟨rfl, hx3⟩
  have hs3 := hx3.size
  have c3_0_0 : x3.cell? ⟨W.heap.size, 0, none⟩ = some (.int .i64 K) := (hx3.cell _ _ (by first | omega | (rw [size_alloc]; omega) | (rw [size_alloc, size_alloc]; omega) | (rw [size_alloc, size_alloc, size_alloc]; omega))).trans (by go_simp)
  have c3_0_1 : x3.cell? ⟨W.heap.size, 1, none⟩ = some (.slice a n cap) := (hx3.cell _ _ (by first | omega | (rw [size_alloc]; omega) | (rw [size_alloc, size_alloc]; omega) | (rw [size_alloc, size_alloc, size_alloc]; omega))).trans (by go_simp)
  have c3_0_q : W.heap.size < x3.heap.size := by omega
  have c3_1_0 : x3.cell? ⟨W.heap.size + 1, 0, none⟩ = some (.int .i64 K') := (hx3.cell _ _ (by first | omega | (rw [size_alloc]; omega) | (rw [size_alloc, size_alloc]; omega) | (rw [size_alloc, size_alloc, size_alloc]; omega))).trans (by go_simp)
  have c3_1_1 : x3.cell? ⟨W.heap.size + 1, 1, none⟩ = some (.slice a' n' cap') := (hx3.cell _ _ (by first | omega | (rw [size_alloc]; omega) | (rw [size_alloc, size_alloc]; omega) | (rw [size_alloc, size_alloc, size_alloc]; omega))).trans (by go_simp)
  have c3_1_q : W.heap.size + 1 < x3.heap.size := by omega
  replace HU := Lib.hid ((HU.out).trans hx3)
  replace HA := Lib.hid ((HA.out.up (Up.refl _)).up hx3)
  replace HB := Lib.hid ((HB.out.up (Up.refl _)).up hx3)
  replace HE := Lib.hid ((HE.out.up (Up.refl _)).up hx3)
  clear c2_0_0 c2_0_1 c2_0_q c2_1_0 c2_1_1 c2_1_q
  clear hx3
  cases qe
  · go_wp2_with fail
    refine (law05_alive _).mono ?_
    rintro e z ⟨rfl, hz⟩
    go_wp2
    go_ret
    exact ⟨rfl, Up.trans (by repeat (first | exact HU.out | refine Up.alloc ?_ _)) hz⟩
  go_wp2_with fail
  refine (HOA.out _ _ (HA.out.up (Up.refl _))).mono ?_
  rintro e x4 ⟨rfl, hx4⟩
  have hs4 := hx4.size
  have c4_0_0 : x4.cell? ⟨W.heap.size, 0, none⟩ = some (.int .i64 K) := (hx4.cell _ _ (by first | omega | (rw [size_alloc]; omega) | (rw [size_alloc, size_alloc]; omega) | (rw [size_alloc, size_alloc, size_alloc]; omega))).trans (by go_simp)
  have c4_0_1 : x4.cell? ⟨W.heap.size, 1, none⟩ = some (.slice a n cap) := (hx4.cell _ _ (by first | omega | (rw [size_alloc]; omega) | (rw [size_alloc, size_alloc]; omega) | (rw [size_alloc, size_alloc, size_alloc]; omega))).trans (by go_simp)
  have c4_0_q : W.heap.size < x4.heap.size := by omega
  have c4_1_0 : x4.cell? ⟨W.heap.size + 1, 0, none⟩ = some (.int .i64 K') := (hx4.cell _ _ (by first | omega | (rw [size_alloc]; omega) | (rw [size_alloc, size_alloc]; omega) | (rw [size_alloc, size_alloc, size_alloc]; omega))).trans (by go_simp)
  have c4_1_1 : x4.cell? ⟨W.heap.size + 1, 1, none⟩ = some (.slice a' n' cap') := (hx4.cell _ _ (by first | omega | (rw [size_alloc]; omega) | (rw [size_alloc, size_alloc]; omega) | (rw [size_alloc, size_alloc, size_alloc]; omega))).trans (by go_simp)
  have c4_1_q : W.heap.size + 1 < x4.heap.size := by omega
  replace HU := Lib.hid ((HU.out).trans hx4)
  replace HA := Lib.hid ((HA.out.up (Up.refl _)).up hx4)
  replace HB := Lib.hid ((HB.out.up (Up.refl _)).up hx4)
  replace HE := Lib.hid ((HE.out.up (Up.refl _)).up hx4)
  clear c3_0_0 c3_0_1 c3_0_q c3_1_0 c3_1_1 c3_1_q
  clear hx4
  cases oa
  · rw [show errOf false = 1 from rfl]
    go_wp2_with fail
    refine (law05_alive _).mono ?_
    rintro e z ⟨rfl, hz⟩
    go_wp2
    go_ret
    exact ⟨rfl, Up.trans (by repeat (first | exact HU.out | refine Up.alloc ?_ _)) hz⟩
  rw [show errOf true = 0 from rfl]
  go_wp2_with fail
  refine (HOB.out _ _ (HB.out.up (Up.refl _))).mono ?_
  rintro e x5 ⟨rfl, hx5⟩
  have hs5 := hx5.size
  have c5_0_0 : x5.cell? ⟨W.heap.size, 0, none⟩ = some (.int .i64 K) := (hx5.cell _ _ (by first | omega | (rw [size_alloc]; omega) | (rw [size_alloc, size_alloc]; omega) | (rw [size_alloc, size_alloc, size_alloc]; omega))).trans (by go_simp)
  have c5_0_1 : x5.cell? ⟨W.heap.size, 1, none⟩ = some (.slice a n cap) := (hx5.cell _ _ (by first | omega | (rw [size_alloc]; omega) | (rw [size_alloc, size_alloc]; omega) | (rw [size_alloc, size_alloc, size_alloc]; omega))).trans (by go_simp)
  have c5_0_q : W.heap.size < x5.heap.size := by omega
  have c5_1_0 : x5.cell? ⟨W.heap.size + 1, 0, none⟩ = some (.int .i64 K') := (hx5.cell _ _ (by first | omega | (rw [size_alloc]; omega) | (rw [size_alloc, size_alloc]; omega) | (rw [size_alloc, size_alloc, size_alloc]; omega))).trans (by go_simp)
  have c5_1_1 : x5.cell? ⟨W.heap.size + 1, 1, none⟩ = some (.slice a' n' cap') := (hx5.cell _ _ (by first | omega | (rw [size_alloc]; omega) | (rw [size_alloc, size_alloc]; omega) | (rw [size_alloc, size_alloc, size_alloc]; omega))).trans (by go_simp)
  have c5_1_q : W.heap.size + 1 < x5.heap.size := by omega
  replace HU := Lib.hid ((HU.out).trans hx5)
  replace HA := Lib.hid ((HA.out.up (Up.refl _)).up hx5)
  replace HB := Lib.hid ((HB.out.up (Up.refl _)).up hx5)
  replace HE := Lib.hid ((HE.out.up (Up.refl _)).up hx5)
  clear c4_0_0 c4_0_1 c4_0_q c4_1_0 c4_1_1 c4_1_q
  clear hx5
  cases ob
  · rw [show errOf false = 1 from rfl]
    go_wp2_with fail
    refine (law05_alive _).mono ?_
    rintro e z ⟨rfl, hz⟩
    go_wp2
    go_ret
    exact ⟨rfl, Up.trans (by repeat (first | exact HU.out | refine Up.alloc ?_ _)) hz⟩
  rw [show errOf true = 0 from rfl]
  have HS := Lib.hid (HALL.out (by trivial) (by trivial) (by trivial) (by trivial) (by trivial))
  have hne40 : ne ≤ 40 := HQE.out (by trivial)
  clear HALL HNA HNB HNE HOA HOB HQE
  obtain ⟨KX, lx, hSX⟩ := sub_facts HS.out
  have HSX := Lib.hid hSX
  clear hSX
  have H1 := Lib.hid (sub_self HS.out)
  have H2 := Lib.hid (sub_to HS.out KX lx HSX.out.eq)
  have H3 := Lib.hid HS.out.evalB
  have HA0 := HA
  go_upto_region 3 with fail
  go_cut [7, 8] from 42 to 47 (fun s7 s8 wx => CutS x5 K l n s7 s8 wx)
  case first =>
    go_region_with (first
      | (go_at_call 16; refine (lin_VarC _ _).mono ?_; rintro e y1 ⟨vv, rfl, hvv, hcv, hy1⟩; have HVV := Lib.hid hvv; have HCV := Lib.hid hcv; have HYU := Lib.hid (Up.trans (by repeat (first | exact Up.refl _ | refine Up.drew ?_ | refine Up.alloc ?_ _)) hy1 : Up x5 y1); have HY1 := Lib.hid hy1; have ys1 := HYU.out.size; have yq1 : W.heap.size < y1.heap.size := (by omega); have bb0 : y1.cell? ⟨W.heap.size, 0, none⟩ = some (.int .i64 K) := (HYU.out.cell _ _ c5_0_q).trans c5_0_0; have bb1 : y1.cell? ⟨W.heap.size, 1, none⟩ = some (.slice a n cap) := (HYU.out.cell _ _ c5_0_q).trans c5_0_1; (try have yl1 : x5.heap.size < y1.heap.size := Nat.lt_of_lt_of_le (lt_alloc x5.drew _) hy1.size); (try have zz0 : y1.cell? ⟨x5.heap.size, 0, none⟩ = some (.int .i64 0) := (hy1.cell _ _ (lt_alloc x5.drew _)).trans (cell_of_row _ _ _ _ _ _ (heap_alloc_new x5.drew _))); (try have zz1 : y1.cell? ⟨x5.heap.size, 1, none⟩ = some (.slice none 0 0) := (hy1.cell _ _ (lt_alloc x5.drew _)).trans (cell_of_row _ _ _ _ _ _ (heap_alloc_new x5.drew _))); (try have zzf : ∀ o, y1.frozen? ⟨x5.heap.size, o, none⟩ = false := fun o => (hy1.frozen _ _ (lt_alloc x5.drew _)).trans (frozen_of_row _ _ o _ _ (heap_alloc_new x5.drew _))); clear hvv hcv hy1)
      | (go_at_call 31; refine (H1.out _ _ _ (by refine (HA.out.up HYU.out).up ?_; repeat (first | exact Up.refl _ | refine Up.drew ?_ | refine Up.alloc ?_ _)) HCA.out (by refine HVV.out.up ?_; repeat (first | exact Up.refl _ | refine Up.drew ?_ | refine Up.alloc ?_ _)) HCV.out).mono ?_; rintro e y2 ⟨⟨v2, rfl, hm2, hc2, hf2⟩, hy2⟩; obtain ⟨a2, cap2, hv2⟩ : ∃ a cap, v2 = .slice a n cap := (by obtain ⟨a2, cap2, h⟩ := hm2.slice; exact ⟨a2, cap2, by rw [h]; exact congrArg (fun k => Value.slice a2 k cap2) HNL.out⟩); subst hv2; have HM2 := Lib.hid hm2; have HF2 := Lib.hid hf2; have HY2 := Lib.hid hy2; (try have za0 : y2.cell? ⟨x5.heap.size, 0, none⟩ = some (.int .i64 0) := (hy2.cell _ _ yl1).trans zz0); (try have za1 : y2.cell? ⟨x5.heap.size, 1, none⟩ = some (.slice none 0 0) := (hy2.cell _ _ yl1).trans zz1); (try have zaf : ∀ o, y2.frozen? ⟨x5.heap.size, o, none⟩ = false := fun o => (hy2.frozen _ _ yl1).trans (zzf o)); (try have zb0 : y2.cell? ⟨y1.heap.size, 0, none⟩ = some (.int .i64 0) := (hy2.cell _ _ (lt_alloc y1 _)).trans (cell_of_row _ _ _ _ _ _ (heap_alloc_new y1 _))); (try have zb1 : y2.cell? ⟨y1.heap.size, 1, none⟩ = some (.slice none 0 0) := (hy2.cell _ _ (lt_alloc y1 _)).trans (cell_of_row _ _ _ _ _ _ (heap_alloc_new y1 _))); (try have zbf : ∀ o, y2.frozen? ⟨y1.heap.size, o, none⟩ = false := fun o => (hy2.frozen _ _ (lt_alloc y1 _)).trans (frozen_of_row _ _ o _ _ (heap_alloc_new y1 _))); clear hm2 hc2 hf2 hy2))
    all_goals
      go_wp2_with fail
      go_meet
      first
        | exact ⟨y2.heap.size, a2, cap2, rfl, rfl, heap_alloc_new y2 _, (Up.trans (by repeat (first | exact HYU.out | refine Up.drew ?_ | refine Up.alloc ?_ _)) HY2.out).alloc _, HM2.out.up ((Up.refl y2).alloc _)⟩
        | exact ⟨y1.heap.size, a2, cap2, rfl, rfl, rowSet2 ((HY2.out.heap _ (by simp)).trans (heap_alloc_new y1 _)), ((Up.trans (by repeat (first | exact HYU.out | refine Up.drew ?_ | refine Up.alloc ?_ _)) HY2.out).setCell (by show x5.heap.size ≤ y1.heap.size; exact HYU.out.size) _).setCell (by show x5.heap.size ≤ y1.heap.size; exact HYU.out.size) _, SlAt.far (SlAt.far HM2.out (fun a n c e => by have := HF2.out a n c e; simp at this; omega) 0 _) (fun a n c e => by have := HF2.out a n c e; simp at this; omega) 1 _⟩
        | exact ⟨x5.heap.size, a2, cap2, rfl, rfl, rowSet2 ((HY2.out.heap _ (by have := HY1.out.size; simp at this; omega)).trans ((HY1.out.heap _ (by simp)).trans (heap_alloc_new x5.drew _))), ((Up.trans (by repeat (first | exact HYU.out | refine Up.drew ?_ | refine Up.alloc ?_ _)) HY2.out).setCell (Nat.le_refl _) _).setCell (Nat.le_refl _) _, SlAt.far (SlAt.far HM2.out (fun a n c e => by have := HF2.out a n c e; have := HY1.out.size; simp at *; omega) 0 _) (fun a n c e => by have := HF2.out a n c e; have := HY1.out.size; simp at *; omega) 1 _⟩
  case rest =>
    obtain ⟨Z, a2, cap2, rfl, rfl, hZ, hU6, hm6⟩ := hcut
    have c6_0_0 : wc.cell? ⟨W.heap.size, 0, none⟩ = some (.int .i64 K) := (hU6.cell _ _ c5_0_q).trans c5_0_0
    have c6_0_1 : wc.cell? ⟨W.heap.size, 1, none⟩ = some (.slice a n cap) := (hU6.cell _ _ c5_0_q).trans c5_0_1
    have c6_1_0 : wc.cell? ⟨W.heap.size + 1, 0, none⟩ = some (.int .i64 K') := (hU6.cell _ _ c5_1_q).trans c5_1_0
    have c6_1_1 : wc.cell? ⟨W.heap.size + 1, 1, none⟩ = some (.slice a' n' cap') := (hU6.cell _ _ c5_1_q).trans c5_1_1
    have hs6 := hU6.size
    have c6_0_q : W.heap.size < wc.heap.size := by omega
    have c6_1_q : W.heap.size + 1 < wc.heap.size := by omega
    have c6_2_0 : wc.cell? ⟨Z, 0, none⟩ = some (.int .i64 K) := cell_of_row _ _ _ _ _ _ hZ
    have c6_2_1 : wc.cell? ⟨Z, 1, none⟩ = some (.slice a2 n cap2) := cell_of_row _ _ _ _ _ _ hZ
    have c6_2_q : Z < wc.heap.size := (Array.getElem?_eq_some_iff.1 hZ).1
    replace HU := Lib.hid (HU.out.trans hU6)
    replace HA := Lib.hid (HA.out.up hU6)
    replace HB := Lib.hid (HB.out.up hU6)
    replace HE := Lib.hid (HE.out.up hU6)
    have HM1 := Lib.hid hm6
    clear c5_0_0 c5_0_1 c5_0_q c5_1_0 c5_1_1 c5_1_q hU6 hm6 hZ HA0
    go_wp2_with fail
    refine (H2.out _ _ _ (HA.out.up (Up.refl _)) HCA.out (HB.out.up (Up.refl _)) HCB.out).mono ?_
    rintro e x7 ⟨⟨v3, rfl, hm3, hc3, _⟩, hx7⟩
    obtain ⟨a3, cap3, rfl⟩ := hm3.slice
    obtain ⟨n3, hn3⟩ : ∃ n, List.length lx = n := ⟨_, rfl⟩
    try dsimp only at hm3
    have HM3 := Lib.hid hm3
    try simp only [hn3] at HM3
    try simp only [hn3]
    clear hm3 hc3 hn3
    have hs7 := hx7.size
    have c7_0_0 : x7.cell? ⟨W.heap.size, 0, none⟩ = some (.int .i64 K) := (hx7.cell _ _ (by first | omega | (rw [size_alloc]; omega) | (rw [size_alloc, size_alloc]; omega) | (rw [size_alloc, size_alloc, size_alloc]; omega))).trans (by go_simp)
    have c7_0_1 : x7.cell? ⟨W.heap.size, 1, none⟩ = some (.slice a n cap) := (hx7.cell _ _ (by first | omega | (rw [size_alloc]; omega) | (rw [size_alloc, size_alloc]; omega) | (rw [size_alloc, size_alloc, size_alloc]; omega))).trans (by go_simp)
    have c7_0_q : W.heap.size < x7.heap.size := by omega
    have c7_1_0 : x7.cell? ⟨W.heap.size + 1, 0, none⟩ = some (.int .i64 K') := (hx7.cell _ _ (by first | omega | (rw [size_alloc]; omega) | (rw [size_alloc, size_alloc]; omega) | (rw [size_alloc, size_alloc, size_alloc]; omega))).trans (by go_simp)
    have c7_1_1 : x7.cell? ⟨W.heap.size + 1, 1, none⟩ = some (.slice a' n' cap') := (hx7.cell _ _ (by first | omega | (rw [size_alloc]; omega) | (rw [size_alloc, size_alloc]; omega) | (rw [size_alloc, size_alloc, size_alloc]; omega))).trans (by go_simp)
    have c7_1_q : W.heap.size + 1 < x7.heap.size := by omega
    have c7_2_0 : x7.cell? ⟨Z, 0, none⟩ = some (.int .i64 K) := (hx7.cell _ _ (by first | omega | (rw [size_alloc]; omega) | (rw [size_alloc, size_alloc]; omega) | (rw [size_alloc, size_alloc, size_alloc]; omega))).trans (by go_simp)
    have c7_2_1 : x7.cell? ⟨Z, 1, none⟩ = some (.slice a2 n cap2) := (hx7.cell _ _ (by first | omega | (rw [size_alloc]; omega) | (rw [size_alloc, size_alloc]; omega) | (rw [size_alloc, size_alloc, size_alloc]; omega))).trans (by go_simp)
    have c7_2_q : Z < x7.heap.size := by omega
    replace HU := Lib.hid ((HU.out).trans hx7)
    replace HA := Lib.hid ((HA.out.up (Up.refl _)).up hx7)
    replace HB := Lib.hid ((HB.out.up (Up.refl _)).up hx7)
    replace HE := Lib.hid ((HE.out.up (Up.refl _)).up hx7)
    replace HM1 := Lib.hid ((HM1.out.up (Up.refl _)).up hx7)
    clear c6_0_0 c6_0_1 c6_0_q c6_1_0 c6_1_1 c6_1_q c6_2_0 c6_2_1 c6_2_q
    clear hx7
    go_wp2_with fail
    refine (base_Lin _ _ _ _ l l _ (HM1.out.up ((Up.refl x7).alloc _)) (HA.out.up ((Up.refl x7).alloc _))).mono ?_
    rintro e x8 ⟨rfl, hx8⟩
    rw [eqForm_self]
    have hs8 := hx8.size
    rw [size_alloc] at hs8
    have c8_0_0 : x8.cell? ⟨W.heap.size, 0, none⟩ = some (.int .i64 K) := (hx8.cell _ _ (by first | omega | (rw [size_alloc]; omega) | (rw [size_alloc, size_alloc]; omega) | (rw [size_alloc, size_alloc, size_alloc]; omega))).trans (by go_simp)
    have c8_0_1 : x8.cell? ⟨W.heap.size, 1, none⟩ = some (.slice a n cap) := (hx8.cell _ _ (by first | omega | (rw [size_alloc]; omega) | (rw [size_alloc, size_alloc]; omega) | (rw [size_alloc, size_alloc, size_alloc]; omega))).trans (by go_simp)
    have c8_0_q : W.heap.size < x8.heap.size := by omega
    have c8_1_0 : x8.cell? ⟨W.heap.size + 1, 0, none⟩ = some (.int .i64 K') := (hx8.cell _ _ (by first | omega | (rw [size_alloc]; omega) | (rw [size_alloc, size_alloc]; omega) | (rw [size_alloc, size_alloc, size_alloc]; omega))).trans (by go_simp)
    have c8_1_1 : x8.cell? ⟨W.heap.size + 1, 1, none⟩ = some (.slice a' n' cap') := (hx8.cell _ _ (by first | omega | (rw [size_alloc]; omega) | (rw [size_alloc, size_alloc]; omega) | (rw [size_alloc, size_alloc, size_alloc]; omega))).trans (by go_simp)
    have c8_1_q : W.heap.size + 1 < x8.heap.size := by omega
    have c8_2_0 : x8.cell? ⟨Z, 0, none⟩ = some (.int .i64 K) := (hx8.cell _ _ (by first | omega | (rw [size_alloc]; omega) | (rw [size_alloc, size_alloc]; omega) | (rw [size_alloc, size_alloc, size_alloc]; omega))).trans (by go_simp)
    have c8_2_1 : x8.cell? ⟨Z, 1, none⟩ = some (.slice a2 n cap2) := (hx8.cell _ _ (by first | omega | (rw [size_alloc]; omega) | (rw [size_alloc, size_alloc]; omega) | (rw [size_alloc, size_alloc, size_alloc]; omega))).trans (by go_simp)
    have c8_2_q : Z < x8.heap.size := by omega
    have c8_3_0 : x8.cell? ⟨x7.heap.size, 0, none⟩ = some (.int .i64 KX) := (hx8.cell _ _ (by first | omega | (rw [size_alloc]; omega) | (rw [size_alloc, size_alloc]; omega) | (rw [size_alloc, size_alloc, size_alloc]; omega))).trans (by go_simp)
    have c8_3_1 : x8.cell? ⟨x7.heap.size, 1, none⟩ = some (.slice a3 n3 cap3) := (hx8.cell _ _ (by first | omega | (rw [size_alloc]; omega) | (rw [size_alloc, size_alloc]; omega) | (rw [size_alloc, size_alloc, size_alloc]; omega))).trans (by go_simp)
    have c8_3_q : x7.heap.size < x8.heap.size := by omega
    replace HU := Lib.hid ((HU.out.alloc _).trans hx8)
    replace HA := Lib.hid ((HA.out.up ((Up.refl x7).alloc _)).up hx8)
    replace HB := Lib.hid ((HB.out.up ((Up.refl x7).alloc _)).up hx8)
    replace HE := Lib.hid ((HE.out.up ((Up.refl x7).alloc _)).up hx8)
    replace HM1 := Lib.hid ((HM1.out.up ((Up.refl x7).alloc _)).up hx8)
    replace HM3 := Lib.hid ((HM3.out.up ((Up.refl x7).alloc _)).up hx8)
    clear c7_0_0 c7_0_1 c7_0_q c7_1_0 c7_1_1 c7_1_q c7_2_0 c7_2_1 c7_2_q
    clear hx8
    obtain ⟨v0, e0, hE0⟩ : ∃ u e, evalF K' l' env = (u, e) := ⟨_, _, rfl⟩
    rw [hE0] at H3
    have HE0 := Lib.hid hE0
    clear hE0
    go_wp2_with fail
    refine (H3.out _ _ _ (HB.out.up (Up.refl _)) (HE.out.up (Up.refl _))).mono ?_
    rintro e x9 ⟨rfl, hx9⟩
    have hs9 := hx9.size
    have c9_0_0 : x9.cell? ⟨W.heap.size, 0, none⟩ = some (.int .i64 K) := (hx9.cell _ _ (by first | omega | (rw [size_alloc]; omega) | (rw [size_alloc, size_alloc]; omega) | (rw [size_alloc, size_alloc, size_alloc]; omega))).trans (by go_simp)
    have c9_0_1 : x9.cell? ⟨W.heap.size, 1, none⟩ = some (.slice a n cap) := (hx9.cell _ _ (by first | omega | (rw [size_alloc]; omega) | (rw [size_alloc, size_alloc]; omega) | (rw [size_alloc, size_alloc, size_alloc]; omega))).trans (by go_simp)
    have c9_0_q : W.heap.size < x9.heap.size := by omega
    have c9_1_0 : x9.cell? ⟨W.heap.size + 1, 0, none⟩ = some (.int .i64 K') := (hx9.cell _ _ (by first | omega | (rw [size_alloc]; omega) | (rw [size_alloc, size_alloc]; omega) | (rw [size_alloc, size_alloc, size_alloc]; omega))).trans (by go_simp)
    have c9_1_1 : x9.cell? ⟨W.heap.size + 1, 1, none⟩ = some (.slice a' n' cap') := (hx9.cell _ _ (by first | omega | (rw [size_alloc]; omega) | (rw [size_alloc, size_alloc]; omega) | (rw [size_alloc, size_alloc, size_alloc]; omega))).trans (by go_simp)
    have c9_1_q : W.heap.size + 1 < x9.heap.size := by omega
    have c9_2_0 : x9.cell? ⟨Z, 0, none⟩ = some (.int .i64 K) := (hx9.cell _ _ (by first | omega | (rw [size_alloc]; omega) | (rw [size_alloc, size_alloc]; omega) | (rw [size_alloc, size_alloc, size_alloc]; omega))).trans (by go_simp)
    have c9_2_1 : x9.cell? ⟨Z, 1, none⟩ = some (.slice a2 n cap2) := (hx9.cell _ _ (by first | omega | (rw [size_alloc]; omega) | (rw [size_alloc, size_alloc]; omega) | (rw [size_alloc, size_alloc, size_alloc]; omega))).trans (by go_simp)
    have c9_2_q : Z < x9.heap.size := by omega
    have c9_3_0 : x9.cell? ⟨x7.heap.size, 0, none⟩ = some (.int .i64 KX) := (hx9.cell _ _ (by first | omega | (rw [size_alloc]; omega) | (rw [size_alloc, size_alloc]; omega) | (rw [size_alloc, size_alloc, size_alloc]; omega))).trans (by go_simp)
    have c9_3_1 : x9.cell? ⟨x7.heap.size, 1, none⟩ = some (.slice a3 n3 cap3) := (hx9.cell _ _ (by first | omega | (rw [size_alloc]; omega) | (rw [size_alloc, size_alloc]; omega) | (rw [size_alloc, size_alloc, size_alloc]; omega))).trans (by go_simp)
    have c9_3_q : x7.heap.size < x9.heap.size := by omega
    replace HU := Lib.hid ((HU.out).trans hx9)
    replace HA := Lib.hid ((HA.out.up (Up.refl _)).up hx9)
    replace HB := Lib.hid ((HB.out.up (Up.refl _)).up hx9)
    replace HE := Lib.hid ((HE.out.up (Up.refl _)).up hx9)
    replace HM1 := Lib.hid ((HM1.out.up (Up.refl _)).up hx9)
    replace HM3 := Lib.hid ((HM3.out.up (Up.refl _)).up hx9)
    clear c8_0_0 c8_0_1 c8_0_q c8_1_0 c8_1_1 c8_1_q c8_2_0 c8_2_1 c8_2_q c8_3_0 c8_3_1 c8_3_q
    clear hx9
    try dsimp only
    by_cases z0 : ¬ e0 = 0
    · have z2 : (e0 == 0) = false := by simpa using z0
      go_wp2_with fail
      refine (law05_alive _).mono ?_
      rintro e z ⟨rfl, hz⟩
      go_wp2
      go_ret
      exact ⟨rfl, Up.trans (by repeat (first | exact HU.out | refine Up.alloc ?_ _)) hz⟩
    replace z0 : e0 = 0 := by omega
    subst z0
    have hv64 : In64 v0 := by
      obtain ⟨u, p1, p2, p3⟩ := eval_ok HS.out.k' HS.out.a' HS.out.n' HS.out.o' HS.out.e (by rw [HE0.out])
      rw [HE0.out] at p2
      cases p2
      unfold In64; omega
    have HV64 := Lib.hid hv64
    clear hv64
    obtain ⟨qv, hqv⟩ : ∃ q, nearB v0 = q := ⟨_, rfl⟩
    have HNV : Hid (∀ w, Calls Try.prog 33 #[.int .i64 v0] w fun e w' => e = .returned (.bool qv) ∧ Up w w') := Lib.hid fun w => by
      rw [← hqv]
      exact (law05_near v0 w).mono fun e w' ⟨h1, h2⟩ => ⟨h1, h2 ▸ Up.refl _⟩
    clear hqv
    go_wp2_with fail
    refine (HNV.out _).mono ?_
    rintro e x10 ⟨rfl, hx10⟩
    have hs10 := hx10.size
    have c10_0_0 : x10.cell? ⟨W.heap.size, 0, none⟩ = some (.int .i64 K) := (hx10.cell _ _ (by first | omega | (rw [size_alloc]; omega) | (rw [size_alloc, size_alloc]; omega) | (rw [size_alloc, size_alloc, size_alloc]; omega))).trans (by go_simp)
    have c10_0_1 : x10.cell? ⟨W.heap.size, 1, none⟩ = some (.slice a n cap) := (hx10.cell _ _ (by first | omega | (rw [size_alloc]; omega) | (rw [size_alloc, size_alloc]; omega) | (rw [size_alloc, size_alloc, size_alloc]; omega))).trans (by go_simp)
    have c10_0_q : W.heap.size < x10.heap.size := by omega
    have c10_1_0 : x10.cell? ⟨W.heap.size + 1, 0, none⟩ = some (.int .i64 K') := (hx10.cell _ _ (by first | omega | (rw [size_alloc]; omega) | (rw [size_alloc, size_alloc]; omega) | (rw [size_alloc, size_alloc, size_alloc]; omega))).trans (by go_simp)
    have c10_1_1 : x10.cell? ⟨W.heap.size + 1, 1, none⟩ = some (.slice a' n' cap') := (hx10.cell _ _ (by first | omega | (rw [size_alloc]; omega) | (rw [size_alloc, size_alloc]; omega) | (rw [size_alloc, size_alloc, size_alloc]; omega))).trans (by go_simp)
    have c10_1_q : W.heap.size + 1 < x10.heap.size := by omega
    have c10_2_0 : x10.cell? ⟨Z, 0, none⟩ = some (.int .i64 K) := (hx10.cell _ _ (by first | omega | (rw [size_alloc]; omega) | (rw [size_alloc, size_alloc]; omega) | (rw [size_alloc, size_alloc, size_alloc]; omega))).trans (by go_simp)
    have c10_2_1 : x10.cell? ⟨Z, 1, none⟩ = some (.slice a2 n cap2) := (hx10.cell _ _ (by first | omega | (rw [size_alloc]; omega) | (rw [size_alloc, size_alloc]; omega) | (rw [size_alloc, size_alloc, size_alloc]; omega))).trans (by go_simp)
    have c10_2_q : Z < x10.heap.size := by omega
    have c10_3_0 : x10.cell? ⟨x7.heap.size, 0, none⟩ = some (.int .i64 KX) := (hx10.cell _ _ (by first | omega | (rw [size_alloc]; omega) | (rw [size_alloc, size_alloc]; omega) | (rw [size_alloc, size_alloc, size_alloc]; omega))).trans (by go_simp)
    have c10_3_1 : x10.cell? ⟨x7.heap.size, 1, none⟩ = some (.slice a3 n3 cap3) := (hx10.cell _ _ (by first | omega | (rw [size_alloc]; omega) | (rw [size_alloc, size_alloc]; omega) | (rw [size_alloc, size_alloc, size_alloc]; omega))).trans (by go_simp)
    have c10_3_q : x7.heap.size < x10.heap.size := by omega
    replace HU := Lib.hid ((HU.out).trans hx10)
    replace HA := Lib.hid ((HA.out.up (Up.refl _)).up hx10)
    replace HB := Lib.hid ((HB.out.up (Up.refl _)).up hx10)
    replace HE := Lib.hid ((HE.out.up (Up.refl _)).up hx10)
    replace HM1 := Lib.hid ((HM1.out.up (Up.refl _)).up hx10)
    replace HM3 := Lib.hid ((HM3.out.up (Up.refl _)).up hx10)
    clear c9_0_0 c9_0_1 c9_0_q c9_1_0 c9_1_1 c9_1_q c9_2_0 c9_2_1 c9_2_q c9_3_0 c9_3_1 c9_3_q
    clear hx10
    cases qv
    · go_wp2_with fail
      refine (law05_alive _).mono ?_
      rintro e z ⟨rfl, hz⟩
      go_wp2
      go_ret
      exact ⟨rfl, Up.trans (by repeat (first | exact HU.out | refine Up.alloc ?_ _)) hz⟩
    obtain ⟨j0, hj0, hy0, hy1, hy2⟩ := info_parts bind_info
    have HOWN := Lib.hid (World.ownsRow_lit (base := x10.heap.size) (e := 48) (size := 2) x10 #[.string nmI, .int .i64 v0] 1 (Nat.le_refl _) (by decide) rfl)
    have hneI : (ne : Int) ≤ 40 := by omega
    go_wp2_with (at_builtin; refine wpList_append_sl _ rfl _ _ 29 rfl x10.heap.size 48 j0 _ 2 24 Try.underlying29 hj0 hy0 hy1 hy2 rfl (by decide) (.slice (some ⟨x10.heap.size, 0, none⟩) 1 1) 1 _ rfl HOWN.out (.slice ae ne cape) ne (monoF env) rfl (by have := HE.out.up ((Up.refl x10).alloc (.cells #[.string nmI, .int .i64 v0] 48)); unfold MonosAt at this; rw [HNE2.out] at this; exact this) (fun i j _ _ => by rcases j with _ | j <;> rfl) (by unfold maxLen; omega) (by omega) (by rw [size_alloc]; omega) ?_; intro v1 x11 hown1 hg1 hat1 hnil1; obtain ⟨vb, vd, rfl⟩ := own_slice hown1; have HG1 := Lib.hid hg1; have HO1 := Lib.hid hown1; clear hown1 hg1 hat1 hnil1; refine stop ?_)
    unfold Stopped
    have hx11 : Up x10 x11 := ((Up.refl x10).alloc _).grown HG1.out (fun g hg => by cases hg; exact Nat.le_refl _)
    have HW : Hid (MonosAt x11 (.slice vb (1 + ne) vd) ((nmI, v0) :: env)) := Lib.hid (by
      show SlAt _ _ (env.length + 1) 2 _
      rw [HNE2.out, Nat.add_comm ne 1]
      refine SlAt.of_own HO1.out (by omega) (fun i j hi hj => ?_)
      have := with_cells v0 env i j (by rw [HNE2.out]; omega) hj
      rw [HNE2.out] at this
      exact this)
    have c11_0_0 : x11.cell? ⟨W.heap.size, 0, none⟩ = some (.int .i64 K) := (hx11.cell _ _ c10_0_q).trans c10_0_0
    have c11_0_1 : x11.cell? ⟨W.heap.size, 1, none⟩ = some (.slice a n cap) := (hx11.cell _ _ c10_0_q).trans c10_0_1
    have c11_0_q : W.heap.size < x11.heap.size := Nat.lt_of_lt_of_le c10_0_q hx11.size
    have c11_1_0 : x11.cell? ⟨W.heap.size + 1, 0, none⟩ = some (.int .i64 K') := (hx11.cell _ _ c10_1_q).trans c10_1_0
    have c11_1_1 : x11.cell? ⟨W.heap.size + 1, 1, none⟩ = some (.slice a' n' cap') := (hx11.cell _ _ c10_1_q).trans c10_1_1
    have c11_1_q : W.heap.size + 1 < x11.heap.size := Nat.lt_of_lt_of_le c10_1_q hx11.size
    have c11_2_0 : x11.cell? ⟨Z, 0, none⟩ = some (.int .i64 K) := (hx11.cell _ _ c10_2_q).trans c10_2_0
    have c11_2_1 : x11.cell? ⟨Z, 1, none⟩ = some (.slice a2 n cap2) := (hx11.cell _ _ c10_2_q).trans c10_2_1
    have c11_2_q : Z < x11.heap.size := Nat.lt_of_lt_of_le c10_2_q hx11.size
    have c11_3_0 : x11.cell? ⟨x7.heap.size, 0, none⟩ = some (.int .i64 KX) := (hx11.cell _ _ c10_3_q).trans c10_3_0
    have c11_3_1 : x11.cell? ⟨x7.heap.size, 1, none⟩ = some (.slice a3 n3 cap3) := (hx11.cell _ _ c10_3_q).trans c10_3_1
    have c11_3_q : x7.heap.size < x11.heap.size := Nat.lt_of_lt_of_le c10_3_q hx11.size
    replace HU := Lib.hid (HU.out.trans hx11)
    replace HA := Lib.hid (HA.out.up hx11)
    replace HB := Lib.hid (HB.out.up hx11)
    replace HE := Lib.hid (HE.out.up hx11)
    replace HM1 := Lib.hid (HM1.out.up hx11)
    replace HM3 := Lib.hid (HM3.out.up hx11)
    clear c10_0_0 c10_0_1 c10_0_q c10_1_0 c10_1_1 c10_1_q c10_2_0 c10_2_1 c10_2_q c10_3_0 c10_3_1 c10_3_q
    clear hx11 HOWN HG1 HO1
    have H4 : Hid (∀ (w : World) (v ev : Value), MonosAt w v l → MonosAt w ev ((nmI, v0) :: env) → Calls Try.prog 20 #[.agg #[.int .i64 K, v], ev] w fun e w' => e = .returned (.tuple #[.int .i64 (evalF K l ((nmI, v0) :: env)).1, .int .i64 (evalF K l ((nmI, v0) :: env)).2]) ∧ Up w w') := Lib.hid fun w v ev h h' =>
      lin_Eval K v ev l _ w h h' (near64 HS.out.k) (rng_near HS.out.a) (rng_of_mem (fun m hm => by rcases List.mem_cons.1 hm with rfl | hm; exact HV64.out; exact (rng_near HS.out.e).mem m hm)) (by have := HS.out.n; omega)
    have H5 : Hid (∀ (w : World) (v ev : Value), MonosAt w v lx → MonosAt w ev env → Calls Try.prog 20 #[.agg #[.int .i64 KX, v], ev] w fun e w' => e = .returned (.tuple #[.int .i64 (evalF KX lx env).1, .int .i64 (evalF KX lx env).2]) ∧ Up w w') := Lib.hid fun w v ev h h' =>
      lin_Eval KX v ev lx env w h h' HSX.out.k HSX.out.r (rng_near HS.out.e) HSX.out.n
    have HF := Lib.hid (HSX.out.v v0 HE0.out)
    obtain ⟨ua, ea, hEA⟩ : ∃ u e, evalF K l ((nmI, v0) :: env) = (u, e) := ⟨_, _, rfl⟩
    rw [hEA] at H4 HF
    clear hEA
    go_wp2_with fail
    refine (H4.out _ _ _ (HA.out.up (Up.refl _)) (HW.out.up (Up.refl _))).mono ?_
    rintro e x12 ⟨rfl, hx12⟩
    have hs12 := hx12.size
    have c12_0_0 : x12.cell? ⟨W.heap.size, 0, none⟩ = some (.int .i64 K) := (hx12.cell _ _ (by first | omega | (rw [size_alloc]; omega) | (rw [size_alloc, size_alloc]; omega) | (rw [size_alloc, size_alloc, size_alloc]; omega))).trans (by go_simp)
    have c12_0_1 : x12.cell? ⟨W.heap.size, 1, none⟩ = some (.slice a n cap) := (hx12.cell _ _ (by first | omega | (rw [size_alloc]; omega) | (rw [size_alloc, size_alloc]; omega) | (rw [size_alloc, size_alloc, size_alloc]; omega))).trans (by go_simp)
    have c12_0_q : W.heap.size < x12.heap.size := by omega
    have c12_1_0 : x12.cell? ⟨W.heap.size + 1, 0, none⟩ = some (.int .i64 K') := (hx12.cell _ _ (by first | omega | (rw [size_alloc]; omega) | (rw [size_alloc, size_alloc]; omega) | (rw [size_alloc, size_alloc, size_alloc]; omega))).trans (by go_simp)
    have c12_1_1 : x12.cell? ⟨W.heap.size + 1, 1, none⟩ = some (.slice a' n' cap') := (hx12.cell _ _ (by first | omega | (rw [size_alloc]; omega) | (rw [size_alloc, size_alloc]; omega) | (rw [size_alloc, size_alloc, size_alloc]; omega))).trans (by go_simp)
    have c12_1_q : W.heap.size + 1 < x12.heap.size := by omega
    have c12_2_0 : x12.cell? ⟨Z, 0, none⟩ = some (.int .i64 K) := (hx12.cell _ _ (by first | omega | (rw [size_alloc]; omega) | (rw [size_alloc, size_alloc]; omega) | (rw [size_alloc, size_alloc, size_alloc]; omega))).trans (by go_simp)
    have c12_2_1 : x12.cell? ⟨Z, 1, none⟩ = some (.slice a2 n cap2) := (hx12.cell _ _ (by first | omega | (rw [size_alloc]; omega) | (rw [size_alloc, size_alloc]; omega) | (rw [size_alloc, size_alloc, size_alloc]; omega))).trans (by go_simp)
    have c12_2_q : Z < x12.heap.size := by omega
    have c12_3_0 : x12.cell? ⟨x7.heap.size, 0, none⟩ = some (.int .i64 KX) := (hx12.cell _ _ (by first | omega | (rw [size_alloc]; omega) | (rw [size_alloc, size_alloc]; omega) | (rw [size_alloc, size_alloc, size_alloc]; omega))).trans (by go_simp)
    have c12_3_1 : x12.cell? ⟨x7.heap.size, 1, none⟩ = some (.slice a3 n3 cap3) := (hx12.cell _ _ (by first | omega | (rw [size_alloc]; omega) | (rw [size_alloc, size_alloc]; omega) | (rw [size_alloc, size_alloc, size_alloc]; omega))).trans (by go_simp)
    have c12_3_q : x7.heap.size < x12.heap.size := by omega
    replace HU := Lib.hid ((HU.out).trans hx12)
    replace HA := Lib.hid ((HA.out.up (Up.refl _)).up hx12)
    replace HB := Lib.hid ((HB.out.up (Up.refl _)).up hx12)
    replace HE := Lib.hid ((HE.out.up (Up.refl _)).up hx12)
    replace HM1 := Lib.hid ((HM1.out.up (Up.refl _)).up hx12)
    replace HM3 := Lib.hid ((HM3.out.up (Up.refl _)).up hx12)
    replace HW := Lib.hid ((HW.out.up (Up.refl _)).up hx12)
    clear c11_0_0 c11_0_1 c11_0_q c11_1_0 c11_1_1 c11_1_q c11_2_0 c11_2_1 c11_2_q c11_3_0 c11_3_1 c11_3_q
    clear hx12
    try dsimp only
    by_cases z1 : ¬ ea = 0
    · have z2 : (ea == 0) = false := by simpa using z1
      go_wp2_with fail
      refine (law05_alive _).mono ?_
      rintro e z ⟨rfl, hz⟩
      go_wp2
      go_ret
      exact ⟨rfl, Up.trans (by repeat (first | exact HU.out | refine Up.alloc ?_ _)) hz⟩
    replace z1 : ea = 0 := by omega
    rw [HF.out z1] at H5
    subst z1
    go_wp2_with fail
    refine (H5.out _ _ _ (HM3.out.up (Up.refl _)) (HE.out.up (Up.refl _))).mono ?_
    rintro e x13 ⟨rfl, hx13⟩
    have hs13 := hx13.size
    have c13_0_0 : x13.cell? ⟨W.heap.size, 0, none⟩ = some (.int .i64 K) := (hx13.cell _ _ (by first | omega | (rw [size_alloc]; omega) | (rw [size_alloc, size_alloc]; omega) | (rw [size_alloc, size_alloc, size_alloc]; omega))).trans (by go_simp)
    have c13_0_1 : x13.cell? ⟨W.heap.size, 1, none⟩ = some (.slice a n cap) := (hx13.cell _ _ (by first | omega | (rw [size_alloc]; omega) | (rw [size_alloc, size_alloc]; omega) | (rw [size_alloc, size_alloc, size_alloc]; omega))).trans (by go_simp)
    have c13_0_q : W.heap.size < x13.heap.size := by omega
    have c13_1_0 : x13.cell? ⟨W.heap.size + 1, 0, none⟩ = some (.int .i64 K') := (hx13.cell _ _ (by first | omega | (rw [size_alloc]; omega) | (rw [size_alloc, size_alloc]; omega) | (rw [size_alloc, size_alloc, size_alloc]; omega))).trans (by go_simp)
    have c13_1_1 : x13.cell? ⟨W.heap.size + 1, 1, none⟩ = some (.slice a' n' cap') := (hx13.cell _ _ (by first | omega | (rw [size_alloc]; omega) | (rw [size_alloc, size_alloc]; omega) | (rw [size_alloc, size_alloc, size_alloc]; omega))).trans (by go_simp)
    have c13_1_q : W.heap.size + 1 < x13.heap.size := by omega
    have c13_2_0 : x13.cell? ⟨Z, 0, none⟩ = some (.int .i64 K) := (hx13.cell _ _ (by first | omega | (rw [size_alloc]; omega) | (rw [size_alloc, size_alloc]; omega) | (rw [size_alloc, size_alloc, size_alloc]; omega))).trans (by go_simp)
    have c13_2_1 : x13.cell? ⟨Z, 1, none⟩ = some (.slice a2 n cap2) := (hx13.cell _ _ (by first | omega | (rw [size_alloc]; omega) | (rw [size_alloc, size_alloc]; omega) | (rw [size_alloc, size_alloc, size_alloc]; omega))).trans (by go_simp)
    have c13_2_q : Z < x13.heap.size := by omega
    have c13_3_0 : x13.cell? ⟨x7.heap.size, 0, none⟩ = some (.int .i64 KX) := (hx13.cell _ _ (by first | omega | (rw [size_alloc]; omega) | (rw [size_alloc, size_alloc]; omega) | (rw [size_alloc, size_alloc, size_alloc]; omega))).trans (by go_simp)
    have c13_3_1 : x13.cell? ⟨x7.heap.size, 1, none⟩ = some (.slice a3 n3 cap3) := (hx13.cell _ _ (by first | omega | (rw [size_alloc]; omega) | (rw [size_alloc, size_alloc]; omega) | (rw [size_alloc, size_alloc, size_alloc]; omega))).trans (by go_simp)
    have c13_3_q : x7.heap.size < x13.heap.size := by omega
    replace HU := Lib.hid ((HU.out).trans hx13)
    replace HA := Lib.hid ((HA.out.up (Up.refl _)).up hx13)
    replace HB := Lib.hid ((HB.out.up (Up.refl _)).up hx13)
    replace HE := Lib.hid ((HE.out.up (Up.refl _)).up hx13)
    replace HM1 := Lib.hid ((HM1.out.up (Up.refl _)).up hx13)
    replace HM3 := Lib.hid ((HM3.out.up (Up.refl _)).up hx13)
    replace HW := Lib.hid ((HW.out.up (Up.refl _)).up hx13)
    clear c12_0_0 c12_0_1 c12_0_q c12_1_0 c12_1_1 c12_1_q c12_2_0 c12_2_1 c12_2_q c12_3_0 c12_3_1 c12_3_q
    clear hx13
    try dsimp only
    go_wp2_with fail
    refine (law05_alive _).mono ?_
    rintro e z ⟨rfl, hz⟩
    go_wp2
    go_ret
    exact ⟨rfl, HU.out.trans hz⟩
end Go.Proofs.Ytpclbgaaoednnaa.linSubstEvals
