/-
  examples of the statements return true.
-/
import Derived.Test.YtahlecmlhdikjaaDoorGi

import Derived.Test.YtahlecmlhdikjaaDoorCoNm
import Derived.Test.YtahlecmlhdikjaaDoorCoFl
import Derived.Test.YtahlecmlhdikjaaDoorMd
namespace Go.Proofs.YtahlecmlhdikjaaDoor
open Go.ChangeShapes Go.WideShapes Go.ChangeAt Go.RowKit
set_option linter.unusedVariables false
set_option linter.unusedSimpArgs false
set_option maxRecDepth 100000

theorem ex_t1 : tightF (-3, formL 2 4, false) = ((-2, formL 1 2, false), 0, 0) := by decide +kernel
theorem ex_t2 : tightF (-3, formL 2 0, true) = ((-1, [], false), 2, 0) := by decide +kernel
theorem ex_n : negF (-3, formL 1 0, false) = ([(2, formL (-1) 0, false)], 0) := by decide +kernel
theorem ex_k : normF [(0, formL 1 0, false), (-2, formL 1 0, false)] = ([(-2, formL 1 0, false)], true, 0) := by decide +kernel
theorem ex_f : fmtF (-3, formL 1 0, true) = [48, 32, 61, 61, 32, 105, 32, 45, 32, 51] := by
  have h : okL (formL 1 0) = true := by decide +kernel
  have d : dec 3 = [51] := by unfold dec; rw [Lib.decDigits]; rfl
  unfold fmtF formatF
  rw [h]
  simp only [if_true]
  have e : formatL (formL 1 0) = [105] := by
    show termT [] 1 [105] = [105]
    unfold termT signT numT; rfl
  have e2 : termT [105] (-3) [] = [105, 32, 45, 32, 51] := by
    unfold termT signT numT
    have hm : mag (-3) = 3 := rfl
    rw [hm, d]; rfl
  rw [e, if_pos (by decide), e2]; rfl

def exM (f : FuncId) (args : Array Value) (v : Value) (x : World) : Prop :=
  (f = 34 → ∃ lv k a b, v = .agg #[.int .i64 k, lv] ∧ args = #[.int .i64 k, .int .i64 a, .int .i64 b] ∧ Part x lv (formL a b)) ∧ (f = 17 → v = .bool true) ∧ (f = 26 → v = .string ⟨#[48, 32, 61, 61, 32, 105, 32, 45, 32, 51]⟩)
theorem exM_up (f : FuncId) (args : Array Value) (v : Value) (x y : World) (h : exM f args v x) (u : Up x y) : exM f args v y :=
  ⟨fun e => let ⟨lv, k, a, b, h1, h2, h3⟩ := h.1 e; ⟨lv, k, a, b, h1, h2, h3.up u⟩, h.2.1, h.2.2⟩
theorem exM_form (k a b : Int) (ha : In64 a) (hb : In64 b) (x : World) : Calls Tryd.prog 34 #[.int .i64 k, .int .i64 a, .int .i64 b] x fun e x' => ∃ v, e = .returned v ∧ Up x x' ∧ exM 34 #[.int .i64 k, .int .i64 a, .int .i64 b] v x' :=
  (law_form k a b x ha hb).mono fun e x' ⟨⟨lv, h1, h2⟩, h3⟩ => ⟨_, h1, h3, fun _ => ⟨lv, k, a, b, rfl, rfl, h2⟩, fun e => absurd e (by decide), fun e => absurd e (by decide)⟩
theorem exM_con (A B : Value) (x : World) (h : Calls Tryd.prog 17 #[A, B] x fun e w' => e = .returned (.bool true) ∧ Up x w') : Calls Tryd.prog 17 #[A, B] x fun e x' => ∃ v, e = .returned v ∧ Up x x' ∧ exM 17 #[A, B] v x' :=
  h.mono fun e x' ⟨h1, h3⟩ => ⟨_, h1, h3, fun e => absurd e (by decide), fun _ => rfl, fun e => absurd e (by decide)⟩
theorem exM_fmt (A : Value) (x : World) (h : Calls Tryd.prog 26 #[A] x fun e w' => e = .returned (.string ⟨#[48, 32, 61, 61, 32, 105, 32, 45, 32, 51]⟩) ∧ Up x w') : Calls Tryd.prog 26 #[A] x fun e x' => ∃ v, e = .returned v ∧ Up x x' ∧ exM 26 #[A] v x' :=
  h.mono fun e x' ⟨h1, h3⟩ => ⟨_, h1, h3, fun e => absurd e (by decide), fun e => absurd e (by decide), fun _ => rfl⟩
theorem in64s (n : Int) (h : -1000 ≤ n ∧ n ≤ 1000 := by decide) : In64 n := ⟨by omega, by omega⟩

set_option maxHeartbeats 8000000 in
theorem law_examples (w : World) : Calls Tryd.prog 14 #[] w fun e w' => e = .returned (.bool true) ∧ Up w w' := by
  have HFO : Hid (∀ k a b w, In64 a → In64 b → Calls Tryd.prog 34 #[.int .i64 k, .int .i64 a, .int .i64 b] w (FormV w k (formL a b))) := Lib.hid fun k a b w ha hb => law_form k a b w ha hb
  have HT1 : Hid (∀ w lv, Part w lv (formL 2 4) → Calls Tryd.prog 15 #[.agg #[.int .i64 (-3), lv, .bool false]] w (TightR w ((-2, formL 1 2, false), 0, 0))) := Lib.hid fun w lv h => ex_t1 ▸ con_Tighten (-3) lv _ false w h (in64s _) (by decide)
  have HT2 : Hid (∀ w lv, Part w lv (formL 2 0) → Calls Tryd.prog 15 #[.agg #[.int .i64 (-3), lv, .bool true]] w (TightR w ((-1, [], false), 2, 0))) := Lib.hid fun w lv h => ex_t2 ▸ con_Tighten (-3) lv _ true w h (in64s _) (by decide)
  have HNE : Hid (∀ w lv, Part w lv (formL 1 0) → Calls Tryd.prog 20 #[.agg #[.int .i64 (-3), lv, .bool false]] w (ConsErr w ([(2, formL (-1) 0, false)], 0))) := Lib.hid fun w lv h => ex_n ▸ con_Negate (-3) lv _ false w h (in64s _) (by decide)
  have HNO : Hid (∀ w v, ConsAt w v [(0, formL 1 0, false), (-2, formL 1 0, false)] → Calls Tryd.prog 23 #[v] w (NormR w ([(-2, formL 1 0, false)], true, 0))) := Lib.hid fun w v h => ex_k ▸ con_Normalize v _ w h (by decide) (by decide)
  go_enter Tryd.func14, Tryd.ntmps14
  go_wp2_with fail
  refine (HFO.out _ _ _ _ (in64s _) (in64s _)).mono ?_
  rintro e x1 ⟨⟨v1, rfl, hp1⟩, hx1⟩
  obtain ⟨a1, c1, rfl⟩ := hp1.1.slice
  have HP1 := Lib.hid hp1
  have HU1 := Lib.hid hx1
  clear hp1 hx1
  go_wp2_with fail
  refine (HT1.out _ _ HP1.out).mono ?_
  rintro e x2 ⟨⟨vA, rfl, hpA, _⟩, hx2⟩
  obtain ⟨aA, cA, rfl⟩ := hpA.1.slice
  have HPA := Lib.hid hpA
  have HU2 := Lib.hid (HU1.out.trans hx2)
  clear hpA hx2 HP1 HU1
  dsimp only at HPA ⊢
  obtain ⟨bA, hbA⟩ : ∃ b, x2.heap.size = b := ⟨_, rfl⟩
  have hal : Up x2 (x2.alloc (.cells #[.int .i64 (-2), .slice aA (formL 1 2).length cA, .bool false] 26)) := (Up.refl x2).alloc _
  have HRA : Hid ((x2.alloc (.cells #[.int .i64 (-2), .slice aA (formL 1 2).length cA, .bool false] 26)).heap[bA]? = some (.cells #[.int .i64 (-2), .slice aA (formL 1 2).length cA, .bool false] 26 (0, 0))) := Lib.hid (hbA ▸ heap_alloc_new x2 _)
  replace HPA := Lib.hid (HPA.out.up hal)
  replace HU2 := Lib.hid (HU2.out.trans hal)
  go_upto_region 2 with fail
  try rw [hbA]
  obtain ⟨y2, hy2⟩ : ∃ y, x2.alloc (.cells #[.int .i64 (-2), .slice aA (formL 1 2).length cA, .bool false] 26) = y := ⟨_, rfl⟩
  rw [hy2] at HRA HPA HU2 hal
  first | rw [hy2] | skip
  clear hy2 hbA hal
  go_wp2_with fail
  refine (HFO.out _ _ _ _ (in64s _) (in64s _)).mono ?_
  rintro e x3 ⟨⟨v3, rfl, hp3⟩, hx3⟩
  obtain ⟨a3, c3, rfl⟩ := hp3.1.slice
  have HP3 := Lib.hid hp3
  have HU3 := Lib.hid (HU2.out.trans hx3)
  replace HPA := Lib.hid (HPA.out.up hx3)
  replace HRA := Lib.hid ((hx3.heap _ (Array.getElem?_eq_some_iff.1 HRA.out).1).trans HRA.out)
  clear hp3 hx3 HU2
  go_wp2_with fail
  refine (HT2.out _ _ HP3.out).mono ?_
  rintro e x4 ⟨⟨vB, rfl, hpB, _⟩, hx4⟩
  obtain ⟨aB, cB, rfl⟩ := hpB.1.slice
  have HPB := Lib.hid hpB
  have HU4 := Lib.hid (HU3.out.trans hx4)
  replace HPA := Lib.hid (HPA.out.up hx4)
  replace HRA := Lib.hid ((hx4.heap _ (Array.getElem?_eq_some_iff.1 HRA.out).1).trans HRA.out)
  clear hpB hx4 HP3 HU3
  dsimp only at HPB ⊢
  obtain ⟨bB, hbB⟩ : ∃ b, x4.heap.size = b := ⟨_, rfl⟩
  have hal : Up x4 (x4.alloc (.cells #[.int .i64 (-1), .slice aB ([] : List Mono).length cB, .bool false] 26)) := (Up.refl x4).alloc _
  have HRB : Hid ((x4.alloc (.cells #[.int .i64 (-1), .slice aB ([] : List Mono).length cB, .bool false] 26)).heap[bB]? = some (.cells #[.int .i64 (-1), .slice aB ([] : List Mono).length cB, .bool false] 26 (0, 0))) := Lib.hid (hbB ▸ heap_alloc_new x4 _)
  replace HPB := Lib.hid (HPB.out.up hal)
  replace HPA := Lib.hid (HPA.out.up hal)
  replace HRA := Lib.hid ((hal.heap _ (Array.getElem?_eq_some_iff.1 HRA.out).1).trans HRA.out)
  replace HU4 := Lib.hid (HU4.out.trans hal)
  go_upto_region 3 with fail
  try rw [hbB]
  obtain ⟨y4, hy4⟩ : ∃ y, x4.alloc (.cells #[.int .i64 (-1), .slice aB ([] : List Mono).length cB, .bool false] 26) = y := ⟨_, rfl⟩
  rw [hy4] at HRA HPA HRB HPB HU4 hal
  first | rw [hy4] | (simp only [List.length_nil] at hy4 ⊢; rw [hy4]) | skip
  clear hy4 hbB hal
  go_wp2_with fail
  refine (HFO.out _ _ _ _ (in64s _) (in64s _)).mono ?_
  rintro e x5 ⟨⟨v5, rfl, hp5⟩, hx5⟩
  obtain ⟨a5, c5, rfl⟩ := hp5.1.slice
  have HP5 := Lib.hid hp5
  have HU5 := Lib.hid (HU4.out.trans hx5)
  replace HPA := Lib.hid (HPA.out.up hx5)
  replace HPB := Lib.hid (HPB.out.up hx5)
  replace HRA := Lib.hid ((hx5.heap _ (Array.getElem?_eq_some_iff.1 HRA.out).1).trans HRA.out)
  replace HRB := Lib.hid ((hx5.heap _ (Array.getElem?_eq_some_iff.1 HRB.out).1).trans HRB.out)
  clear hp5 hx5 HU4
  go_wp2_with fail
  refine (HNE.out _ _ HP5.out).mono ?_
  rintro e x6 ⟨⟨vL, rfl, hcL⟩, hx6⟩
  have HCL := Lib.hid hcL
  have HU6 := Lib.hid (HU5.out.trans hx6)
  replace HPA := Lib.hid (HPA.out.up hx6)
  replace HPB := Lib.hid (HPB.out.up hx6)
  replace HRA := Lib.hid ((hx6.heap _ (Array.getElem?_eq_some_iff.1 HRA.out).1).trans HRA.out)
  replace HRB := Lib.hid ((hx6.heap _ (Array.getElem?_eq_some_iff.1 HRB.out).1).trans HRB.out)
  obtain ⟨⟨aL, cL, hvL⟩, _⟩ := hcL.slice
  dsimp only at hvL
  obtain rfl := hvL
  clear hcL hx6 HP5 HU5
  go_wp2_with fail
  refine (HFO.out _ _ _ _ (in64s _) (in64s _)).mono ?_
  rintro e x7 ⟨⟨v7, rfl, hp7⟩, hx7⟩
  obtain ⟨a7, c7, rfl⟩ := hp7.1.slice
  have HP7 := Lib.hid hp7
  have HU7 := Lib.hid (HU6.out.trans hx7)
  replace HPA := Lib.hid (HPA.out.up hx7)
  replace HPB := Lib.hid (HPB.out.up hx7)
  replace HCL := Lib.hid (HCL.out.up hx7)
  replace HRA := Lib.hid ((hx7.heap _ (Array.getElem?_eq_some_iff.1 HRA.out).1).trans HRA.out)
  replace HRB := Lib.hid ((hx7.heap _ (Array.getElem?_eq_some_iff.1 HRB.out).1).trans HRB.out)
  clear hp7 hx7 HU6
  go_wp2_with fail
  refine (HFO.out _ _ _ _ (in64s _) (in64s _)).mono ?_
  rintro e x8 ⟨⟨v8, rfl, hp8⟩, hx8⟩
  obtain ⟨a8, c8, rfl⟩ := hp8.1.slice
  have HP8 := Lib.hid hp8
  have HU8 := Lib.hid (HU7.out.trans hx8)
  replace HP7 := Lib.hid (HP7.out.up hx8)
  replace HPA := Lib.hid (HPA.out.up hx8)
  replace HPB := Lib.hid (HPB.out.up hx8)
  replace HCL := Lib.hid (HCL.out.up hx8)
  replace HRA := Lib.hid ((hx8.heap _ (Array.getElem?_eq_some_iff.1 HRA.out).1).trans HRA.out)
  replace HRB := Lib.hid ((hx8.heap _ (Array.getElem?_eq_some_iff.1 HRB.out).1).trans HRB.out)
  clear hp8 hx8 HU7
  have HC2 := Lib.hid (cons_two (e := false) (e' := false) 26 HP7.out (in64s 0) HP8.out (in64s (-2)))
  go_wp2_with fail
  refine (HNO.out _ _ HC2.out).mono ?_
  rintro e x9 ⟨⟨vK, rfl, hcK⟩, hx9⟩
  have hx9' := Up.trans ((Up.refl x8).alloc _) hx9
  have HCK := Lib.hid hcK
  have HU9 := Lib.hid (HU8.out.trans hx9')
  replace HPA := Lib.hid (HPA.out.up hx9')
  replace HPB := Lib.hid (HPB.out.up hx9')
  replace HCL := Lib.hid (HCL.out.up hx9')
  replace HRA := Lib.hid ((hx9'.heap _ (Array.getElem?_eq_some_iff.1 HRA.out).1).trans HRA.out)
  replace HRB := Lib.hid ((hx9'.heap _ (Array.getElem?_eq_some_iff.1 HRB.out).1).trans HRB.out)
  obtain ⟨⟨aK, cK, hvK⟩, _⟩ := hcK.slice
  dsimp only at hvK
  obtain rfl := hvK
  clear hcK hx9 hx9' HP7 HP8 HC2 HU8
  dsimp only
  have r0 : x9.cell? ⟨bA, 0, none⟩ = some (.int .i64 (-2)) := cell_of_row _ _ _ _ _ _ HRA.out
  have r1 : x9.cell? ⟨bA, 1, none⟩ = some (.slice aA (formL 1 2).length cA) := cell_of_row _ _ _ _ _ _ HRA.out
  have r2 : x9.cell? ⟨bA, 2, none⟩ = some (.bool false) := cell_of_row _ _ _ _ _ _ HRA.out
  have s0 : x9.cell? ⟨bB, 0, none⟩ = some (.int .i64 (-1)) := cell_of_row _ _ _ _ _ _ HRB.out
  have s1 : x9.cell? ⟨bB, 1, none⟩ = some (.slice aB 0 cB) := cell_of_row _ _ _ _ _ _ HRB.out
  have s2 : x9.cell? ⟨bB, 2, none⟩ = some (.bool false) := cell_of_row _ _ _ _ _ _ HRB.out
  have rz : bA < x9.heap.size := (Array.getElem?_eq_some_iff.1 HRA.out).1
  have sz : bB < x9.heap.size := (Array.getElem?_eq_some_iff.1 HRB.out).1
  obtain ⟨gL, oL, vl, KL, lL, eL, hLa, hLb, hLg, l0, l1, l2, hLp, _⟩ := HCL.out.elem (Up.refl x9) 0 (by decide) rfl rfl
  cases hLg
  subst hLa
  obtain ⟨gK, oK, vk, KK, lK, eK, hKa, hKb, hKg, k0, k1, k2, hKp, _⟩ := HCK.out.elem (Up.refl x9) 0 (by decide) rfl rfl
  cases hKg
  subst hKa
  simp only [Nat.zero_mul, Nat.add_zero] at l0 l1 l2 k0 k1 k2
  obtain ⟨aM, cM, rfl⟩ := hLp.1.slice
  obtain ⟨aN, cN, rfl⟩ := hKp.1.slice
  have HPL := Lib.hid hLp
  have HPK := Lib.hid hKp
  clear hLp hKp HCL HCK HRA HRB HT1 HT2 HNE HNO
  go_upto_region 7 with fail
  refine wp_region_md_all exM (by kernel_rfl) (by kernel_rfl) ?_
  iterate 8 (refine wpMd_quietG antiF_post (by kernel_rfl) ?_; intro S hm hk; clear hm hk; go_big_quiet_step (fail); refine wpQuiet_nil ?_)
  refine wpMd_enterG antiF_post 34 #[.int .i64 (-2), .int .i64 (1), .int .i64 (2)] (exM_up _ _) (by kernel_rfl) (fun x => by go_simp) (fun x hx hd => exM_form (-2) (1) (2) (in64s _) (in64s _) x) ?_
  rintro v ⟨y, hy, hv⟩ S hm hk
  obtain ⟨lv, k, a, b, rfl, hargs, hp⟩ := hv.1 rfl
  cases hargs
  obtain ⟨afa, cfa, rfl⟩ := hp.1.slice
  clear hy hv hp hm
  replace hk := Lib.hid hk
  simp only [Act.put, List.setIfInBounds_toArray, List.set_cons_succ, List.set_cons_zero]
  (refine wpMd_quietG antiF_post (by kernel_rfl) ?_; intro S hm hk2; have HF : Hid (∀ x, S 9 x → _) := Lib.hid (fun x hx => (hk.out x (hk2 x hx { on := 8, ground := Ground.data } (by simp) rfl)).1); clear hm hk2 hk; go_big_quiet_step (fail); refine wpQuiet_nil ?_)
  refine wpMd_enterG antiF_post 17 #[.agg #[.int .i64 (-2), .slice aA (formL 1 2).length cA, .bool false], .agg #[.int .i64 (-2), .slice afa (formL 1 2).length cfa, .bool false]] (exM_up _ _) (by kernel_rfl) (fun x => by go_simp) (fun x hx hd => exM_con _ _ x (by
    have h8 := HF.out x (hd { on := 9, ground := Ground.data } (by simp) rfl)
    obtain ⟨lv', k', a', b', e1, e2, hp'⟩ := h8.1 rfl
    cases e1
    cases e2
    have := base_Con (-2) (-2) _ _ (formL 1 2) (formL 1 2) false false x ((HPA.out).up hx).1 hp'.1
    rw [show conEq (-2, formL 1 2, false) (-2, formL 1 2, false) = true from (conEq_iff _ _).2 rfl] at this
    exact this)) ?_
  rintro v ⟨y, hy, hv⟩ S hm hk
  obtain rfl := hv.2.1 rfl
  clear hy hv hm hk HF
  simp only [Act.put, List.setIfInBounds_toArray, List.set_cons_succ, List.set_cons_zero]
  iterate 3 (refine wpMd_quietG antiF_post (by kernel_rfl) ?_; intro S hm hk; clear hm hk; go_big_quiet_step (fail); refine wpQuiet_nil ?_)
  refine wpMd_enterG antiF_post 34 #[.int .i64 (-1), .int .i64 (0), .int .i64 (0)] (exM_up _ _) (by kernel_rfl) (fun x => by go_simp) (fun x hx hd => exM_form (-1) (0) (0) (in64s _) (in64s _) x) ?_
  rintro v ⟨y, hy, hv⟩ S hm hk
  obtain ⟨lv, k, a, b, rfl, hargs, hp⟩ := hv.1 rfl
  cases hargs
  obtain ⟨afb, cfb, rfl⟩ := hp.1.slice
  clear hy hv hp hm
  replace hk := Lib.hid hk
  simp only [Act.put, List.setIfInBounds_toArray, List.set_cons_succ, List.set_cons_zero]
  (refine wpMd_quietG antiF_post (by kernel_rfl) ?_; intro S hm hk2; have HF : Hid (∀ x, S 15 x → _) := Lib.hid (fun x hx => (hk.out x (hk2 x hx { on := 14, ground := Ground.data } (by simp) rfl)).1); clear hm hk2 hk; go_big_quiet_step (fail); refine wpQuiet_nil ?_)
  refine wpMd_enterG antiF_post 17 #[.agg #[.int .i64 (-1), .slice aB 0 cB, .bool false], .agg #[.int .i64 (-1), .slice afb (formL 0 0).length cfb, .bool false]] (exM_up _ _) (by kernel_rfl) (fun x => by go_simp) (fun x hx hd => exM_con _ _ x (by
    have h8 := HF.out x (hd { on := 15, ground := Ground.data } (by simp) rfl)
    obtain ⟨lv', k', a', b', e1, e2, hp'⟩ := h8.1 rfl
    cases e1
    cases e2
    have := base_Con (-1) (-1) _ _ ([]) (formL 0 0) false false x ((HPB.out).up hx).1 hp'.1
    rw [show conEq (-1, [], false) (-1, formL 0 0, false) = true from (conEq_iff _ _).2 rfl] at this
    exact this)) ?_
  rintro v ⟨y, hy, hv⟩ S hm hk
  obtain rfl := hv.2.1 rfl
  clear hy hv hm hk HF
  simp only [Act.put, List.setIfInBounds_toArray, List.set_cons_succ, List.set_cons_zero]
  iterate 5 (refine wpMd_quietG antiF_post (by kernel_rfl) ?_; intro S hm hk; clear hm hk; go_big_quiet_step (fail); refine wpQuiet_nil ?_)
  refine wpMd_enterG antiF_post 34 #[.int .i64 (2), .int .i64 (-1), .int .i64 (0)] (exM_up _ _) (by kernel_rfl) (fun x => by go_simp) (fun x hx hd => exM_form (2) (-1) (0) (in64s _) (in64s _) x) ?_
  rintro v ⟨y, hy, hv⟩ S hm hk
  obtain ⟨lv, k, a, b, rfl, hargs, hp⟩ := hv.1 rfl
  cases hargs
  obtain ⟨afc, cfc, rfl⟩ := hp.1.slice
  clear hy hv hp hm
  replace hk := Lib.hid hk
  simp only [Act.put, List.setIfInBounds_toArray, List.set_cons_succ, List.set_cons_zero]
  (refine wpMd_quietG antiF_post (by kernel_rfl) ?_; intro S hm hk2; have HF : Hid (∀ x, S 23 x → _) := Lib.hid (fun x hx => (hk.out x (hk2 x hx { on := 22, ground := Ground.data } (by simp) rfl)).1); clear hm hk2 hk; go_big_quiet_step (fail); refine wpQuiet_nil ?_)
  refine wpMd_enterG antiF_post 17 #[.agg #[.int .i64 2, .slice aM (formL (-1) 0).length cM, .bool false], .agg #[.int .i64 2, .slice afc (formL (-1) 0).length cfc, .bool false]] (exM_up _ _) (by kernel_rfl) (fun x => by go_simp) (fun x hx hd => exM_con _ _ x (by
    have h8 := HF.out x (hd { on := 23, ground := Ground.data } (by simp) rfl)
    obtain ⟨lv', k', a', b', e1, e2, hp'⟩ := h8.1 rfl
    cases e1
    cases e2
    have := base_Con (2) (2) _ _ (formL (-1) 0) (formL (-1) 0) false false x ((HPL.out).up hx).1 hp'.1
    rw [show conEq (2, formL (-1) 0, false) (2, formL (-1) 0, false) = true from (conEq_iff _ _).2 rfl] at this
    exact this)) ?_
  rintro v ⟨y, hy, hv⟩ S hm hk
  obtain rfl := hv.2.1 rfl
  clear hy hv hm hk HF
  simp only [Act.put, List.setIfInBounds_toArray, List.set_cons_succ, List.set_cons_zero]
  iterate 5 (refine wpMd_quietG antiF_post (by kernel_rfl) ?_; intro S hm hk; clear hm hk; go_big_quiet_step (fail); refine wpQuiet_nil ?_)
  refine wpMd_enterG antiF_post 34 #[.int .i64 (-2), .int .i64 (1), .int .i64 (0)] (exM_up _ _) (by kernel_rfl) (fun x => by go_simp) (fun x hx hd => exM_form (-2) (1) (0) (in64s _) (in64s _) x) ?_
  rintro v ⟨y, hy, hv⟩ S hm hk
  obtain ⟨lv, k, a, b, rfl, hargs, hp⟩ := hv.1 rfl
  cases hargs
  obtain ⟨afd, cfd, rfl⟩ := hp.1.slice
  clear hy hv hp hm
  replace hk := Lib.hid hk
  simp only [Act.put, List.setIfInBounds_toArray, List.set_cons_succ, List.set_cons_zero]
  (refine wpMd_quietG antiF_post (by kernel_rfl) ?_; intro S hm hk2; have HF : Hid (∀ x, S 31 x → _) := Lib.hid (fun x hx => (hk.out x (hk2 x hx { on := 30, ground := Ground.data } (by simp) rfl)).1); clear hm hk2 hk; go_big_quiet_step (fail); refine wpQuiet_nil ?_)
  refine wpMd_enterG antiF_post 17 #[.agg #[.int .i64 (-2), .slice aN (formL 1 0).length cN, .bool false], .agg #[.int .i64 (-2), .slice afd (formL 1 0).length cfd, .bool false]] (exM_up _ _) (by kernel_rfl) (fun x => by go_simp) (fun x hx hd => exM_con _ _ x (by
    have h8 := HF.out x (hd { on := 31, ground := Ground.data } (by simp) rfl)
    obtain ⟨lv', k', a', b', e1, e2, hp'⟩ := h8.1 rfl
    cases e1
    cases e2
    have := base_Con (-2) (-2) _ _ (formL 1 0) (formL 1 0) false false x ((HPK.out).up hx).1 hp'.1
    rw [show conEq (-2, formL 1 0, false) (-2, formL 1 0, false) = true from (conEq_iff _ _).2 rfl] at this
    exact this)) ?_
  rintro v ⟨y, hy, hv⟩ S hm hk
  obtain rfl := hv.2.1 rfl
  clear hy hv hm hk HF
  simp only [Act.put, List.setIfInBounds_toArray, List.set_cons_succ, List.set_cons_zero]
  iterate 2 (refine wpMd_quietG antiF_post (by kernel_rfl) ?_; intro S hm hk; clear hm hk; go_big_quiet_step (fail); refine wpQuiet_nil ?_)
  refine wpMd_enterG antiF_post 34 #[.int .i64 (-3), .int .i64 (1), .int .i64 (0)] (exM_up _ _) (by kernel_rfl) (fun x => by go_simp) (fun x hx hd => exM_form (-3) (1) (0) (in64s _) (in64s _) x) ?_
  rintro v ⟨y, hy, hv⟩ S hm hk
  obtain ⟨lv, k, a, b, rfl, hargs, hp⟩ := hv.1 rfl
  cases hargs
  obtain ⟨afe, cfe, rfl⟩ := hp.1.slice
  clear hy hv hp hm
  replace hk := Lib.hid hk
  simp only [Act.put, List.setIfInBounds_toArray, List.set_cons_succ, List.set_cons_zero]
  (refine wpMd_quietG antiF_post (by kernel_rfl) ?_; intro S hm hk2; have HF : Hid (∀ x, S 36 x → _) := Lib.hid (fun x hx => (hk.out x (hk2 x hx { on := 35, ground := Ground.data } (by simp) rfl)).1); clear hm hk2 hk; go_big_quiet_step (fail); refine wpQuiet_nil ?_)
  refine wpMd_enterG antiF_post 26 #[.agg #[.int .i64 (-3), .slice afe (formL 1 0).length cfe, .bool true]] (exM_up _ _) (by kernel_rfl) (fun x => by go_simp) (fun x hx hd => exM_fmt _ x (by
    have h8 := HF.out x (hd { on := 36, ground := Ground.data } (by simp) rfl)
    obtain ⟨lv', k', a', b', e1, e2, hp'⟩ := h8.1 rfl
    cases e1
    cases e2
    have := con_Format (-3) _ (formL 1 0) true x hp'.1 (in64s _) hp'.2.1 (by decide) (fun _ n hn y hy => by
      have hn3 : n = 3 := by
        rcases hn with h | ⟨m, hm, h1, h2⟩
        · exact h
        · have : m = (⟨#[105]⟩, 1) := by simpa [formL] using hm
          rw [this] at h1
          exact absurd h1 h2
      subst hn3
      exact (fu_small 3 (by decide) y).mono fun e w' ⟨h1, h2⟩ => ⟨h1, h2 ▸ Up.refl _⟩)
    rw [ex_f] at this
    exact this)) ?_
  rintro v ⟨y, hy, hv⟩ S hm hk
  obtain rfl := hv.2.2 rfl
  clear hy hv hm hk HF
  simp only [Act.put, List.setIfInBounds_toArray, List.set_cons_succ, List.set_cons_zero]
  iterate 3 (refine wpMd_quietG antiF_post (by kernel_rfl) ?_; intro S hm hk; clear hm hk; go_big_quiet_step (fail); refine wpQuiet_nil ?_)
  refine wpMd_nil ?_
  intro z hz hS
  have HZ := Lib.hid (HU9.out.trans hz)
  clear hS hz
  go_wp2
  go_ret
  exact ⟨rfl, HZ.out⟩
end Go.Proofs.YtahlecmlhdikjaaDoor
