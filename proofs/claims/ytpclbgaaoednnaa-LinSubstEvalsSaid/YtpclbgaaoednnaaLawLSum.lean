/-
  LinSumEvals: the walk of the law.
-/
import Derived.Test.YtpclbgaaoednnaaLinQ2
namespace Go.Proofs.Ytpclbgaaoednnaa.linSumEvals
open Go.ChangeShapes Go.WideShapes Go.ChangeAt Go.RowKit
set_option linter.unusedVariables false
set_option linter.unusedSimpArgs false

theorem eqForm_self (K : Int) (l : List Mono) : eqForm K K l l = true := by simp [eqForm, eqM]
theorem eval_ok {K : Int} {l env : List Mono} (h : nearB K = true) (hl : nearAll l = true) (hn : l.length ≤ 40) (ho : okL l = true) (he : nearAll env = true) (h0 : (evalF K l env).2 = 0) :
    ∃ u, sumE env l K = some u ∧ evalF K l env = (u, 0) ∧ -4503599627370496 ≤ u ∧ u ≤ 4503599627370496 := by
  cases hs : sumE env l K with
  | none => rw [eval_none ho hs] at h0; cases h0
  | some u => exact ⟨u, rfl, (eval_near h hl hn ho he hs).1, (eval_near h hl hn ho he hs).2⟩
theorem near_parts {K : Int} {l : List Mono} (h : nearL K l = true) : l.length ≤ 40 ∧ nearB K = true ∧ nearAll l = true := by
  unfold nearL smallB at h
  simp only [Bool.and_eq_true] at h
  exact ⟨of_decide_eq_true h.1.1.1, h.1.2, h.2⟩
theorem nearE_parts {l : List Mono} (h : nearE l = true) : l.length ≤ 40 ∧ nearAll l = true := by
  unfold nearE at h
  simp only [Bool.and_eq_true] at h
  exact ⟨of_decide_eq_true h.1, h.2⟩
theorem near64 {K : Int} (h : nearB K = true) : In64 K := by
  have := (near_iff _).1 h
  unfold In64; omega

/-- What the calls do, where all numbers are small. -/
structure Small (K K' : Int) (l l' env : List Mono) : Prop where
  k : nearB K = true
  k' : nearB K' = true
  a : nearAll l = true
  a' : nearAll l' = true
  n : l.length ≤ 40
  n' : l'.length ≤ 40
  o : okL l = true
  o' : okL l' = true
  e : nearAll env = true

theorem Small.add {K K' : Int} {l l' env : List Mono} (s : Small K K' l l' env) (w : World) (v v' : Value) (hv : MonosAt w v l) (hc : CapOk v) (hv' : MonosAt w v' l') (hc' : CapOk v') :
    Calls Try.prog 24 #[.agg #[.int .i64 K, v], .agg #[.int .i64 K', v']] w fun e w' => LinErr e w' (K + K', sumM l l', 0) ∧ Up w w' := by
  rw [← addF_near s.k s.k' s.a s.a' s.o s.o']
  exact lin_Add K K' v v' l l' w ⟨hv, rng_near s.a, hc⟩ ⟨hv', rng_near s.a', hc'⟩ (near64 s.k) (near64 s.k') (by have := s.n; omega) (by have := s.n'; omega)
theorem Small.add2 {K K' : Int} {l l' env : List Mono} (s : Small K K' l l' env) (w : World) (v v' : Value) (hv : MonosAt w v l) (hc : CapOk v) (hv' : MonosAt w v' l') (hc' : CapOk v') :
    Calls Try.prog 24 #[.agg #[.int .i64 K', v'], .agg #[.int .i64 K, v]] w fun e w' => LinErr e w' (K + K', sumM l l', 0) ∧ Up w w' := by
  have := lin_Add K' K v' v l' l w ⟨hv', rng_near s.a', hc'⟩ ⟨hv, rng_near s.a, hc⟩ (near64 s.k') (near64 s.k) (by have := s.n'; omega) (by have := s.n; omega)
  rw [addF_near s.k' s.k s.a' s.a s.o' s.o, sumM_comm, Int.add_comm] at this
  exact this
theorem Small.neg {K K' : Int} {l l' env : List Mono} (s : Small K K' l l' env) (w : World) (v : Value) (hv : MonosAt w v l) :
    Calls Try.prog 22 #[.agg #[.int .i64 K, v], .int .i64 (-1)] w fun e w' => LinErr e w' (-K, outL (-1) l, 0) ∧ Up w w' := by
  rw [← scaleF_neg s.k s.a s.o]
  exact lin_Scale K (-1) v l w hv (near64 s.k) (rng_near s.a) ⟨by omega, by omega⟩ (by have := s.n; omega)
theorem Small.zero {K K' : Int} {l l' env : List Mono} (s : Small K K' l l' env) (w : World) (v v' : Value) (hv : MonosAt w v l) (hc : CapOk v) (hv' : MonosAt w v' (outL (-1) l)) (hc' : CapOk v') :
    Calls Try.prog 24 #[.agg #[.int .i64 K, v], .agg #[.int .i64 (-K), v']] w fun e w' => LinErr e w' (0, [], 0) ∧ Up w w' := by
  have hlen : (outL (-1) l).length = l.length := by simp [outL]
  have := lin_Add K (-K) v v' l (outL (-1) l) w ⟨hv, rng_near s.a, hc⟩ ⟨hv', rng_near (neg_near l s.a), hc'⟩ (near64 s.k) (near64 (near_neg s.k)) (by have := s.n; omega) (by have := s.n; omega)
  rw [addF_near s.k (near_neg s.k) s.a (neg_near l s.a) s.o (neg_ok l none s.a s.o), neg_sum l s.a, show K + -K = 0 by omega] at this
  exact this
theorem Small.evalA {K K' : Int} {l l' env : List Mono} (s : Small K K' l l' env) (w : World) (v ev : Value) (hv : MonosAt w v l) (he : MonosAt w ev env) :
    Calls Try.prog 20 #[.agg #[.int .i64 K, v], ev] w fun e w' => e = .returned (.tuple #[.int .i64 (evalF K l env).1, .int .i64 (evalF K l env).2]) ∧ Up w w' :=
  lin_Eval K v ev l env w hv he (near64 s.k) (rng_near s.a) (rng_near s.e) (by have := s.n; omega)
theorem Small.evalB {K K' : Int} {l l' env : List Mono} (s : Small K K' l l' env) (w : World) (v ev : Value) (hv : MonosAt w v l') (he : MonosAt w ev env) :
    Calls Try.prog 20 #[.agg #[.int .i64 K', v], ev] w fun e w' => e = .returned (.tuple #[.int .i64 (evalF K' l' env).1, .int .i64 (evalF K' l' env).2]) ∧ Up w w' :=
  lin_Eval K' v ev l' env w hv he (near64 s.k') (rng_near s.a') (rng_near s.e) (by have := s.n'; omega)
theorem Small.evalS {K K' : Int} {l l' env : List Mono} (s : Small K K' l l' env) (w : World) (v ev : Value) (hv : MonosAt w v (sumM l l')) (he : MonosAt w ev env) :
    Calls Try.prog 20 #[.agg #[.int .i64 (K + K'), v], ev] w fun e w' => e = .returned (.tuple #[.int .i64 (evalF (K + K') (sumM l l') env).1, .int .i64 (evalF (K + K') (sumM l l') env).2]) ∧ Up w w' :=
  lin_Eval (K + K') v ev (sumM l l') env w hv he (by have h1 := (near_iff _).1 s.k; have h2 := (near_iff _).1 s.k'; unfold In64; omega) (rng_small (sumM_small l l' s.a s.a')) (rng_near s.e) (by have := sumM_len l l'; have := s.n; have := s.n'; omega)

set_option maxHeartbeats 4000000 in
theorem walk (W : World) {v v' ev : Value} {x x' : Int × List Mono} {env : List Mono} (w0 : LinArg W v x.1 x.2) (w1 : LinArg W v' x'.1 x'.2) (w2 : MonosArg W ev env) :
    Calls Try.prog 8 #[v, v', ev] W fun e w' => e = .returned (.bool true) ∧ Up W w' := by
  obtain ⟨K, l⟩ := x
  obtain ⟨K', l'⟩ := x'
  obtain ⟨lv, rfl, ⟨hm, hrg, hsz, hcp⟩, hK⟩ := w0
  obtain ⟨lv', rfl, ⟨hm', hrg', hsz', hcp'⟩, hK'⟩ := w1
  obtain ⟨hme, hrge, hsze, hcpe⟩ := w2
  dsimp only at hm hm' hK hK'
  have HA := Lib.hid hm
  have HB := Lib.hid hm'
  have HE := Lib.hid hme
  have HCA := Lib.hid hcp
  have HCB := Lib.hid hcp'
  obtain ⟨qa, hqa⟩ : ∃ q, nearL K l = q := ⟨_, rfl⟩
  obtain ⟨qb, hqb⟩ : ∃ q, nearL K' l' = q := ⟨_, rfl⟩
  obtain ⟨qe, hqe⟩ : ∃ q, nearE env = q := ⟨_, rfl⟩
  obtain ⟨oa, hoa⟩ : ∃ q, okL l = q := ⟨_, rfl⟩
  obtain ⟨ob, hob⟩ : ∃ q, okL l' = q := ⟨_, rfl⟩
  have HNA : Hid (∀ w v, MonosAt w v l → Calls Try.prog 28 #[.agg #[.int .i64 K, v]] w fun e w' => e = .returned (.bool qa) ∧ Up w w') := Lib.hid fun w v h => by
    have := law05_nearLin K v l w h
    rw [hqa] at this; exact this
  have HNB : Hid (∀ w v, MonosAt w v l' → Calls Try.prog 28 #[.agg #[.int .i64 K', v]] w fun e w' => e = .returned (.bool qb) ∧ Up w w') := Lib.hid fun w v h => by
    have := law05_nearLin K' v l' w h
    rw [hqb] at this; exact this
  have HNE : Hid (∀ w v, MonosAt w v env → Calls Try.prog 29 #[v] w fun e w' => e = .returned (.bool qe) ∧ Up w w') := Lib.hid fun w v h => by
    have := law05_nearEnv v env w h
    rw [hqe] at this; exact this
  have HOA : Hid (∀ w v, MonosAt w v l → Calls Try.prog 30 #[.agg #[.int .i64 K, v]] w fun e w' => e = .returned (.int .i64 (errOf oa)) ∧ Up w w') := Lib.hid fun w v h => by
    have := r05_Validate K v l w h
    rw [hoa] at this; exact this
  have HOB : Hid (∀ w v, MonosAt w v l' → Calls Try.prog 30 #[.agg #[.int .i64 K', v]] w fun e w' => e = .returned (.int .i64 (errOf ob)) ∧ Up w w') := Lib.hid fun w v h => by
    have := r05_Validate K' v l' w h
    rw [hob] at this; exact this
  have HALL : Hid (qa = true → qb = true → qe = true → oa = true → ob = true → Small K K' l l' env) := Lib.hid fun h1 h2 h3 h4 h5 => by
    rw [h1] at hqa; rw [h2] at hqb; rw [h3] at hqe; rw [h4] at hoa; rw [h5] at hob
    obtain ⟨a1, a2, a3⟩ := near_parts hqa
    obtain ⟨b1, b2, b3⟩ := near_parts hqb
    obtain ⟨c1, c2⟩ := nearE_parts hqe
    exact ⟨a2, b2, a3, b3, a1, b1, hoa, hob, c2⟩
  obtain ⟨a, cap, rfl⟩ := hm.slice
  obtain ⟨a', cap', rfl⟩ := hm'.slice
  obtain ⟨ae, cape, rfl⟩ := hme.slice
  obtain ⟨n, hn⟩ : ∃ n, l.length = n := ⟨_, rfl⟩
  obtain ⟨n', hn'⟩ : ∃ n, l'.length = n := ⟨_, rfl⟩
  obtain ⟨ne, hne⟩ : ∃ n, env.length = n := ⟨_, rfl⟩
  rw [hn] at HA HCA ⊢
  rw [hn'] at HB HCB ⊢
  rw [hne] at HE ⊢
  have HU := Lib.hid (Up.refl W)
  clear hm hrg hsz hcp hK hm' hrg' hsz' hcp' hK' hme hrge hsze hcpe hqa hqb hqe hoa hob hn hn' hne
  go_enter Try.func8, Try.ntmps8
  go_wp2_with fail
  refine (HNA.out _ _ (HA.out.up (((Up.refl W).alloc _).alloc _))).mono ?_
  rintro e x1 ⟨rfl, hx1⟩
  have hs1 := hx1.size
  rw [size_alloc, size_alloc] at hs1
  have c1_0_0 : x1.cell? ⟨W.heap.size, 0, none⟩ = some (.int .i64 K) := (hx1.cell _ _ (by first | omega | (rw [size_alloc]; omega) | (rw [size_alloc, size_alloc]; omega) | (rw [size_alloc, size_alloc, size_alloc]; omega))).trans (by go_simp)
  have c1_0_1 : x1.cell? ⟨W.heap.size, 1, none⟩ = some (.slice a n cap) := (hx1.cell _ _ (by first | omega | (rw [size_alloc]; omega) | (rw [size_alloc, size_alloc]; omega) | (rw [size_alloc, size_alloc, size_alloc]; omega))).trans (by go_simp)
  have c1_0_q : W.heap.size < x1.heap.size := by omega
  have c1_1_0 : x1.cell? ⟨W.heap.size + 1, 0, none⟩ = some (.int .i64 K') := (hx1.cell _ _ (by first | omega | (rw [size_alloc]; omega) | (rw [size_alloc, size_alloc]; omega) | (rw [size_alloc, size_alloc, size_alloc]; omega))).trans (by go_simp)
  have c1_1_1 : x1.cell? ⟨W.heap.size + 1, 1, none⟩ = some (.slice a' n' cap') := (hx1.cell _ _ (by first | omega | (rw [size_alloc]; omega) | (rw [size_alloc, size_alloc]; omega) | (rw [size_alloc, size_alloc, size_alloc]; omega))).trans (by go_simp)
  have c1_1_q : W.heap.size + 1 < x1.heap.size := by omega
  replace HU := Lib.hid (((HU.out.alloc _).alloc _).trans hx1)
  replace HA := Lib.hid ((HA.out.up (((Up.refl W).alloc _).alloc _)).up hx1)
  replace HB := Lib.hid ((HB.out.up (((Up.refl W).alloc _).alloc _)).up hx1)
  replace HE := Lib.hid ((HE.out.up (((Up.refl W).alloc _).alloc _)).up hx1)
  clear hx1
  cases qa
  · go_wp2_with fail
    refine (law05_alive _).mono ?_
    rintro e z ⟨rfl, hz⟩
    go_wp2
    go_ret
    exact ⟨rfl, Up.trans (by repeat (first | exact HU.out | refine Up.alloc ?_ _)) hz⟩
  go_wp2_with fail
  refine (HNB.out _ _ (HB.out.up (Up.refl _))).mono ?_
  rintro e x2 ⟨rfl, hx2⟩
  have hs2 := hx2.size
  have c2_0_0 : x2.cell? ⟨W.heap.size, 0, none⟩ = some (.int .i64 K) := (hx2.cell _ _ (by first | omega | (rw [size_alloc]; omega) | (rw [size_alloc, size_alloc]; omega) | (rw [size_alloc, size_alloc, size_alloc]; omega))).trans (by go_simp)
  have c2_0_1 : x2.cell? ⟨W.heap.size, 1, none⟩ = some (.slice a n cap) := (hx2.cell _ _ (by first | omega | (rw [size_alloc]; omega) | (rw [size_alloc, size_alloc]; omega) | (rw [size_alloc, size_alloc, size_alloc]; omega))).trans (by go_simp)
  have c2_0_q : W.heap.size < x2.heap.size := by omega
  have c2_1_0 : x2.cell? ⟨W.heap.size + 1, 0, none⟩ = some (.int .i64 K') := (hx2.cell _ _ (by first | omega | (rw [size_alloc]; omega) | (rw [size_alloc, size_alloc]; omega) | (rw [size_alloc, size_alloc, size_alloc]; omega))).trans (by go_simp)
  have c2_1_1 : x2.cell? ⟨W.heap.size + 1, 1, none⟩ = some (.slice a' n' cap') := (hx2.cell _ _ (by first | omega | (rw [size_alloc]; omega) | (rw [size_alloc, size_alloc]; omega) | (rw [size_alloc, size_alloc, size_alloc]; omega))).trans (by go_simp)
  have c2_1_q : W.heap.size + 1 < x2.heap.size := by omega
  replace HU := Lib.hid ((HU.out).trans hx2)
  replace HA := Lib.hid ((HA.out.up (Up.refl _)).up hx2)
  replace HB := Lib.hid ((HB.out.up (Up.refl _)).up hx2)
  replace HE := Lib.hid ((HE.out.up (Up.refl _)).up hx2)
  clear c1_0_0 c1_0_1 c1_0_q c1_1_0 c1_1_1 c1_1_q
  clear hx2
  cases qb
  · go_wp2_with fail
    refine (law05_alive _).mono ?_
    rintro e z ⟨rfl, hz⟩
    go_wp2
    go_ret
    exact ⟨rfl, Up.trans (by repeat (first | exact HU.out | refine Up.alloc ?_ _)) hz⟩
  go_wp2_with fail
  refine (HNE.out _ _ (HE.out.up (Up.refl _))).mono ?_
  rintro e x3 ⟨rfl, hx3⟩
  have hs3 := hx3.size
  have c3_0_0 : x3.cell? ⟨W.heap.size, 0, none⟩ = some (.int .i64 K) := (hx3.cell _ _ (by first | omega | (rw [size_alloc]; omega) | (rw [size_alloc, size_alloc]; omega) | (rw [size_alloc, size_alloc, size_alloc]; omega))).trans (by go_simp)
  have c3_0_1 : x3.cell? ⟨W.heap.size, 1, none⟩ = some (.slice a n cap) := (hx3.cell _ _ (by first | omega | (rw [size_alloc]; omega) | (rw [size_alloc, size_alloc]; omega) | (rw [size_alloc, size_alloc, size_alloc]; omega))).trans (by go_simp)
  have c3_0_q : W.heap.size < x3.heap.size := by omega
  have c3_1_0 : x3.cell? ⟨W.heap.size + 1, 0, none⟩ = some (.int .i64 K') := (hx3.cell _ _ (by first | omega | (rw [size_alloc]; omega) | (rw [size_alloc, size_alloc]; omega) | (rw [size_alloc, size_alloc, size_alloc]; omega))).trans (by go_simp)
  have c3_1_1 : x3.cell? ⟨W.heap.size + 1, 1, none⟩ = some (.slice a' n' cap') := (hx3.cell _ _ (by first | omega | (rw [size_alloc]; omega) | (rw [size_alloc, size_alloc]; omega) | (rw [size_alloc, size_alloc, size_alloc]; omega))).trans (by go_simp)
  have c3_1_q : W.heap.size + 1 < x3.heap.size := by omega
  replace HU := Lib.hid ((HU.out).trans hx3)
  replace HA := Lib.hid ((HA.out.up (Up.refl _)).up hx3)
  replace HB := Lib.hid ((HB.out.up (Up.refl _)).up hx3)
  replace HE := Lib.hid ((HE.out.up (Up.refl _)).up hx3)
  clear c2_0_0 c2_0_1 c2_0_q c2_1_0 c2_1_1 c2_1_q
  clear hx3
  cases qe
  · go_wp2_with fail
    refine (law05_alive _).mono ?_
    rintro e z ⟨rfl, hz⟩
    go_wp2
    go_ret
    exact ⟨rfl, Up.trans (by repeat (first | exact HU.out | refine Up.alloc ?_ _)) hz⟩
  go_wp2_with fail
  refine (HOA.out _ _ (HA.out.up (Up.refl _))).mono ?_
  rintro e x4 ⟨rfl, hx4⟩
  have hs4 := hx4.size
  have c4_0_0 : x4.cell? ⟨W.heap.size, 0, none⟩ = some (.int .i64 K) := (hx4.cell _ _ (by first | omega | (rw [size_alloc]; omega) | (rw [size_alloc, size_alloc]; omega) | (rw [size_alloc, size_alloc, size_alloc]; omega))).trans (by go_simp)
  have c4_0_1 : x4.cell? ⟨W.heap.size, 1, none⟩ = some (.slice a n cap) := (hx4.cell _ _ (by first | omega | (rw [size_alloc]; omega) | (rw [size_alloc, size_alloc]; omega) | (rw [size_alloc, size_alloc, size_alloc]; omega))).trans (by go_simp)
  have c4_0_q : W.heap.size < x4.heap.size := by omega
  have c4_1_0 : x4.cell? ⟨W.heap.size + 1, 0, none⟩ = some (.int .i64 K') := (hx4.cell _ _ (by first | omega | (rw [size_alloc]; omega) | (rw [size_alloc, size_alloc]; omega) | (rw [size_alloc, size_alloc, size_alloc]; omega))).trans (by go_simp)
  have c4_1_1 : x4.cell? ⟨W.heap.size + 1, 1, none⟩ = some (.slice a' n' cap') := (hx4.cell _ _ (by first | omega | (rw [size_alloc]; omega) | (rw [size_alloc, size_alloc]; omega) | (rw [size_alloc, size_alloc, size_alloc]; omega))).trans (by go_simp)
  have c4_1_q : W.heap.size + 1 < x4.heap.size := by omega
  replace HU := Lib.hid ((HU.out).trans hx4)
  replace HA := Lib.hid ((HA.out.up (Up.refl _)).up hx4)
  replace HB := Lib.hid ((HB.out.up (Up.refl _)).up hx4)
  replace HE := Lib.hid ((HE.out.up (Up.refl _)).up hx4)
  clear c3_0_0 c3_0_1 c3_0_q c3_1_0 c3_1_1 c3_1_q
  clear hx4
  cases oa
  · rw [show errOf false = 1 from rfl]
    go_wp2_with fail
    refine (law05_alive _).mono ?_
    rintro e z ⟨rfl, hz⟩
    go_wp2
    go_ret
    exact ⟨rfl, Up.trans (by repeat (first | exact HU.out | refine Up.alloc ?_ _)) hz⟩
  rw [show errOf true = 0 from rfl]
  go_wp2_with fail
  refine (HOB.out _ _ (HB.out.up (Up.refl _))).mono ?_
  rintro e x5 ⟨rfl, hx5⟩
  have hs5 := hx5.size
  have c5_0_0 : x5.cell? ⟨W.heap.size, 0, none⟩ = some (.int .i64 K) := (hx5.cell _ _ (by first | omega | (rw [size_alloc]; omega) | (rw [size_alloc, size_alloc]; omega) | (rw [size_alloc, size_alloc, size_alloc]; omega))).trans (by go_simp)
  have c5_0_1 : x5.cell? ⟨W.heap.size, 1, none⟩ = some (.slice a n cap) := (hx5.cell _ _ (by first | omega | (rw [size_alloc]; omega) | (rw [size_alloc, size_alloc]; omega) | (rw [size_alloc, size_alloc, size_alloc]; omega))).trans (by go_simp)
  have c5_0_q : W.heap.size < x5.heap.size := by omega
  have c5_1_0 : x5.cell? ⟨W.heap.size + 1, 0, none⟩ = some (.int .i64 K') := (hx5.cell _ _ (by first | omega | (rw [size_alloc]; omega) | (rw [size_alloc, size_alloc]; omega) | (rw [size_alloc, size_alloc, size_alloc]; omega))).trans (by go_simp)
  have c5_1_1 : x5.cell? ⟨W.heap.size + 1, 1, none⟩ = some (.slice a' n' cap') := (hx5.cell _ _ (by first | omega | (rw [size_alloc]; omega) | (rw [size_alloc, size_alloc]; omega) | (rw [size_alloc, size_alloc, size_alloc]; omega))).trans (by go_simp)
  have c5_1_q : W.heap.size + 1 < x5.heap.size := by omega
  replace HU := Lib.hid ((HU.out).trans hx5)
  replace HA := Lib.hid ((HA.out.up (Up.refl _)).up hx5)
  replace HB := Lib.hid ((HB.out.up (Up.refl _)).up hx5)
  replace HE := Lib.hid ((HE.out.up (Up.refl _)).up hx5)
  clear c4_0_0 c4_0_1 c4_0_q c4_1_0 c4_1_1 c4_1_q
  clear hx5
  cases ob
  · rw [show errOf false = 1 from rfl]
    go_wp2_with fail
    refine (law05_alive _).mono ?_
    rintro e z ⟨rfl, hz⟩
    go_wp2
    go_ret
    exact ⟨rfl, Up.trans (by repeat (first | exact HU.out | refine Up.alloc ?_ _)) hz⟩
  rw [show errOf true = 0 from rfl]
  have HS := Lib.hid (HALL.out (by trivial) (by trivial) (by trivial) (by trivial) (by trivial))
  clear HALL HNA HNB HNE HOA HOB
  obtain ⟨KS, hKS⟩ : ∃ x, K + K' = x := ⟨_, rfl⟩
  obtain ⟨ls, hls⟩ : ∃ x, sumM l l' = x := ⟨_, rfl⟩
  obtain ⟨ln, hln⟩ : ∃ x, outL (-1) l = x := ⟨_, rfl⟩
  obtain ⟨Kn, hKn⟩ : ∃ x, -K = x := ⟨_, rfl⟩
  have H1 := Lib.hid HS.out.add
  have H2 := Lib.hid HS.out.add2
  have H3 := Lib.hid HS.out.neg
  have H4 := Lib.hid HS.out.zero
  have H5 := Lib.hid HS.out.evalA
  have H6 := Lib.hid HS.out.evalB
  have H7 := Lib.hid HS.out.evalS
  rw [hKS, hls] at H1 H2 H7
  rw [hKn, hln] at H3 H4
  have HF : Hid (∀ e0 e1, (evalF K l env).2 = e0 → (evalF K' l' env).2 = e1 → e0 = 0 → e1 = 0 → evalF KS ls env = ((evalF K l env).1 + (evalF K' l' env).1, 0) ∧ (-4503599627370496 ≤ (evalF K l env).1 ∧ (evalF K l env).1 ≤ 4503599627370496) ∧ (-4503599627370496 ≤ (evalF K' l' env).1 ∧ (evalF K' l' env).1 ≤ 4503599627370496)) := Lib.hid (fun e0 e1 h0 h1 z0 z1 => by
    have s := HS.out
    obtain ⟨u, p1, p2, p3⟩ := eval_ok s.k s.a s.n s.o s.e (h0.trans z0)
    obtain ⟨u', r1, r2, r3⟩ := eval_ok s.k' s.a' s.n' s.o' s.e (h1.trans z1)
    rw [p2, r2, ← hKS, ← hls]
    exact ⟨eval_sum s.o s.o' p1 r1 p3 r3, p3, r3⟩)
  obtain ⟨u0, e0, hE0⟩ : ∃ u e, evalF K l env = (u, e) := ⟨_, _, rfl⟩
  obtain ⟨u1, e1, hE1⟩ : ∃ u e, evalF K' l' env = (u, e) := ⟨_, _, rfl⟩
  rw [hE0] at H5 HF
  rw [hE1] at H6 HF
  clear hKS hls hln hKn hE0 hE1 HS
  go_wp2_with fail
  refine (H1.out _ _ _ (HA.out.up (Up.refl _)) HCA.out (HB.out.up (Up.refl _)) HCB.out).mono ?_
  rintro e x6 ⟨⟨v1, rfl, hm1, hc1⟩, hx6⟩
  obtain ⟨a1, cap1, rfl⟩ := hm1.slice
  obtain ⟨n1, hn1⟩ : ∃ n, List.length ls = n := ⟨_, rfl⟩
  have HM1 := Lib.hid hm1
  have HC1 := Lib.hid hc1
  try dsimp only at HM1 HC1 hn1
  try simp only [hn1] at HM1 HC1
  try simp only [hn1]
  clear hm1 hc1 hn1
  have hs6 := hx6.size
  have c6_0_0 : x6.cell? ⟨W.heap.size, 0, none⟩ = some (.int .i64 K) := (hx6.cell _ _ (by first | omega | (rw [size_alloc]; omega) | (rw [size_alloc, size_alloc]; omega) | (rw [size_alloc, size_alloc, size_alloc]; omega))).trans (by go_simp)
  have c6_0_1 : x6.cell? ⟨W.heap.size, 1, none⟩ = some (.slice a n cap) := (hx6.cell _ _ (by first | omega | (rw [size_alloc]; omega) | (rw [size_alloc, size_alloc]; omega) | (rw [size_alloc, size_alloc, size_alloc]; omega))).trans (by go_simp)
  have c6_0_q : W.heap.size < x6.heap.size := by omega
  have c6_1_0 : x6.cell? ⟨W.heap.size + 1, 0, none⟩ = some (.int .i64 K') := (hx6.cell _ _ (by first | omega | (rw [size_alloc]; omega) | (rw [size_alloc, size_alloc]; omega) | (rw [size_alloc, size_alloc, size_alloc]; omega))).trans (by go_simp)
  have c6_1_1 : x6.cell? ⟨W.heap.size + 1, 1, none⟩ = some (.slice a' n' cap') := (hx6.cell _ _ (by first | omega | (rw [size_alloc]; omega) | (rw [size_alloc, size_alloc]; omega) | (rw [size_alloc, size_alloc, size_alloc]; omega))).trans (by go_simp)
  have c6_1_q : W.heap.size + 1 < x6.heap.size := by omega
  replace HU := Lib.hid ((HU.out).trans hx6)
  replace HA := Lib.hid ((HA.out.up (Up.refl _)).up hx6)
  replace HB := Lib.hid ((HB.out.up (Up.refl _)).up hx6)
  replace HE := Lib.hid ((HE.out.up (Up.refl _)).up hx6)
  clear c5_0_0 c5_0_1 c5_0_q c5_1_0 c5_1_1 c5_1_q
  clear hx6
  go_wp2_with fail
  refine (H2.out _ _ _ (HA.out.up ((Up.refl x6).alloc _)) HCA.out (HB.out.up ((Up.refl x6).alloc _)) HCB.out).mono ?_
  rintro e x7 ⟨⟨v2, rfl, hm2, hc2⟩, hx7⟩
  obtain ⟨a2, cap2, rfl⟩ := hm2.slice
  obtain ⟨n2, hn2⟩ : ∃ n, List.length ls = n := ⟨_, rfl⟩
  have HM2 := Lib.hid hm2
  have HC2 := Lib.hid hc2
  try dsimp only at HM2 HC2 hn2
  try simp only [hn2] at HM2 HC2
  try simp only [hn2]
  clear hm2 hc2 hn2
  have hs7 := hx7.size
  rw [size_alloc] at hs7
  have c7_0_0 : x7.cell? ⟨W.heap.size, 0, none⟩ = some (.int .i64 K) := (hx7.cell _ _ (by first | omega | (rw [size_alloc]; omega) | (rw [size_alloc, size_alloc]; omega) | (rw [size_alloc, size_alloc, size_alloc]; omega))).trans (by go_simp)
  have c7_0_1 : x7.cell? ⟨W.heap.size, 1, none⟩ = some (.slice a n cap) := (hx7.cell _ _ (by first | omega | (rw [size_alloc]; omega) | (rw [size_alloc, size_alloc]; omega) | (rw [size_alloc, size_alloc, size_alloc]; omega))).trans (by go_simp)
  have c7_0_q : W.heap.size < x7.heap.size := by omega
  have c7_1_0 : x7.cell? ⟨W.heap.size + 1, 0, none⟩ = some (.int .i64 K') := (hx7.cell _ _ (by first | omega | (rw [size_alloc]; omega) | (rw [size_alloc, size_alloc]; omega) | (rw [size_alloc, size_alloc, size_alloc]; omega))).trans (by go_simp)
  have c7_1_1 : x7.cell? ⟨W.heap.size + 1, 1, none⟩ = some (.slice a' n' cap') := (hx7.cell _ _ (by first | omega | (rw [size_alloc]; omega) | (rw [size_alloc, size_alloc]; omega) | (rw [size_alloc, size_alloc, size_alloc]; omega))).trans (by go_simp)
  have c7_1_q : W.heap.size + 1 < x7.heap.size := by omega
  have c7_2_0 : x7.cell? ⟨x6.heap.size, 0, none⟩ = some (.int .i64 KS) := (hx7.cell _ _ (by first | omega | (rw [size_alloc]; omega) | (rw [size_alloc, size_alloc]; omega) | (rw [size_alloc, size_alloc, size_alloc]; omega))).trans (by go_simp)
  have c7_2_1 : x7.cell? ⟨x6.heap.size, 1, none⟩ = some (.slice a1 n1 cap1) := (hx7.cell _ _ (by first | omega | (rw [size_alloc]; omega) | (rw [size_alloc, size_alloc]; omega) | (rw [size_alloc, size_alloc, size_alloc]; omega))).trans (by go_simp)
  have c7_2_q : x6.heap.size < x7.heap.size := by omega
  replace HU := Lib.hid ((HU.out.alloc _).trans hx7)
  replace HA := Lib.hid ((HA.out.up ((Up.refl x6).alloc _)).up hx7)
  replace HB := Lib.hid ((HB.out.up ((Up.refl x6).alloc _)).up hx7)
  replace HE := Lib.hid ((HE.out.up ((Up.refl x6).alloc _)).up hx7)
  replace HM1 := Lib.hid ((HM1.out.up ((Up.refl x6).alloc _)).up hx7)
  clear c6_0_0 c6_0_1 c6_0_q c6_1_0 c6_1_1 c6_1_q
  clear hx7
  go_wp2_with fail
  refine (H3.out _ _ (HA.out.up ((Up.refl x7).alloc _))).mono ?_
  rintro e x8 ⟨⟨v3, rfl, hm3, hc3⟩, hx8⟩
  obtain ⟨a3, cap3, rfl⟩ := hm3.slice
  obtain ⟨n3, hn3⟩ : ∃ n, List.length ln = n := ⟨_, rfl⟩
  have HM3 := Lib.hid hm3
  have HC3 := Lib.hid hc3
  try dsimp only at HM3 HC3 hn3
  try simp only [hn3] at HM3 HC3
  try simp only [hn3]
  clear hm3 hc3 hn3
  have hs8 := hx8.size
  rw [size_alloc] at hs8
  have c8_0_0 : x8.cell? ⟨W.heap.size, 0, none⟩ = some (.int .i64 K) := (hx8.cell _ _ (by first | omega | (rw [size_alloc]; omega) | (rw [size_alloc, size_alloc]; omega) | (rw [size_alloc, size_alloc, size_alloc]; omega))).trans (by go_simp)
  have c8_0_1 : x8.cell? ⟨W.heap.size, 1, none⟩ = some (.slice a n cap) := (hx8.cell _ _ (by first | omega | (rw [size_alloc]; omega) | (rw [size_alloc, size_alloc]; omega) | (rw [size_alloc, size_alloc, size_alloc]; omega))).trans (by go_simp)
  have c8_0_q : W.heap.size < x8.heap.size := by omega
  have c8_1_0 : x8.cell? ⟨W.heap.size + 1, 0, none⟩ = some (.int .i64 K') := (hx8.cell _ _ (by first | omega | (rw [size_alloc]; omega) | (rw [size_alloc, size_alloc]; omega) | (rw [size_alloc, size_alloc, size_alloc]; omega))).trans (by go_simp)
  have c8_1_1 : x8.cell? ⟨W.heap.size + 1, 1, none⟩ = some (.slice a' n' cap') := (hx8.cell _ _ (by first | omega | (rw [size_alloc]; omega) | (rw [size_alloc, size_alloc]; omega) | (rw [size_alloc, size_alloc, size_alloc]; omega))).trans (by go_simp)
  have c8_1_q : W.heap.size + 1 < x8.heap.size := by omega
  have c8_2_0 : x8.cell? ⟨x6.heap.size, 0, none⟩ = some (.int .i64 KS) := (hx8.cell _ _ (by first | omega | (rw [size_alloc]; omega) | (rw [size_alloc, size_alloc]; omega) | (rw [size_alloc, size_alloc, size_alloc]; omega))).trans (by go_simp)
  have c8_2_1 : x8.cell? ⟨x6.heap.size, 1, none⟩ = some (.slice a1 n1 cap1) := (hx8.cell _ _ (by first | omega | (rw [size_alloc]; omega) | (rw [size_alloc, size_alloc]; omega) | (rw [size_alloc, size_alloc, size_alloc]; omega))).trans (by go_simp)
  have c8_2_q : x6.heap.size < x8.heap.size := by omega
  have c8_3_0 : x8.cell? ⟨x7.heap.size, 0, none⟩ = some (.int .i64 KS) := (hx8.cell _ _ (by first | omega | (rw [size_alloc]; omega) | (rw [size_alloc, size_alloc]; omega) | (rw [size_alloc, size_alloc, size_alloc]; omega))).trans (by go_simp)
  have c8_3_1 : x8.cell? ⟨x7.heap.size, 1, none⟩ = some (.slice a2 n2 cap2) := (hx8.cell _ _ (by first | omega | (rw [size_alloc]; omega) | (rw [size_alloc, size_alloc]; omega) | (rw [size_alloc, size_alloc, size_alloc]; omega))).trans (by go_simp)
  have c8_3_q : x7.heap.size < x8.heap.size := by omega
  replace HU := Lib.hid ((HU.out.alloc _).trans hx8)
  replace HA := Lib.hid ((HA.out.up ((Up.refl x7).alloc _)).up hx8)
  replace HB := Lib.hid ((HB.out.up ((Up.refl x7).alloc _)).up hx8)
  replace HE := Lib.hid ((HE.out.up ((Up.refl x7).alloc _)).up hx8)
  replace HM1 := Lib.hid ((HM1.out.up ((Up.refl x7).alloc _)).up hx8)
  replace HM2 := Lib.hid ((HM2.out.up ((Up.refl x7).alloc _)).up hx8)
  clear c7_0_0 c7_0_1 c7_0_q c7_1_0 c7_1_1 c7_1_q c7_2_0 c7_2_1 c7_2_q
  clear hx8
  go_wp2_with fail
  refine (H4.out _ _ _ (HA.out.up ((Up.refl x8).alloc _)) HCA.out (HM3.out.up ((Up.refl x8).alloc _)) HC3.out).mono ?_
  rintro e x9 ⟨⟨v4, rfl, hm4, hc4⟩, hx9⟩
  obtain ⟨a4, cap4, rfl⟩ := hm4.slice
  simp only [List.length_nil]
  have hs9 := hx9.size
  rw [size_alloc] at hs9
  have c9_0_0 : x9.cell? ⟨W.heap.size, 0, none⟩ = some (.int .i64 K) := (hx9.cell _ _ (by first | omega | (rw [size_alloc]; omega) | (rw [size_alloc, size_alloc]; omega) | (rw [size_alloc, size_alloc, size_alloc]; omega))).trans (by go_simp)
  have c9_0_1 : x9.cell? ⟨W.heap.size, 1, none⟩ = some (.slice a n cap) := (hx9.cell _ _ (by first | omega | (rw [size_alloc]; omega) | (rw [size_alloc, size_alloc]; omega) | (rw [size_alloc, size_alloc, size_alloc]; omega))).trans (by go_simp)
  have c9_0_q : W.heap.size < x9.heap.size := by omega
  have c9_1_0 : x9.cell? ⟨W.heap.size + 1, 0, none⟩ = some (.int .i64 K') := (hx9.cell _ _ (by first | omega | (rw [size_alloc]; omega) | (rw [size_alloc, size_alloc]; omega) | (rw [size_alloc, size_alloc, size_alloc]; omega))).trans (by go_simp)
  have c9_1_1 : x9.cell? ⟨W.heap.size + 1, 1, none⟩ = some (.slice a' n' cap') := (hx9.cell _ _ (by first | omega | (rw [size_alloc]; omega) | (rw [size_alloc, size_alloc]; omega) | (rw [size_alloc, size_alloc, size_alloc]; omega))).trans (by go_simp)
  have c9_1_q : W.heap.size + 1 < x9.heap.size := by omega
  have c9_2_0 : x9.cell? ⟨x6.heap.size, 0, none⟩ = some (.int .i64 KS) := (hx9.cell _ _ (by first | omega | (rw [size_alloc]; omega) | (rw [size_alloc, size_alloc]; omega) | (rw [size_alloc, size_alloc, size_alloc]; omega))).trans (by go_simp)
  have c9_2_1 : x9.cell? ⟨x6.heap.size, 1, none⟩ = some (.slice a1 n1 cap1) := (hx9.cell _ _ (by first | omega | (rw [size_alloc]; omega) | (rw [size_alloc, size_alloc]; omega) | (rw [size_alloc, size_alloc, size_alloc]; omega))).trans (by go_simp)
  have c9_2_q : x6.heap.size < x9.heap.size := by omega
  have c9_3_0 : x9.cell? ⟨x7.heap.size, 0, none⟩ = some (.int .i64 KS) := (hx9.cell _ _ (by first | omega | (rw [size_alloc]; omega) | (rw [size_alloc, size_alloc]; omega) | (rw [size_alloc, size_alloc, size_alloc]; omega))).trans (by go_simp)
  have c9_3_1 : x9.cell? ⟨x7.heap.size, 1, none⟩ = some (.slice a2 n2 cap2) := (hx9.cell _ _ (by first | omega | (rw [size_alloc]; omega) | (rw [size_alloc, size_alloc]; omega) | (rw [size_alloc, size_alloc, size_alloc]; omega))).trans (by go_simp)
  have c9_3_q : x7.heap.size < x9.heap.size := by omega
  have c9_4_0 : x9.cell? ⟨x8.heap.size, 0, none⟩ = some (.int .i64 Kn) := (hx9.cell _ _ (by first | omega | (rw [size_alloc]; omega) | (rw [size_alloc, size_alloc]; omega) | (rw [size_alloc, size_alloc, size_alloc]; omega))).trans (by go_simp)
  have c9_4_1 : x9.cell? ⟨x8.heap.size, 1, none⟩ = some (.slice a3 n3 cap3) := (hx9.cell _ _ (by first | omega | (rw [size_alloc]; omega) | (rw [size_alloc, size_alloc]; omega) | (rw [size_alloc, size_alloc, size_alloc]; omega))).trans (by go_simp)
  have c9_4_q : x8.heap.size < x9.heap.size := by omega
  replace HU := Lib.hid ((HU.out.alloc _).trans hx9)
  replace HA := Lib.hid ((HA.out.up ((Up.refl x8).alloc _)).up hx9)
  replace HB := Lib.hid ((HB.out.up ((Up.refl x8).alloc _)).up hx9)
  replace HE := Lib.hid ((HE.out.up ((Up.refl x8).alloc _)).up hx9)
  replace HM1 := Lib.hid ((HM1.out.up ((Up.refl x8).alloc _)).up hx9)
  replace HM2 := Lib.hid ((HM2.out.up ((Up.refl x8).alloc _)).up hx9)
  replace HM3 := Lib.hid ((HM3.out.up ((Up.refl x8).alloc _)).up hx9)
  clear c8_0_0 c8_0_1 c8_0_q c8_1_0 c8_1_1 c8_1_q c8_2_0 c8_2_1 c8_2_q c8_3_0 c8_3_1 c8_3_q
  clear hx9
  go_wp2_with fail
  refine (base_Lin _ _ _ _ ls ls _ (HM1.out.up ((Up.refl x9).alloc _)) (HM2.out.up ((Up.refl x9).alloc _))).mono ?_
  rintro e x10 ⟨rfl, hx10⟩
  rw [eqForm_self]
  have hs10 := hx10.size
  rw [size_alloc] at hs10
  have c10_0_0 : x10.cell? ⟨W.heap.size, 0, none⟩ = some (.int .i64 K) := (hx10.cell _ _ (by first | omega | (rw [size_alloc]; omega) | (rw [size_alloc, size_alloc]; omega) | (rw [size_alloc, size_alloc, size_alloc]; omega))).trans (by go_simp)
  have c10_0_1 : x10.cell? ⟨W.heap.size, 1, none⟩ = some (.slice a n cap) := (hx10.cell _ _ (by first | omega | (rw [size_alloc]; omega) | (rw [size_alloc, size_alloc]; omega) | (rw [size_alloc, size_alloc, size_alloc]; omega))).trans (by go_simp)
  have c10_0_q : W.heap.size < x10.heap.size := by omega
  have c10_1_0 : x10.cell? ⟨W.heap.size + 1, 0, none⟩ = some (.int .i64 K') := (hx10.cell _ _ (by first | omega | (rw [size_alloc]; omega) | (rw [size_alloc, size_alloc]; omega) | (rw [size_alloc, size_alloc, size_alloc]; omega))).trans (by go_simp)
  have c10_1_1 : x10.cell? ⟨W.heap.size + 1, 1, none⟩ = some (.slice a' n' cap') := (hx10.cell _ _ (by first | omega | (rw [size_alloc]; omega) | (rw [size_alloc, size_alloc]; omega) | (rw [size_alloc, size_alloc, size_alloc]; omega))).trans (by go_simp)
  have c10_1_q : W.heap.size + 1 < x10.heap.size := by omega
  have c10_2_0 : x10.cell? ⟨x6.heap.size, 0, none⟩ = some (.int .i64 KS) := (hx10.cell _ _ (by first | omega | (rw [size_alloc]; omega) | (rw [size_alloc, size_alloc]; omega) | (rw [size_alloc, size_alloc, size_alloc]; omega))).trans (by go_simp)
  have c10_2_1 : x10.cell? ⟨x6.heap.size, 1, none⟩ = some (.slice a1 n1 cap1) := (hx10.cell _ _ (by first | omega | (rw [size_alloc]; omega) | (rw [size_alloc, size_alloc]; omega) | (rw [size_alloc, size_alloc, size_alloc]; omega))).trans (by go_simp)
  have c10_2_q : x6.heap.size < x10.heap.size := by omega
  have c10_3_0 : x10.cell? ⟨x7.heap.size, 0, none⟩ = some (.int .i64 KS) := (hx10.cell _ _ (by first | omega | (rw [size_alloc]; omega) | (rw [size_alloc, size_alloc]; omega) | (rw [size_alloc, size_alloc, size_alloc]; omega))).trans (by go_simp)
  have c10_3_1 : x10.cell? ⟨x7.heap.size, 1, none⟩ = some (.slice a2 n2 cap2) := (hx10.cell _ _ (by first | omega | (rw [size_alloc]; omega) | (rw [size_alloc, size_alloc]; omega) | (rw [size_alloc, size_alloc, size_alloc]; omega))).trans (by go_simp)
  have c10_3_q : x7.heap.size < x10.heap.size := by omega
  have c10_4_0 : x10.cell? ⟨x8.heap.size, 0, none⟩ = some (.int .i64 Kn) := (hx10.cell _ _ (by first | omega | (rw [size_alloc]; omega) | (rw [size_alloc, size_alloc]; omega) | (rw [size_alloc, size_alloc, size_alloc]; omega))).trans (by go_simp)
  have c10_4_1 : x10.cell? ⟨x8.heap.size, 1, none⟩ = some (.slice a3 n3 cap3) := (hx10.cell _ _ (by first | omega | (rw [size_alloc]; omega) | (rw [size_alloc, size_alloc]; omega) | (rw [size_alloc, size_alloc, size_alloc]; omega))).trans (by go_simp)
  have c10_4_q : x8.heap.size < x10.heap.size := by omega
  have c10_5_0 : x10.cell? ⟨x9.heap.size, 0, none⟩ = some (.int .i64 0) := (hx10.cell _ _ (by first | omega | (rw [size_alloc]; omega) | (rw [size_alloc, size_alloc]; omega) | (rw [size_alloc, size_alloc, size_alloc]; omega))).trans (by go_simp)
  have c10_5_1 : x10.cell? ⟨x9.heap.size, 1, none⟩ = some (.slice a4 0 cap4) := (hx10.cell _ _ (by first | omega | (rw [size_alloc]; omega) | (rw [size_alloc, size_alloc]; omega) | (rw [size_alloc, size_alloc, size_alloc]; omega))).trans (by go_simp)
  have c10_5_q : x9.heap.size < x10.heap.size := by omega
  replace HU := Lib.hid ((HU.out.alloc _).trans hx10)
  replace HA := Lib.hid ((HA.out.up ((Up.refl x9).alloc _)).up hx10)
  replace HB := Lib.hid ((HB.out.up ((Up.refl x9).alloc _)).up hx10)
  replace HE := Lib.hid ((HE.out.up ((Up.refl x9).alloc _)).up hx10)
  replace HM1 := Lib.hid ((HM1.out.up ((Up.refl x9).alloc _)).up hx10)
  replace HM2 := Lib.hid ((HM2.out.up ((Up.refl x9).alloc _)).up hx10)
  replace HM3 := Lib.hid ((HM3.out.up ((Up.refl x9).alloc _)).up hx10)
  clear c9_0_0 c9_0_1 c9_0_q c9_1_0 c9_1_1 c9_1_q c9_2_0 c9_2_1 c9_2_q c9_3_0 c9_3_1 c9_3_q c9_4_0 c9_4_1 c9_4_q
  clear hx10
  go_wp2_with fail
  refine (H5.out _ _ _ (HA.out.up (Up.refl _)) (HE.out.up (Up.refl _))).mono ?_
  rintro e x11 ⟨rfl, hx11⟩
  have hs11 := hx11.size
  have c11_0_0 : x11.cell? ⟨W.heap.size, 0, none⟩ = some (.int .i64 K) := (hx11.cell _ _ (by first | omega | (rw [size_alloc]; omega) | (rw [size_alloc, size_alloc]; omega) | (rw [size_alloc, size_alloc, size_alloc]; omega))).trans (by go_simp)
  have c11_0_1 : x11.cell? ⟨W.heap.size, 1, none⟩ = some (.slice a n cap) := (hx11.cell _ _ (by first | omega | (rw [size_alloc]; omega) | (rw [size_alloc, size_alloc]; omega) | (rw [size_alloc, size_alloc, size_alloc]; omega))).trans (by go_simp)
  have c11_0_q : W.heap.size < x11.heap.size := by omega
  have c11_1_0 : x11.cell? ⟨W.heap.size + 1, 0, none⟩ = some (.int .i64 K') := (hx11.cell _ _ (by first | omega | (rw [size_alloc]; omega) | (rw [size_alloc, size_alloc]; omega) | (rw [size_alloc, size_alloc, size_alloc]; omega))).trans (by go_simp)
  have c11_1_1 : x11.cell? ⟨W.heap.size + 1, 1, none⟩ = some (.slice a' n' cap') := (hx11.cell _ _ (by first | omega | (rw [size_alloc]; omega) | (rw [size_alloc, size_alloc]; omega) | (rw [size_alloc, size_alloc, size_alloc]; omega))).trans (by go_simp)
  have c11_1_q : W.heap.size + 1 < x11.heap.size := by omega
  have c11_2_0 : x11.cell? ⟨x6.heap.size, 0, none⟩ = some (.int .i64 KS) := (hx11.cell _ _ (by first | omega | (rw [size_alloc]; omega) | (rw [size_alloc, size_alloc]; omega) | (rw [size_alloc, size_alloc, size_alloc]; omega))).trans (by go_simp)
  have c11_2_1 : x11.cell? ⟨x6.heap.size, 1, none⟩ = some (.slice a1 n1 cap1) := (hx11.cell _ _ (by first | omega | (rw [size_alloc]; omega) | (rw [size_alloc, size_alloc]; omega) | (rw [size_alloc, size_alloc, size_alloc]; omega))).trans (by go_simp)
  have c11_2_q : x6.heap.size < x11.heap.size := by omega
  have c11_3_0 : x11.cell? ⟨x7.heap.size, 0, none⟩ = some (.int .i64 KS) := (hx11.cell _ _ (by first | omega | (rw [size_alloc]; omega) | (rw [size_alloc, size_alloc]; omega) | (rw [size_alloc, size_alloc, size_alloc]; omega))).trans (by go_simp)
  have c11_3_1 : x11.cell? ⟨x7.heap.size, 1, none⟩ = some (.slice a2 n2 cap2) := (hx11.cell _ _ (by first | omega | (rw [size_alloc]; omega) | (rw [size_alloc, size_alloc]; omega) | (rw [size_alloc, size_alloc, size_alloc]; omega))).trans (by go_simp)
  have c11_3_q : x7.heap.size < x11.heap.size := by omega
  have c11_4_0 : x11.cell? ⟨x8.heap.size, 0, none⟩ = some (.int .i64 Kn) := (hx11.cell _ _ (by first | omega | (rw [size_alloc]; omega) | (rw [size_alloc, size_alloc]; omega) | (rw [size_alloc, size_alloc, size_alloc]; omega))).trans (by go_simp)
  have c11_4_1 : x11.cell? ⟨x8.heap.size, 1, none⟩ = some (.slice a3 n3 cap3) := (hx11.cell _ _ (by first | omega | (rw [size_alloc]; omega) | (rw [size_alloc, size_alloc]; omega) | (rw [size_alloc, size_alloc, size_alloc]; omega))).trans (by go_simp)
  have c11_4_q : x8.heap.size < x11.heap.size := by omega
  have c11_5_0 : x11.cell? ⟨x9.heap.size, 0, none⟩ = some (.int .i64 0) := (hx11.cell _ _ (by first | omega | (rw [size_alloc]; omega) | (rw [size_alloc, size_alloc]; omega) | (rw [size_alloc, size_alloc, size_alloc]; omega))).trans (by go_simp)
  have c11_5_1 : x11.cell? ⟨x9.heap.size, 1, none⟩ = some (.slice a4 0 cap4) := (hx11.cell _ _ (by first | omega | (rw [size_alloc]; omega) | (rw [size_alloc, size_alloc]; omega) | (rw [size_alloc, size_alloc, size_alloc]; omega))).trans (by go_simp)
  have c11_5_q : x9.heap.size < x11.heap.size := by omega
  replace HU := Lib.hid ((HU.out).trans hx11)
  replace HA := Lib.hid ((HA.out.up (Up.refl _)).up hx11)
  replace HB := Lib.hid ((HB.out.up (Up.refl _)).up hx11)
  replace HE := Lib.hid ((HE.out.up (Up.refl _)).up hx11)
  replace HM1 := Lib.hid ((HM1.out.up (Up.refl _)).up hx11)
  replace HM2 := Lib.hid ((HM2.out.up (Up.refl _)).up hx11)
  replace HM3 := Lib.hid ((HM3.out.up (Up.refl _)).up hx11)
  clear c10_0_0 c10_0_1 c10_0_q c10_1_0 c10_1_1 c10_1_q c10_2_0 c10_2_1 c10_2_q c10_3_0 c10_3_1 c10_3_q c10_4_0 c10_4_1 c10_4_q c10_5_0 c10_5_1 c10_5_q
  clear hx11
  go_wp2_with fail
  refine (H6.out _ _ _ (HB.out.up (Up.refl _)) (HE.out.up (Up.refl _))).mono ?_
  rintro e x12 ⟨rfl, hx12⟩
  have hs12 := hx12.size
  have c12_0_0 : x12.cell? ⟨W.heap.size, 0, none⟩ = some (.int .i64 K) := (hx12.cell _ _ (by first | omega | (rw [size_alloc]; omega) | (rw [size_alloc, size_alloc]; omega) | (rw [size_alloc, size_alloc, size_alloc]; omega))).trans (by go_simp)
  have c12_0_1 : x12.cell? ⟨W.heap.size, 1, none⟩ = some (.slice a n cap) := (hx12.cell _ _ (by first | omega | (rw [size_alloc]; omega) | (rw [size_alloc, size_alloc]; omega) | (rw [size_alloc, size_alloc, size_alloc]; omega))).trans (by go_simp)
  have c12_0_q : W.heap.size < x12.heap.size := by omega
  have c12_1_0 : x12.cell? ⟨W.heap.size + 1, 0, none⟩ = some (.int .i64 K') := (hx12.cell _ _ (by first | omega | (rw [size_alloc]; omega) | (rw [size_alloc, size_alloc]; omega) | (rw [size_alloc, size_alloc, size_alloc]; omega))).trans (by go_simp)
  have c12_1_1 : x12.cell? ⟨W.heap.size + 1, 1, none⟩ = some (.slice a' n' cap') := (hx12.cell _ _ (by first | omega | (rw [size_alloc]; omega) | (rw [size_alloc, size_alloc]; omega) | (rw [size_alloc, size_alloc, size_alloc]; omega))).trans (by go_simp)
  have c12_1_q : W.heap.size + 1 < x12.heap.size := by omega
  have c12_2_0 : x12.cell? ⟨x6.heap.size, 0, none⟩ = some (.int .i64 KS) := (hx12.cell _ _ (by first | omega | (rw [size_alloc]; omega) | (rw [size_alloc, size_alloc]; omega) | (rw [size_alloc, size_alloc, size_alloc]; omega))).trans (by go_simp)
  have c12_2_1 : x12.cell? ⟨x6.heap.size, 1, none⟩ = some (.slice a1 n1 cap1) := (hx12.cell _ _ (by first | omega | (rw [size_alloc]; omega) | (rw [size_alloc, size_alloc]; omega) | (rw [size_alloc, size_alloc, size_alloc]; omega))).trans (by go_simp)
  have c12_2_q : x6.heap.size < x12.heap.size := by omega
  have c12_3_0 : x12.cell? ⟨x7.heap.size, 0, none⟩ = some (.int .i64 KS) := (hx12.cell _ _ (by first | omega | (rw [size_alloc]; omega) | (rw [size_alloc, size_alloc]; omega) | (rw [size_alloc, size_alloc, size_alloc]; omega))).trans (by go_simp)
  have c12_3_1 : x12.cell? ⟨x7.heap.size, 1, none⟩ = some (.slice a2 n2 cap2) := (hx12.cell _ _ (by first | omega | (rw [size_alloc]; omega) | (rw [size_alloc, size_alloc]; omega) | (rw [size_alloc, size_alloc, size_alloc]; omega))).trans (by go_simp)
  have c12_3_q : x7.heap.size < x12.heap.size := by omega
  have c12_4_0 : x12.cell? ⟨x8.heap.size, 0, none⟩ = some (.int .i64 Kn) := (hx12.cell _ _ (by first | omega | (rw [size_alloc]; omega) | (rw [size_alloc, size_alloc]; omega) | (rw [size_alloc, size_alloc, size_alloc]; omega))).trans (by go_simp)
  have c12_4_1 : x12.cell? ⟨x8.heap.size, 1, none⟩ = some (.slice a3 n3 cap3) := (hx12.cell _ _ (by first | omega | (rw [size_alloc]; omega) | (rw [size_alloc, size_alloc]; omega) | (rw [size_alloc, size_alloc, size_alloc]; omega))).trans (by go_simp)
  have c12_4_q : x8.heap.size < x12.heap.size := by omega
  have c12_5_0 : x12.cell? ⟨x9.heap.size, 0, none⟩ = some (.int .i64 0) := (hx12.cell _ _ (by first | omega | (rw [size_alloc]; omega) | (rw [size_alloc, size_alloc]; omega) | (rw [size_alloc, size_alloc, size_alloc]; omega))).trans (by go_simp)
  have c12_5_1 : x12.cell? ⟨x9.heap.size, 1, none⟩ = some (.slice a4 0 cap4) := (hx12.cell _ _ (by first | omega | (rw [size_alloc]; omega) | (rw [size_alloc, size_alloc]; omega) | (rw [size_alloc, size_alloc, size_alloc]; omega))).trans (by go_simp)
  have c12_5_q : x9.heap.size < x12.heap.size := by omega
  replace HU := Lib.hid ((HU.out).trans hx12)
  replace HA := Lib.hid ((HA.out.up (Up.refl _)).up hx12)
  replace HB := Lib.hid ((HB.out.up (Up.refl _)).up hx12)
  replace HE := Lib.hid ((HE.out.up (Up.refl _)).up hx12)
  replace HM1 := Lib.hid ((HM1.out.up (Up.refl _)).up hx12)
  replace HM2 := Lib.hid ((HM2.out.up (Up.refl _)).up hx12)
  replace HM3 := Lib.hid ((HM3.out.up (Up.refl _)).up hx12)
  clear c11_0_0 c11_0_1 c11_0_q c11_1_0 c11_1_1 c11_1_q c11_2_0 c11_2_1 c11_2_q c11_3_0 c11_3_1 c11_3_q c11_4_0 c11_4_1 c11_4_q c11_5_0 c11_5_1 c11_5_q
  clear hx12
  try dsimp only
  by_cases z0 : ¬ e0 = 0
  · have z2 : (e0 == 0) = false := by simpa using z0
    go_wp2_with fail
    refine (law05_alive _).mono ?_
    rintro e z ⟨rfl, hz⟩
    go_wp2
    go_ret
    exact ⟨rfl, Up.trans (by repeat (first | exact HU.out | refine Up.alloc ?_ _)) hz⟩
  replace z0 : e0 = 0 := by omega
  by_cases z1 : ¬ e1 = 0
  · have z2 : (e1 == 0) = false := by simpa using z1
    subst z0
    go_wp2_with fail
    refine (law05_alive _).mono ?_
    rintro e z ⟨rfl, hz⟩
    go_wp2
    go_ret
    exact ⟨rfl, Up.trans (by repeat (first | exact HU.out | refine Up.alloc ?_ _)) hz⟩
  replace z1 : e1 = 0 := by omega
  obtain ⟨f1, ⟨f2, f3⟩, f4, f5⟩ := HF.out e0 e1 rfl rfl z0 z1
  try dsimp only at f1 f2 f3 f4 f5
  rw [f1] at H7
  subst z0 z1
  clear f1 HF
  go_wp2_with fail
  refine (H7.out _ _ _ (HM1.out.up (Up.refl _)) (HE.out.up (Up.refl _))).mono ?_
  rintro e x13 ⟨rfl, hx13⟩
  have hs13 := hx13.size
  have c13_0_0 : x13.cell? ⟨W.heap.size, 0, none⟩ = some (.int .i64 K) := (hx13.cell _ _ (by first | omega | (rw [size_alloc]; omega) | (rw [size_alloc, size_alloc]; omega) | (rw [size_alloc, size_alloc, size_alloc]; omega))).trans (by go_simp)
  have c13_0_1 : x13.cell? ⟨W.heap.size, 1, none⟩ = some (.slice a n cap) := (hx13.cell _ _ (by first | omega | (rw [size_alloc]; omega) | (rw [size_alloc, size_alloc]; omega) | (rw [size_alloc, size_alloc, size_alloc]; omega))).trans (by go_simp)
  have c13_0_q : W.heap.size < x13.heap.size := by omega
  have c13_1_0 : x13.cell? ⟨W.heap.size + 1, 0, none⟩ = some (.int .i64 K') := (hx13.cell _ _ (by first | omega | (rw [size_alloc]; omega) | (rw [size_alloc, size_alloc]; omega) | (rw [size_alloc, size_alloc, size_alloc]; omega))).trans (by go_simp)
  have c13_1_1 : x13.cell? ⟨W.heap.size + 1, 1, none⟩ = some (.slice a' n' cap') := (hx13.cell _ _ (by first | omega | (rw [size_alloc]; omega) | (rw [size_alloc, size_alloc]; omega) | (rw [size_alloc, size_alloc, size_alloc]; omega))).trans (by go_simp)
  have c13_1_q : W.heap.size + 1 < x13.heap.size := by omega
  have c13_2_0 : x13.cell? ⟨x6.heap.size, 0, none⟩ = some (.int .i64 KS) := (hx13.cell _ _ (by first | omega | (rw [size_alloc]; omega) | (rw [size_alloc, size_alloc]; omega) | (rw [size_alloc, size_alloc, size_alloc]; omega))).trans (by go_simp)
  have c13_2_1 : x13.cell? ⟨x6.heap.size, 1, none⟩ = some (.slice a1 n1 cap1) := (hx13.cell _ _ (by first | omega | (rw [size_alloc]; omega) | (rw [size_alloc, size_alloc]; omega) | (rw [size_alloc, size_alloc, size_alloc]; omega))).trans (by go_simp)
  have c13_2_q : x6.heap.size < x13.heap.size := by omega
  have c13_3_0 : x13.cell? ⟨x7.heap.size, 0, none⟩ = some (.int .i64 KS) := (hx13.cell _ _ (by first | omega | (rw [size_alloc]; omega) | (rw [size_alloc, size_alloc]; omega) | (rw [size_alloc, size_alloc, size_alloc]; omega))).trans (by go_simp)
  have c13_3_1 : x13.cell? ⟨x7.heap.size, 1, none⟩ = some (.slice a2 n2 cap2) := (hx13.cell _ _ (by first | omega | (rw [size_alloc]; omega) | (rw [size_alloc, size_alloc]; omega) | (rw [size_alloc, size_alloc, size_alloc]; omega))).trans (by go_simp)
  have c13_3_q : x7.heap.size < x13.heap.size := by omega
  have c13_4_0 : x13.cell? ⟨x8.heap.size, 0, none⟩ = some (.int .i64 Kn) := (hx13.cell _ _ (by first | omega | (rw [size_alloc]; omega) | (rw [size_alloc, size_alloc]; omega) | (rw [size_alloc, size_alloc, size_alloc]; omega))).trans (by go_simp)
  have c13_4_1 : x13.cell? ⟨x8.heap.size, 1, none⟩ = some (.slice a3 n3 cap3) := (hx13.cell _ _ (by first | omega | (rw [size_alloc]; omega) | (rw [size_alloc, size_alloc]; omega) | (rw [size_alloc, size_alloc, size_alloc]; omega))).trans (by go_simp)
  have c13_4_q : x8.heap.size < x13.heap.size := by omega
  have c13_5_0 : x13.cell? ⟨x9.heap.size, 0, none⟩ = some (.int .i64 0) := (hx13.cell _ _ (by first | omega | (rw [size_alloc]; omega) | (rw [size_alloc, size_alloc]; omega) | (rw [size_alloc, size_alloc, size_alloc]; omega))).trans (by go_simp)
  have c13_5_1 : x13.cell? ⟨x9.heap.size, 1, none⟩ = some (.slice a4 0 cap4) := (hx13.cell _ _ (by first | omega | (rw [size_alloc]; omega) | (rw [size_alloc, size_alloc]; omega) | (rw [size_alloc, size_alloc, size_alloc]; omega))).trans (by go_simp)
  have c13_5_q : x9.heap.size < x13.heap.size := by omega
  replace HU := Lib.hid ((HU.out).trans hx13)
  replace HA := Lib.hid ((HA.out.up (Up.refl _)).up hx13)
  replace HB := Lib.hid ((HB.out.up (Up.refl _)).up hx13)
  replace HE := Lib.hid ((HE.out.up (Up.refl _)).up hx13)
  replace HM1 := Lib.hid ((HM1.out.up (Up.refl _)).up hx13)
  replace HM2 := Lib.hid ((HM2.out.up (Up.refl _)).up hx13)
  replace HM3 := Lib.hid ((HM3.out.up (Up.refl _)).up hx13)
  clear c12_0_0 c12_0_1 c12_0_q c12_1_0 c12_1_1 c12_1_q c12_2_0 c12_2_1 c12_2_q c12_3_0 c12_3_1 c12_3_q c12_4_0 c12_4_1 c12_4_q c12_5_0 c12_5_1 c12_5_q
  clear hx13
  try dsimp only
  go_wp2_with fail
  refine (law05_alive _).mono ?_
  rintro e z ⟨rfl, hz⟩
  go_wp2
  go_ret
  exact ⟨rfl, HU.out.trans hz⟩
end Go.Proofs.Ytpclbgaaoednnaa.linSumEvals
