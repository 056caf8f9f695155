/-
  FixedError: the walk of the law. Printed by mk03l.py.
-/
import Derived.Test.YtknojjmbhbbcmaaFixH
import Derived.Test.YtknojjmbhbbcmaaFixX
import Derived.Test.YtknojjmbhbbcmaaOpenTy
import Derived.Test.YtknojjmbhbbcmaaOpenVal
namespace Go.Proofs.Ytknojjmbhbbcmaa.fixedError
open Go.ChangeShapes Go.WideShapes Go.ChangeAt Go.RowKit
set_option linter.unusedVariables false
set_option linter.unusedSimpArgs false

set_option maxHeartbeats 8000000 in
set_option maxRecDepth 100000 in
theorem walk (W : World) {v0 v1 : Value} (w0 : IsTy v0) (w1 : IsVal v1) :
    Calls Try.prog 5 #[v0, v1] W fun e w' => e = .returned (.bool true) ∧ Up W w' := by
  revert W
  intro w
  obtain ⟨k, b, f, r, o, rfl⟩ := w0
  obtain ⟨n, d, rfl, na, nb, nc, nd⟩ := w1
  obtain ⟨vv, hvv⟩ : ∃ vv, vT k b f r o = vv := ⟨_, rfl⟩
  have HV := Lib.hid hvv
  clear hvv
  obtain ⟨u1, h1⟩ : ∃ u, validF n d = u := ⟨_, rfl⟩
  have H1 := Lib.hid h1
  cases vv
  · have HE : Hid (eT k b f r o = 10) := Lib.hid (by rw [eT, HV.out]; rfl)
    clear h1
    go_enter Try.func5, Try.ntmps5
    go_wp2_with fail
    refine (ref03_ValidateType _ _ _ _ _ _ HE.out _).mono ?_
    rintro e1 x1 ⟨rfl, hW⟩
    obtain ⟨hc, hf⟩ := hW.both
    have HW := Lib.hid hW
    clear hW
    go_wp2_with fail
    refine (law03_examples _).mono ?_
    rintro e2 x2 ⟨rfl, hx⟩
    replace HW := Lib.hid (HW.out.trans hx)
    clear hc hf hx
    obtain ⟨hc, hf⟩ := HW.out.both
    go_wp2
    go_ret
    exact ⟨rfl, (by repeat (first | exact Up.trans (by repeat (first | exact Up.refl _ | refine Up.alloc ?_ _)) HW.out | refine Up.setCell ?_ (by first | omega | (simp; done) | (simp; omega)) _ | refine Up.alloc ?_ _))⟩
  have HE : Hid (eT k b f r o = 0) := Lib.hid (eT_zero.2 HV.out)
  obtain ⟨rfl, s1, s2, s3, s4, s5, s6, s7⟩ := vT_spec HV.out
  have HO := Lib.hid s7
  clear s7
  cases u1
  · clear h1
    go_enter Try.func5, Try.ntmps5
    go_wp2_with fail
    refine (ref03_ValidateType _ _ _ _ _ _ HE.out _).mono ?_
    rintro e1 x1 ⟨rfl, hW⟩
    obtain ⟨hc, hf⟩ := hW.both
    have HW := Lib.hid hW
    clear hW
    go_wp2_with fail
    refine (law03_fraction n d false H1.out na nb _).mono ?_
    rintro e2 x2 ⟨rfl, hx⟩
    replace HW := Lib.hid (HW.out.trans hx)
    clear hc hf hx
    obtain ⟨hc, hf⟩ := HW.out.both
    go_wp2_with fail
    refine (law03_examples _).mono ?_
    rintro e3 x3 ⟨rfl, hx⟩
    replace HW := Lib.hid (HW.out.trans hx)
    clear hc hf hx
    obtain ⟨hc, hf⟩ := HW.out.both
    go_wp2
    go_ret
    exact ⟨rfl, (by repeat (first | exact Up.trans (by repeat (first | exact Up.refl _ | refine Up.alloc ?_ _)) HW.out | refine Up.setCell ?_ (by first | omega | (simp; done) | (simp; omega)) _ | refine Up.alloc ?_ _))⟩
  obtain ⟨q0, q1, q2, q3, q4, q5, q6⟩ := quantR_ok h1 s3 s4 s5 s6
  obtain ⟨N, hN⟩ : ∃ N, n * 2 ^ f.toNat = N := ⟨_, rfl⟩
  rw [hN] at q0 q1 q2 q5 q6
  obtain ⟨q, hq⟩ : ∃ q, N / d + rcorr N d r = q := ⟨_, rfl⟩
  obtain ⟨lo, hlo⟩ : ∃ x, N / d = x := ⟨_, rfl⟩
  obtain ⟨hi, hhi⟩ : ∃ x, N / d + rcorr N d 2 = x := ⟨_, rfl⟩
  obtain ⟨QD, hQD⟩ : ∃ x, q * d = x := ⟨_, rfl⟩
  obtain ⟨O, hO⟩ : ∃ x, QD - N = x := ⟨_, rfl⟩
  obtain ⟨g1, g2, g3, g4, HLO⟩ := err_law2 q3 s5 s6 hq hQD hO hlo hhi
  have HHI := Lib.hid hhi
  rw [hq] at q5 q6
  obtain ⟨m, hm⟩ : ∃ m, fitN q b o = m := ⟨_, rfl⟩
  have HR : Hid (fromR 2 b f r o n d = (m, 1, 0)) := Lib.hid (by rw [fromR, if_neg (by rw [HV.out]; simp), if_neg (by rw [h1]; simp), hN, hq, hm])
  have HM := Lib.hid hm
  obtain ⟨p1, p2⟩ := pow_bd b s1 s2
  obtain ⟨pf1, pf2⟩ := pow30 f s3 s4
  have hM1 : Hid (isMode 1 = true) := Lib.hid rfl
  have hM2 : Hid (isMode 2 = true) := Lib.hid rfl
  clear h1 q0 hq hlo hhi hm
  by_cases k1 : lo < -2 ^ (b.toNat - 1)
  · clear hQD hO g1 g2 g3 g4
    go_enter Try.func5, Try.ntmps5
    go_wp2_with fail
    refine (ref03_ValidateType _ _ _ _ _ _ HE.out _).mono ?_
    rintro e1 x1 ⟨rfl, hx⟩
    have hsz := hx.size
    try simp at hsz
    have hz1_0 : w.heap.size < x1.heap.size := by omega
    have c1_0_0 : x1.cell? ⟨w.heap.size, 0, none⟩ = some (Value.int .i64 2) := (hx.cell _ _ (by first | omega | (simp; done) | (simp; omega))).trans (by go_simp)
    have c1_0_1 : x1.cell? ⟨w.heap.size, 1, none⟩ = some (Value.int .i64 b) := (hx.cell _ _ (by first | omega | (simp; done) | (simp; omega))).trans (by go_simp)
    have c1_0_2 : x1.cell? ⟨w.heap.size, 2, none⟩ = some (Value.int .i64 f) := (hx.cell _ _ (by first | omega | (simp; done) | (simp; omega))).trans (by go_simp)
    have c1_0_3 : x1.cell? ⟨w.heap.size, 3, none⟩ = some (Value.int .i64 r) := (hx.cell _ _ (by first | omega | (simp; done) | (simp; omega))).trans (by go_simp)
    have c1_0_4 : x1.cell? ⟨w.heap.size, 4, none⟩ = some (Value.int .i64 o) := (hx.cell _ _ (by first | omega | (simp; done) | (simp; omega))).trans (by go_simp)
    have f1_0 : ∀ o, x1.frozen? ⟨w.heap.size, o, none⟩ = false := fun o => (hx.frozen _ _ (by first | omega | (simp; done) | (simp; omega))).trans (by go_simp)
    have hz1_1 : w.heap.size + 1 < x1.heap.size := by omega
    have c1_1_0 : x1.cell? ⟨w.heap.size + 1, 0, none⟩ = some (Value.int .i64 n) := (hx.cell _ _ (by first | omega | (simp; done) | (simp; omega))).trans (by go_simp)
    have c1_1_1 : x1.cell? ⟨w.heap.size + 1, 1, none⟩ = some (Value.int .i64 d) := (hx.cell _ _ (by first | omega | (simp; done) | (simp; omega))).trans (by go_simp)
    have f1_1 : ∀ o, x1.frozen? ⟨w.heap.size + 1, o, none⟩ = false := fun o => (hx.frozen _ _ (by first | omega | (simp; done) | (simp; omega))).trans (by go_simp)
    have HU := Lib.hid (Up.trans (by repeat (first | exact Up.refl _ | refine Up.alloc ?_ _)) hx : Up w x1)
    clear hx hsz
    go_wp2_with fail
    refine (law03_fraction n d true H1.out na nb _).mono ?_
    rintro e2 x2 ⟨rfl, hx⟩
    have hsz := hx.size
    try simp at hsz
    have hz2_0 : w.heap.size < x2.heap.size := by omega
    have c2_0_0 : x2.cell? ⟨w.heap.size, 0, none⟩ = some (Value.int .i64 2) := (hx.cell _ _ (by first | omega | (simp; done) | (simp; omega))).trans (by go_simp)
    have c2_0_1 : x2.cell? ⟨w.heap.size, 1, none⟩ = some (Value.int .i64 b) := (hx.cell _ _ (by first | omega | (simp; done) | (simp; omega))).trans (by go_simp)
    have c2_0_2 : x2.cell? ⟨w.heap.size, 2, none⟩ = some (Value.int .i64 f) := (hx.cell _ _ (by first | omega | (simp; done) | (simp; omega))).trans (by go_simp)
    have c2_0_3 : x2.cell? ⟨w.heap.size, 3, none⟩ = some (Value.int .i64 r) := (hx.cell _ _ (by first | omega | (simp; done) | (simp; omega))).trans (by go_simp)
    have c2_0_4 : x2.cell? ⟨w.heap.size, 4, none⟩ = some (Value.int .i64 o) := (hx.cell _ _ (by first | omega | (simp; done) | (simp; omega))).trans (by go_simp)
    have f2_0 : ∀ o, x2.frozen? ⟨w.heap.size, o, none⟩ = false := fun o => (hx.frozen _ _ (by first | omega | (simp; done) | (simp; omega))).trans (by go_simp)
    have hz2_1 : w.heap.size + 1 < x2.heap.size := by omega
    have c2_1_0 : x2.cell? ⟨w.heap.size + 1, 0, none⟩ = some (Value.int .i64 n) := (hx.cell _ _ (by first | omega | (simp; done) | (simp; omega))).trans (by go_simp)
    have c2_1_1 : x2.cell? ⟨w.heap.size + 1, 1, none⟩ = some (Value.int .i64 d) := (hx.cell _ _ (by first | omega | (simp; done) | (simp; omega))).trans (by go_simp)
    have f2_1 : ∀ o, x2.frozen? ⟨w.heap.size + 1, o, none⟩ = false := fun o => (hx.frozen _ _ (by first | omega | (simp; done) | (simp; omega))).trans (by go_simp)
    replace HU := Lib.hid (Up.trans (by repeat (first | exact HU.out | refine Up.setCell ?_ (by first | omega | (simp; done) | (simp; omega)) _ | refine Up.alloc ?_ _)) hx : Up w x2)
    clear c1_0_0 c1_0_1 c1_0_2 c1_0_3 c1_0_4 f1_0 c1_1_0 c1_1_1 f1_1
    clear hx hsz
    go_wp2_with fail
    have hq3_0 : w.heap.size < x2.heap.size + 1 := by omega
    have hq3_1 : w.heap.size + 1 < x2.heap.size + 1 := by omega
    refine wp_region_ext (by kernel_rfl) (by kernel_rfl) ?_
    repeat (go_big_quiet_step (first | (go_at_call_of 20 (Value.int IntKind.i64 1); exact Calls.ext_of (ref03_Divide N d 1 lo q3 (by omega) (by omega) (by omega) hM1.out HLO.out _)) | (go_at_call_of 20 (Value.int IntKind.i64 2); exact Calls.ext_of (ref03_Divide N d 2 hi q3 (by omega) (by omega) (by omega) hM2.out HHI.out _))))
    refine wpQuiet_nil ?_
    intro x3 hx
    have hsz := hx.size
    try simp at hsz
    have hz3_0 : w.heap.size < x3.heap.size := by omega
    have c3_0_0 : x3.cell? ⟨w.heap.size, 0, none⟩ = some (Value.int .i64 2) := (hx.cell _ _ (by first | omega | (simp; done) | (simp; omega))).trans (by go_simp)
    have c3_0_1 : x3.cell? ⟨w.heap.size, 1, none⟩ = some (Value.int .i64 b) := (hx.cell _ _ (by first | omega | (simp; done) | (simp; omega))).trans (by go_simp)
    have c3_0_2 : x3.cell? ⟨w.heap.size, 2, none⟩ = some (Value.int .i64 f) := (hx.cell _ _ (by first | omega | (simp; done) | (simp; omega))).trans (by go_simp)
    have c3_0_3 : x3.cell? ⟨w.heap.size, 3, none⟩ = some (Value.int .i64 r) := (hx.cell _ _ (by first | omega | (simp; done) | (simp; omega))).trans (by go_simp)
    have c3_0_4 : x3.cell? ⟨w.heap.size, 4, none⟩ = some (Value.int .i64 o) := (hx.cell _ _ (by first | omega | (simp; done) | (simp; omega))).trans (by go_simp)
    have f3_0 : ∀ o, x3.frozen? ⟨w.heap.size, o, none⟩ = false := fun o => (hx.frozen _ _ (by first | omega | (simp; done) | (simp; omega))).trans (by go_simp)
    have hz3_1 : w.heap.size + 1 < x3.heap.size := by omega
    have c3_1_0 : x3.cell? ⟨w.heap.size + 1, 0, none⟩ = some (Value.int .i64 n) := (hx.cell _ _ (by first | omega | (simp; done) | (simp; omega))).trans (by go_simp)
    have c3_1_1 : x3.cell? ⟨w.heap.size + 1, 1, none⟩ = some (Value.int .i64 d) := (hx.cell _ _ (by first | omega | (simp; done) | (simp; omega))).trans (by go_simp)
    have f3_1 : ∀ o, x3.frozen? ⟨w.heap.size + 1, o, none⟩ = false := fun o => (hx.frozen _ _ (by first | omega | (simp; done) | (simp; omega))).trans (by go_simp)
    replace HU := Lib.hid (Up.trans (by repeat (first | exact HU.out | refine Up.setCell ?_ (by first | omega | (simp; done) | (simp; omega)) _ | refine Up.alloc ?_ _)) hx : Up w x3)
    clear c2_0_0 c2_0_1 c2_0_2 c2_0_3 c2_0_4 f2_0 c2_1_0 c2_1_1 f2_1
    clear hx hsz
    go_wp2_with fail
    refine (law03_examples _).mono ?_
    rintro e4 x4 ⟨rfl, hx⟩
    have hsz := hx.size
    try simp at hsz
    have hz4_0 : w.heap.size < x4.heap.size := by omega
    have c4_0_0 : x4.cell? ⟨w.heap.size, 0, none⟩ = some (Value.int .i64 2) := (hx.cell _ _ (by first | omega | (simp; done) | (simp; omega))).trans (by go_simp)
    have c4_0_1 : x4.cell? ⟨w.heap.size, 1, none⟩ = some (Value.int .i64 b) := (hx.cell _ _ (by first | omega | (simp; done) | (simp; omega))).trans (by go_simp)
    have c4_0_2 : x4.cell? ⟨w.heap.size, 2, none⟩ = some (Value.int .i64 f) := (hx.cell _ _ (by first | omega | (simp; done) | (simp; omega))).trans (by go_simp)
    have c4_0_3 : x4.cell? ⟨w.heap.size, 3, none⟩ = some (Value.int .i64 r) := (hx.cell _ _ (by first | omega | (simp; done) | (simp; omega))).trans (by go_simp)
    have c4_0_4 : x4.cell? ⟨w.heap.size, 4, none⟩ = some (Value.int .i64 o) := (hx.cell _ _ (by first | omega | (simp; done) | (simp; omega))).trans (by go_simp)
    have f4_0 : ∀ o, x4.frozen? ⟨w.heap.size, o, none⟩ = false := fun o => (hx.frozen _ _ (by first | omega | (simp; done) | (simp; omega))).trans (by go_simp)
    have hz4_1 : w.heap.size + 1 < x4.heap.size := by omega
    have c4_1_0 : x4.cell? ⟨w.heap.size + 1, 0, none⟩ = some (Value.int .i64 n) := (hx.cell _ _ (by first | omega | (simp; done) | (simp; omega))).trans (by go_simp)
    have c4_1_1 : x4.cell? ⟨w.heap.size + 1, 1, none⟩ = some (Value.int .i64 d) := (hx.cell _ _ (by first | omega | (simp; done) | (simp; omega))).trans (by go_simp)
    have f4_1 : ∀ o, x4.frozen? ⟨w.heap.size + 1, o, none⟩ = false := fun o => (hx.frozen _ _ (by first | omega | (simp; done) | (simp; omega))).trans (by go_simp)
    replace HU := Lib.hid (Up.trans (by repeat (first | exact HU.out | refine Up.setCell ?_ (by first | omega | (simp; done) | (simp; omega)) _ | refine Up.alloc ?_ _)) hx : Up w x4)
    clear c3_0_0 c3_0_1 c3_0_2 c3_0_3 c3_0_4 f3_0 c3_1_0 c3_1_1 f3_1
    clear hx hsz
    go_wp2
    go_ret
    exact ⟨rfl, (by repeat (first | exact HU.out | refine Up.drewN _ ?_ | refine Up.setCell ?_ (by first | omega | (simp; done) | (simp; omega)) _ | refine Up.alloc ?_ _))⟩
  by_cases k2 : 2 ^ (b.toNat - 1) ≤ hi
  · have k3 : -2 ^ (b.toNat - 1) ≤ lo := by omega
    clear hQD hO g1 g2 g3 g4 k1
    go_enter Try.func5, Try.ntmps5
    go_wp2_with fail
    refine (ref03_ValidateType _ _ _ _ _ _ HE.out _).mono ?_
    rintro e1 x1 ⟨rfl, hx⟩
    have hsz := hx.size
    try simp at hsz
    have hz1_0 : w.heap.size < x1.heap.size := by omega
    have c1_0_0 : x1.cell? ⟨w.heap.size, 0, none⟩ = some (Value.int .i64 2) := (hx.cell _ _ (by first | omega | (simp; done) | (simp; omega))).trans (by go_simp)
    have c1_0_1 : x1.cell? ⟨w.heap.size, 1, none⟩ = some (Value.int .i64 b) := (hx.cell _ _ (by first | omega | (simp; done) | (simp; omega))).trans (by go_simp)
    have c1_0_2 : x1.cell? ⟨w.heap.size, 2, none⟩ = some (Value.int .i64 f) := (hx.cell _ _ (by first | omega | (simp; done) | (simp; omega))).trans (by go_simp)
    have c1_0_3 : x1.cell? ⟨w.heap.size, 3, none⟩ = some (Value.int .i64 r) := (hx.cell _ _ (by first | omega | (simp; done) | (simp; omega))).trans (by go_simp)
    have c1_0_4 : x1.cell? ⟨w.heap.size, 4, none⟩ = some (Value.int .i64 o) := (hx.cell _ _ (by first | omega | (simp; done) | (simp; omega))).trans (by go_simp)
    have f1_0 : ∀ o, x1.frozen? ⟨w.heap.size, o, none⟩ = false := fun o => (hx.frozen _ _ (by first | omega | (simp; done) | (simp; omega))).trans (by go_simp)
    have hz1_1 : w.heap.size + 1 < x1.heap.size := by omega
    have c1_1_0 : x1.cell? ⟨w.heap.size + 1, 0, none⟩ = some (Value.int .i64 n) := (hx.cell _ _ (by first | omega | (simp; done) | (simp; omega))).trans (by go_simp)
    have c1_1_1 : x1.cell? ⟨w.heap.size + 1, 1, none⟩ = some (Value.int .i64 d) := (hx.cell _ _ (by first | omega | (simp; done) | (simp; omega))).trans (by go_simp)
    have f1_1 : ∀ o, x1.frozen? ⟨w.heap.size + 1, o, none⟩ = false := fun o => (hx.frozen _ _ (by first | omega | (simp; done) | (simp; omega))).trans (by go_simp)
    have HU := Lib.hid (Up.trans (by repeat (first | exact Up.refl _ | refine Up.alloc ?_ _)) hx : Up w x1)
    clear hx hsz
    go_wp2_with fail
    refine (law03_fraction n d true H1.out na nb _).mono ?_
    rintro e2 x2 ⟨rfl, hx⟩
    have hsz := hx.size
    try simp at hsz
    have hz2_0 : w.heap.size < x2.heap.size := by omega
    have c2_0_0 : x2.cell? ⟨w.heap.size, 0, none⟩ = some (Value.int .i64 2) := (hx.cell _ _ (by first | omega | (simp; done) | (simp; omega))).trans (by go_simp)
    have c2_0_1 : x2.cell? ⟨w.heap.size, 1, none⟩ = some (Value.int .i64 b) := (hx.cell _ _ (by first | omega | (simp; done) | (simp; omega))).trans (by go_simp)
    have c2_0_2 : x2.cell? ⟨w.heap.size, 2, none⟩ = some (Value.int .i64 f) := (hx.cell _ _ (by first | omega | (simp; done) | (simp; omega))).trans (by go_simp)
    have c2_0_3 : x2.cell? ⟨w.heap.size, 3, none⟩ = some (Value.int .i64 r) := (hx.cell _ _ (by first | omega | (simp; done) | (simp; omega))).trans (by go_simp)
    have c2_0_4 : x2.cell? ⟨w.heap.size, 4, none⟩ = some (Value.int .i64 o) := (hx.cell _ _ (by first | omega | (simp; done) | (simp; omega))).trans (by go_simp)
    have f2_0 : ∀ o, x2.frozen? ⟨w.heap.size, o, none⟩ = false := fun o => (hx.frozen _ _ (by first | omega | (simp; done) | (simp; omega))).trans (by go_simp)
    have hz2_1 : w.heap.size + 1 < x2.heap.size := by omega
    have c2_1_0 : x2.cell? ⟨w.heap.size + 1, 0, none⟩ = some (Value.int .i64 n) := (hx.cell _ _ (by first | omega | (simp; done) | (simp; omega))).trans (by go_simp)
    have c2_1_1 : x2.cell? ⟨w.heap.size + 1, 1, none⟩ = some (Value.int .i64 d) := (hx.cell _ _ (by first | omega | (simp; done) | (simp; omega))).trans (by go_simp)
    have f2_1 : ∀ o, x2.frozen? ⟨w.heap.size + 1, o, none⟩ = false := fun o => (hx.frozen _ _ (by first | omega | (simp; done) | (simp; omega))).trans (by go_simp)
    replace HU := Lib.hid (Up.trans (by repeat (first | exact HU.out | refine Up.setCell ?_ (by first | omega | (simp; done) | (simp; omega)) _ | refine Up.alloc ?_ _)) hx : Up w x2)
    clear c1_0_0 c1_0_1 c1_0_2 c1_0_3 c1_0_4 f1_0 c1_1_0 c1_1_1 f1_1
    clear hx hsz
    go_wp2_with fail
    have hq3_0 : w.heap.size < x2.heap.size + 1 := by omega
    have hq3_1 : w.heap.size + 1 < x2.heap.size + 1 := by omega
    refine wp_region_ext (by kernel_rfl) (by kernel_rfl) ?_
    repeat (go_big_quiet_step (first | (go_at_call_of 20 (Value.int IntKind.i64 1); exact Calls.ext_of (ref03_Divide N d 1 lo q3 (by omega) (by omega) (by omega) hM1.out HLO.out _)) | (go_at_call_of 20 (Value.int IntKind.i64 2); exact Calls.ext_of (ref03_Divide N d 2 hi q3 (by omega) (by omega) (by omega) hM2.out HHI.out _))))
    refine wpQuiet_nil ?_
    intro x3 hx
    have hsz := hx.size
    try simp at hsz
    have hz3_0 : w.heap.size < x3.heap.size := by omega
    have c3_0_0 : x3.cell? ⟨w.heap.size, 0, none⟩ = some (Value.int .i64 2) := (hx.cell _ _ (by first | omega | (simp; done) | (simp; omega))).trans (by go_simp)
    have c3_0_1 : x3.cell? ⟨w.heap.size, 1, none⟩ = some (Value.int .i64 b) := (hx.cell _ _ (by first | omega | (simp; done) | (simp; omega))).trans (by go_simp)
    have c3_0_2 : x3.cell? ⟨w.heap.size, 2, none⟩ = some (Value.int .i64 f) := (hx.cell _ _ (by first | omega | (simp; done) | (simp; omega))).trans (by go_simp)
    have c3_0_3 : x3.cell? ⟨w.heap.size, 3, none⟩ = some (Value.int .i64 r) := (hx.cell _ _ (by first | omega | (simp; done) | (simp; omega))).trans (by go_simp)
    have c3_0_4 : x3.cell? ⟨w.heap.size, 4, none⟩ = some (Value.int .i64 o) := (hx.cell _ _ (by first | omega | (simp; done) | (simp; omega))).trans (by go_simp)
    have f3_0 : ∀ o, x3.frozen? ⟨w.heap.size, o, none⟩ = false := fun o => (hx.frozen _ _ (by first | omega | (simp; done) | (simp; omega))).trans (by go_simp)
    have hz3_1 : w.heap.size + 1 < x3.heap.size := by omega
    have c3_1_0 : x3.cell? ⟨w.heap.size + 1, 0, none⟩ = some (Value.int .i64 n) := (hx.cell _ _ (by first | omega | (simp; done) | (simp; omega))).trans (by go_simp)
    have c3_1_1 : x3.cell? ⟨w.heap.size + 1, 1, none⟩ = some (Value.int .i64 d) := (hx.cell _ _ (by first | omega | (simp; done) | (simp; omega))).trans (by go_simp)
    have f3_1 : ∀ o, x3.frozen? ⟨w.heap.size + 1, o, none⟩ = false := fun o => (hx.frozen _ _ (by first | omega | (simp; done) | (simp; omega))).trans (by go_simp)
    replace HU := Lib.hid (Up.trans (by repeat (first | exact HU.out | refine Up.setCell ?_ (by first | omega | (simp; done) | (simp; omega)) _ | refine Up.alloc ?_ _)) hx : Up w x3)
    clear c2_0_0 c2_0_1 c2_0_2 c2_0_3 c2_0_4 f2_0 c2_1_0 c2_1_1 f2_1
    clear hx hsz
    go_wp2_with fail
    refine (law03_examples _).mono ?_
    rintro e4 x4 ⟨rfl, hx⟩
    have hsz := hx.size
    try simp at hsz
    have hz4_0 : w.heap.size < x4.heap.size := by omega
    have c4_0_0 : x4.cell? ⟨w.heap.size, 0, none⟩ = some (Value.int .i64 2) := (hx.cell _ _ (by first | omega | (simp; done) | (simp; omega))).trans (by go_simp)
    have c4_0_1 : x4.cell? ⟨w.heap.size, 1, none⟩ = some (Value.int .i64 b) := (hx.cell _ _ (by first | omega | (simp; done) | (simp; omega))).trans (by go_simp)
    have c4_0_2 : x4.cell? ⟨w.heap.size, 2, none⟩ = some (Value.int .i64 f) := (hx.cell _ _ (by first | omega | (simp; done) | (simp; omega))).trans (by go_simp)
    have c4_0_3 : x4.cell? ⟨w.heap.size, 3, none⟩ = some (Value.int .i64 r) := (hx.cell _ _ (by first | omega | (simp; done) | (simp; omega))).trans (by go_simp)
    have c4_0_4 : x4.cell? ⟨w.heap.size, 4, none⟩ = some (Value.int .i64 o) := (hx.cell _ _ (by first | omega | (simp; done) | (simp; omega))).trans (by go_simp)
    have f4_0 : ∀ o, x4.frozen? ⟨w.heap.size, o, none⟩ = false := fun o => (hx.frozen _ _ (by first | omega | (simp; done) | (simp; omega))).trans (by go_simp)
    have hz4_1 : w.heap.size + 1 < x4.heap.size := by omega
    have c4_1_0 : x4.cell? ⟨w.heap.size + 1, 0, none⟩ = some (Value.int .i64 n) := (hx.cell _ _ (by first | omega | (simp; done) | (simp; omega))).trans (by go_simp)
    have c4_1_1 : x4.cell? ⟨w.heap.size + 1, 1, none⟩ = some (Value.int .i64 d) := (hx.cell _ _ (by first | omega | (simp; done) | (simp; omega))).trans (by go_simp)
    have f4_1 : ∀ o, x4.frozen? ⟨w.heap.size + 1, o, none⟩ = false := fun o => (hx.frozen _ _ (by first | omega | (simp; done) | (simp; omega))).trans (by go_simp)
    replace HU := Lib.hid (Up.trans (by repeat (first | exact HU.out | refine Up.setCell ?_ (by first | omega | (simp; done) | (simp; omega)) _ | refine Up.alloc ?_ _)) hx : Up w x4)
    clear c3_0_0 c3_0_1 c3_0_2 c3_0_3 c3_0_4 f3_0 c3_1_0 c3_1_1 f3_1
    clear hx hsz
    go_wp2
    go_ret
    exact ⟨rfl, (by repeat (first | exact HU.out | refine Up.drewN _ ?_ | refine Up.setCell ?_ (by first | omega | (simp; done) | (simp; omega)) _ | refine Up.alloc ?_ _))⟩
  have k3 : -2 ^ (b.toNat - 1) ≤ lo := by omega
  have k4 : hi < 2 ^ (b.toNat - 1) := by omega
  obtain rfl : m = q := by rw [← HM.out, fit_in s1 s2 HO.out (by omega) (by omega)]
  have g5 : ¬ (m < lo) := by omega
  have g6 : ¬ (hi < m) := by omega
  clear k1 k2 HM
  by_cases o1 : O < 0
  all_goals by_cases r4 : r = 4
  · obtain ⟨g7, g8⟩ := g1 o1
    replace g8 := g8 r4
    have hQ1 : -9223372036854775808 ≤ QD := by omega
    have hQ2 : QD ≤ 9223372036854775807 := by omega
    have r5 : (r == 4) = true := by simpa using r4
    have r6 : (r != 4) = false := by simpa using r4
    have r7 := Lib.hid r4
    clear g1 g2 r4
    go_enter Try.func5, Try.ntmps5
    go_wp2_with fail
    refine (ref03_ValidateType _ _ _ _ _ _ HE.out _).mono ?_
    rintro e1 x1 ⟨rfl, hx⟩
    have hsz := hx.size
    try simp at hsz
    have hz1_0 : w.heap.size < x1.heap.size := by omega
    have c1_0_0 : x1.cell? ⟨w.heap.size, 0, none⟩ = some (Value.int .i64 2) := (hx.cell _ _ (by first | omega | (simp; done) | (simp; omega))).trans (by go_simp)
    have c1_0_1 : x1.cell? ⟨w.heap.size, 1, none⟩ = some (Value.int .i64 b) := (hx.cell _ _ (by first | omega | (simp; done) | (simp; omega))).trans (by go_simp)
    have c1_0_2 : x1.cell? ⟨w.heap.size, 2, none⟩ = some (Value.int .i64 f) := (hx.cell _ _ (by first | omega | (simp; done) | (simp; omega))).trans (by go_simp)
    have c1_0_3 : x1.cell? ⟨w.heap.size, 3, none⟩ = some (Value.int .i64 r) := (hx.cell _ _ (by first | omega | (simp; done) | (simp; omega))).trans (by go_simp)
    have c1_0_4 : x1.cell? ⟨w.heap.size, 4, none⟩ = some (Value.int .i64 o) := (hx.cell _ _ (by first | omega | (simp; done) | (simp; omega))).trans (by go_simp)
    have f1_0 : ∀ o, x1.frozen? ⟨w.heap.size, o, none⟩ = false := fun o => (hx.frozen _ _ (by first | omega | (simp; done) | (simp; omega))).trans (by go_simp)
    have hz1_1 : w.heap.size + 1 < x1.heap.size := by omega
    have c1_1_0 : x1.cell? ⟨w.heap.size + 1, 0, none⟩ = some (Value.int .i64 n) := (hx.cell _ _ (by first | omega | (simp; done) | (simp; omega))).trans (by go_simp)
    have c1_1_1 : x1.cell? ⟨w.heap.size + 1, 1, none⟩ = some (Value.int .i64 d) := (hx.cell _ _ (by first | omega | (simp; done) | (simp; omega))).trans (by go_simp)
    have f1_1 : ∀ o, x1.frozen? ⟨w.heap.size + 1, o, none⟩ = false := fun o => (hx.frozen _ _ (by first | omega | (simp; done) | (simp; omega))).trans (by go_simp)
    have HU := Lib.hid (Up.trans (by repeat (first | exact Up.refl _ | refine Up.alloc ?_ _)) hx : Up w x1)
    clear hx hsz
    go_wp2_with fail
    refine (law03_fraction n d true H1.out na nb _).mono ?_
    rintro e2 x2 ⟨rfl, hx⟩
    have hsz := hx.size
    try simp at hsz
    have hz2_0 : w.heap.size < x2.heap.size := by omega
    have c2_0_0 : x2.cell? ⟨w.heap.size, 0, none⟩ = some (Value.int .i64 2) := (hx.cell _ _ (by first | omega | (simp; done) | (simp; omega))).trans (by go_simp)
    have c2_0_1 : x2.cell? ⟨w.heap.size, 1, none⟩ = some (Value.int .i64 b) := (hx.cell _ _ (by first | omega | (simp; done) | (simp; omega))).trans (by go_simp)
    have c2_0_2 : x2.cell? ⟨w.heap.size, 2, none⟩ = some (Value.int .i64 f) := (hx.cell _ _ (by first | omega | (simp; done) | (simp; omega))).trans (by go_simp)
    have c2_0_3 : x2.cell? ⟨w.heap.size, 3, none⟩ = some (Value.int .i64 r) := (hx.cell _ _ (by first | omega | (simp; done) | (simp; omega))).trans (by go_simp)
    have c2_0_4 : x2.cell? ⟨w.heap.size, 4, none⟩ = some (Value.int .i64 o) := (hx.cell _ _ (by first | omega | (simp; done) | (simp; omega))).trans (by go_simp)
    have f2_0 : ∀ o, x2.frozen? ⟨w.heap.size, o, none⟩ = false := fun o => (hx.frozen _ _ (by first | omega | (simp; done) | (simp; omega))).trans (by go_simp)
    have hz2_1 : w.heap.size + 1 < x2.heap.size := by omega
    have c2_1_0 : x2.cell? ⟨w.heap.size + 1, 0, none⟩ = some (Value.int .i64 n) := (hx.cell _ _ (by first | omega | (simp; done) | (simp; omega))).trans (by go_simp)
    have c2_1_1 : x2.cell? ⟨w.heap.size + 1, 1, none⟩ = some (Value.int .i64 d) := (hx.cell _ _ (by first | omega | (simp; done) | (simp; omega))).trans (by go_simp)
    have f2_1 : ∀ o, x2.frozen? ⟨w.heap.size + 1, o, none⟩ = false := fun o => (hx.frozen _ _ (by first | omega | (simp; done) | (simp; omega))).trans (by go_simp)
    replace HU := Lib.hid (Up.trans (by repeat (first | exact HU.out | refine Up.setCell ?_ (by first | omega | (simp; done) | (simp; omega)) _ | refine Up.alloc ?_ _)) hx : Up w x2)
    clear c1_0_0 c1_0_1 c1_0_2 c1_0_3 c1_0_4 f1_0 c1_1_0 c1_1_1 f1_1
    clear hx hsz
    go_wp2_with fail
    have hq3_0 : w.heap.size < x2.heap.size + 1 := by omega
    have hq3_1 : w.heap.size + 1 < x2.heap.size + 1 := by omega
    refine wp_region_ext (by kernel_rfl) (by kernel_rfl) ?_
    repeat (go_big_quiet_step (first | (go_at_call_of 20 (Value.int IntKind.i64 1); exact Calls.ext_of (ref03_Divide N d 1 lo q3 (by omega) (by omega) (by omega) hM1.out HLO.out _)) | (go_at_call_of 20 (Value.int IntKind.i64 2); exact Calls.ext_of (ref03_Divide N d 2 hi q3 (by omega) (by omega) (by omega) hM2.out HHI.out _))))
    refine wpQuiet_nil ?_
    intro x3 hx
    have hsz := hx.size
    try simp at hsz
    have hz3_0 : w.heap.size < x3.heap.size := by omega
    have c3_0_0 : x3.cell? ⟨w.heap.size, 0, none⟩ = some (Value.int .i64 2) := (hx.cell _ _ (by first | omega | (simp; done) | (simp; omega))).trans (by go_simp)
    have c3_0_1 : x3.cell? ⟨w.heap.size, 1, none⟩ = some (Value.int .i64 b) := (hx.cell _ _ (by first | omega | (simp; done) | (simp; omega))).trans (by go_simp)
    have c3_0_2 : x3.cell? ⟨w.heap.size, 2, none⟩ = some (Value.int .i64 f) := (hx.cell _ _ (by first | omega | (simp; done) | (simp; omega))).trans (by go_simp)
    have c3_0_3 : x3.cell? ⟨w.heap.size, 3, none⟩ = some (Value.int .i64 r) := (hx.cell _ _ (by first | omega | (simp; done) | (simp; omega))).trans (by go_simp)
    have c3_0_4 : x3.cell? ⟨w.heap.size, 4, none⟩ = some (Value.int .i64 o) := (hx.cell _ _ (by first | omega | (simp; done) | (simp; omega))).trans (by go_simp)
    have f3_0 : ∀ o, x3.frozen? ⟨w.heap.size, o, none⟩ = false := fun o => (hx.frozen _ _ (by first | omega | (simp; done) | (simp; omega))).trans (by go_simp)
    have hz3_1 : w.heap.size + 1 < x3.heap.size := by omega
    have c3_1_0 : x3.cell? ⟨w.heap.size + 1, 0, none⟩ = some (Value.int .i64 n) := (hx.cell _ _ (by first | omega | (simp; done) | (simp; omega))).trans (by go_simp)
    have c3_1_1 : x3.cell? ⟨w.heap.size + 1, 1, none⟩ = some (Value.int .i64 d) := (hx.cell _ _ (by first | omega | (simp; done) | (simp; omega))).trans (by go_simp)
    have f3_1 : ∀ o, x3.frozen? ⟨w.heap.size + 1, o, none⟩ = false := fun o => (hx.frozen _ _ (by first | omega | (simp; done) | (simp; omega))).trans (by go_simp)
    replace HU := Lib.hid (Up.trans (by repeat (first | exact HU.out | refine Up.setCell ?_ (by first | omega | (simp; done) | (simp; omega)) _ | refine Up.alloc ?_ _)) hx : Up w x3)
    clear c2_0_0 c2_0_1 c2_0_2 c2_0_3 c2_0_4 f2_0 c2_1_0 c2_1_1 f2_1
    clear hx hsz
    go_wp2_with fail
    refine (fixed_FromFrac _ _ _ _ _ n d _ _ _ HR.out na nb _).mono ?_
    rintro e4 x4 ⟨rfl, hx⟩
    have hsz := hx.size
    try simp at hsz
    have hz4_0 : w.heap.size < x4.heap.size := by omega
    have c4_0_0 : x4.cell? ⟨w.heap.size, 0, none⟩ = some (Value.int .i64 2) := (hx.cell _ _ (by first | omega | (simp; done) | (simp; omega))).trans (by go_simp)
    have c4_0_1 : x4.cell? ⟨w.heap.size, 1, none⟩ = some (Value.int .i64 b) := (hx.cell _ _ (by first | omega | (simp; done) | (simp; omega))).trans (by go_simp)
    have c4_0_2 : x4.cell? ⟨w.heap.size, 2, none⟩ = some (Value.int .i64 f) := (hx.cell _ _ (by first | omega | (simp; done) | (simp; omega))).trans (by go_simp)
    have c4_0_3 : x4.cell? ⟨w.heap.size, 3, none⟩ = some (Value.int .i64 r) := (hx.cell _ _ (by first | omega | (simp; done) | (simp; omega))).trans (by go_simp)
    have c4_0_4 : x4.cell? ⟨w.heap.size, 4, none⟩ = some (Value.int .i64 o) := (hx.cell _ _ (by first | omega | (simp; done) | (simp; omega))).trans (by go_simp)
    have f4_0 : ∀ o, x4.frozen? ⟨w.heap.size, o, none⟩ = false := fun o => (hx.frozen _ _ (by first | omega | (simp; done) | (simp; omega))).trans (by go_simp)
    have hz4_1 : w.heap.size + 1 < x4.heap.size := by omega
    have c4_1_0 : x4.cell? ⟨w.heap.size + 1, 0, none⟩ = some (Value.int .i64 n) := (hx.cell _ _ (by first | omega | (simp; done) | (simp; omega))).trans (by go_simp)
    have c4_1_1 : x4.cell? ⟨w.heap.size + 1, 1, none⟩ = some (Value.int .i64 d) := (hx.cell _ _ (by first | omega | (simp; done) | (simp; omega))).trans (by go_simp)
    have f4_1 : ∀ o, x4.frozen? ⟨w.heap.size + 1, o, none⟩ = false := fun o => (hx.frozen _ _ (by first | omega | (simp; done) | (simp; omega))).trans (by go_simp)
    replace HU := Lib.hid (Up.trans (by repeat (first | exact HU.out | refine Up.setCell ?_ (by first | omega | (simp; done) | (simp; omega)) _ | refine Up.alloc ?_ _)) hx : Up w x4)
    clear c3_0_0 c3_0_1 c3_0_2 c3_0_3 c3_0_4 f3_0 c3_1_0 c3_1_1 f3_1
    clear hx hsz
    have hne4_0 : (w.heap.size = x4.heap.size) = False := by simp; omega
    have hnf4_0 : (x4.heap.size = w.heap.size) = False := by simp; omega
    have hne4_1 : (w.heap.size + 1 = x4.heap.size) = False := by simp; omega
    have hnf4_1 : (x4.heap.size = w.heap.size + 1) = False := by simp; omega
    go_wp2_with fail
    refine (law03_examples _).mono ?_
    rintro e5 x5 ⟨rfl, hx⟩
    have hsz := hx.size
    try simp at hsz
    have hz5_0 : w.heap.size < x5.heap.size := by omega
    have c5_0_0 : x5.cell? ⟨w.heap.size, 0, none⟩ = some (Value.int .i64 2) := (hx.cell _ _ (by first | omega | (simp; done) | (simp; omega))).trans (by go_simp)
    have c5_0_1 : x5.cell? ⟨w.heap.size, 1, none⟩ = some (Value.int .i64 b) := (hx.cell _ _ (by first | omega | (simp; done) | (simp; omega))).trans (by go_simp)
    have c5_0_2 : x5.cell? ⟨w.heap.size, 2, none⟩ = some (Value.int .i64 f) := (hx.cell _ _ (by first | omega | (simp; done) | (simp; omega))).trans (by go_simp)
    have c5_0_3 : x5.cell? ⟨w.heap.size, 3, none⟩ = some (Value.int .i64 r) := (hx.cell _ _ (by first | omega | (simp; done) | (simp; omega))).trans (by go_simp)
    have c5_0_4 : x5.cell? ⟨w.heap.size, 4, none⟩ = some (Value.int .i64 o) := (hx.cell _ _ (by first | omega | (simp; done) | (simp; omega))).trans (by go_simp)
    have f5_0 : ∀ o, x5.frozen? ⟨w.heap.size, o, none⟩ = false := fun o => (hx.frozen _ _ (by first | omega | (simp; done) | (simp; omega))).trans (by go_simp)
    have hz5_1 : w.heap.size + 1 < x5.heap.size := by omega
    have c5_1_0 : x5.cell? ⟨w.heap.size + 1, 0, none⟩ = some (Value.int .i64 n) := (hx.cell _ _ (by first | omega | (simp; done) | (simp; omega))).trans (by go_simp)
    have c5_1_1 : x5.cell? ⟨w.heap.size + 1, 1, none⟩ = some (Value.int .i64 d) := (hx.cell _ _ (by first | omega | (simp; done) | (simp; omega))).trans (by go_simp)
    have f5_1 : ∀ o, x5.frozen? ⟨w.heap.size + 1, o, none⟩ = false := fun o => (hx.frozen _ _ (by first | omega | (simp; done) | (simp; omega))).trans (by go_simp)
    have hz5_2 : x4.heap.size < x5.heap.size := by omega
    have c5_2_0 : x5.cell? ⟨x4.heap.size, 0, none⟩ = some (Value.int .i64 m) := (hx.cell _ _ (by first | omega | (simp; done) | (simp; omega))).trans (by go_simp)
    have c5_2_1 : x5.cell? ⟨x4.heap.size, 1, none⟩ = some (Value.int .i64 1) := (hx.cell _ _ (by first | omega | (simp; done) | (simp; omega))).trans (by go_simp)
    have f5_2 : ∀ o, x5.frozen? ⟨x4.heap.size, o, none⟩ = false := fun o => (hx.frozen _ _ (by first | omega | (simp; done) | (simp; omega))).trans (by go_simp)
    replace HU := Lib.hid (Up.trans (by repeat (first | exact HU.out | refine Up.setCell ?_ (by first | omega | (simp; done) | (simp; omega)) _ | refine Up.alloc ?_ _)) hx : Up w x5)
    clear c4_0_0 c4_0_1 c4_0_2 c4_0_3 c4_0_4 f4_0 c4_1_0 c4_1_1 f4_1
    clear hx hsz
    go_wp2
    go_ret
    exact ⟨rfl, (by repeat (first | exact HU.out | refine Up.drewN _ ?_ | refine Up.setCell ?_ (by first | omega | (simp; done) | (simp; omega)) _ | refine Up.alloc ?_ _))⟩
  · obtain ⟨g7, g8⟩ := g1 o1
    have hQ1 : -9223372036854775808 ≤ QD := by omega
    have hQ2 : QD ≤ 9223372036854775807 := by omega
    have r5 : (r == 4) = false := by simpa using r4
    have r6 : (r != 4) = true := by simpa using r4
    clear g1 g2 g8
    go_enter Try.func5, Try.ntmps5
    go_wp2_with fail
    refine (ref03_ValidateType _ _ _ _ _ _ HE.out _).mono ?_
    rintro e1 x1 ⟨rfl, hx⟩
    have hsz := hx.size
    try simp at hsz
    have hz1_0 : w.heap.size < x1.heap.size := by omega
    have c1_0_0 : x1.cell? ⟨w.heap.size, 0, none⟩ = some (Value.int .i64 2) := (hx.cell _ _ (by first | omega | (simp; done) | (simp; omega))).trans (by go_simp)
    have c1_0_1 : x1.cell? ⟨w.heap.size, 1, none⟩ = some (Value.int .i64 b) := (hx.cell _ _ (by first | omega | (simp; done) | (simp; omega))).trans (by go_simp)
    have c1_0_2 : x1.cell? ⟨w.heap.size, 2, none⟩ = some (Value.int .i64 f) := (hx.cell _ _ (by first | omega | (simp; done) | (simp; omega))).trans (by go_simp)
    have c1_0_3 : x1.cell? ⟨w.heap.size, 3, none⟩ = some (Value.int .i64 r) := (hx.cell _ _ (by first | omega | (simp; done) | (simp; omega))).trans (by go_simp)
    have c1_0_4 : x1.cell? ⟨w.heap.size, 4, none⟩ = some (Value.int .i64 o) := (hx.cell _ _ (by first | omega | (simp; done) | (simp; omega))).trans (by go_simp)
    have f1_0 : ∀ o, x1.frozen? ⟨w.heap.size, o, none⟩ = false := fun o => (hx.frozen _ _ (by first | omega | (simp; done) | (simp; omega))).trans (by go_simp)
    have hz1_1 : w.heap.size + 1 < x1.heap.size := by omega
    have c1_1_0 : x1.cell? ⟨w.heap.size + 1, 0, none⟩ = some (Value.int .i64 n) := (hx.cell _ _ (by first | omega | (simp; done) | (simp; omega))).trans (by go_simp)
    have c1_1_1 : x1.cell? ⟨w.heap.size + 1, 1, none⟩ = some (Value.int .i64 d) := (hx.cell _ _ (by first | omega | (simp; done) | (simp; omega))).trans (by go_simp)
    have f1_1 : ∀ o, x1.frozen? ⟨w.heap.size + 1, o, none⟩ = false := fun o => (hx.frozen _ _ (by first | omega | (simp; done) | (simp; omega))).trans (by go_simp)
    have HU := Lib.hid (Up.trans (by repeat (first | exact Up.refl _ | refine Up.alloc ?_ _)) hx : Up w x1)
    clear hx hsz
    go_wp2_with fail
    refine (law03_fraction n d true H1.out na nb _).mono ?_
    rintro e2 x2 ⟨rfl, hx⟩
    have hsz := hx.size
    try simp at hsz
    have hz2_0 : w.heap.size < x2.heap.size := by omega
    have c2_0_0 : x2.cell? ⟨w.heap.size, 0, none⟩ = some (Value.int .i64 2) := (hx.cell _ _ (by first | omega | (simp; done) | (simp; omega))).trans (by go_simp)
    have c2_0_1 : x2.cell? ⟨w.heap.size, 1, none⟩ = some (Value.int .i64 b) := (hx.cell _ _ (by first | omega | (simp; done) | (simp; omega))).trans (by go_simp)
    have c2_0_2 : x2.cell? ⟨w.heap.size, 2, none⟩ = some (Value.int .i64 f) := (hx.cell _ _ (by first | omega | (simp; done) | (simp; omega))).trans (by go_simp)
    have c2_0_3 : x2.cell? ⟨w.heap.size, 3, none⟩ = some (Value.int .i64 r) := (hx.cell _ _ (by first | omega | (simp; done) | (simp; omega))).trans (by go_simp)
    have c2_0_4 : x2.cell? ⟨w.heap.size, 4, none⟩ = some (Value.int .i64 o) := (hx.cell _ _ (by first | omega | (simp; done) | (simp; omega))).trans (by go_simp)
    have f2_0 : ∀ o, x2.frozen? ⟨w.heap.size, o, none⟩ = false := fun o => (hx.frozen _ _ (by first | omega | (simp; done) | (simp; omega))).trans (by go_simp)
    have hz2_1 : w.heap.size + 1 < x2.heap.size := by omega
    have c2_1_0 : x2.cell? ⟨w.heap.size + 1, 0, none⟩ = some (Value.int .i64 n) := (hx.cell _ _ (by first | omega | (simp; done) | (simp; omega))).trans (by go_simp)
    have c2_1_1 : x2.cell? ⟨w.heap.size + 1, 1, none⟩ = some (Value.int .i64 d) := (hx.cell _ _ (by first | omega | (simp; done) | (simp; omega))).trans (by go_simp)
    have f2_1 : ∀ o, x2.frozen? ⟨w.heap.size + 1, o, none⟩ = false := fun o => (hx.frozen _ _ (by first | omega | (simp; done) | (simp; omega))).trans (by go_simp)
    replace HU := Lib.hid (Up.trans (by repeat (first | exact HU.out | refine Up.setCell ?_ (by first | omega | (simp; done) | (simp; omega)) _ | refine Up.alloc ?_ _)) hx : Up w x2)
    clear c1_0_0 c1_0_1 c1_0_2 c1_0_3 c1_0_4 f1_0 c1_1_0 c1_1_1 f1_1
    clear hx hsz
    go_wp2_with fail
    have hq3_0 : w.heap.size < x2.heap.size + 1 := by omega
    have hq3_1 : w.heap.size + 1 < x2.heap.size + 1 := by omega
    refine wp_region_ext (by kernel_rfl) (by kernel_rfl) ?_
    repeat (go_big_quiet_step (first | (go_at_call_of 20 (Value.int IntKind.i64 1); exact Calls.ext_of (ref03_Divide N d 1 lo q3 (by omega) (by omega) (by omega) hM1.out HLO.out _)) | (go_at_call_of 20 (Value.int IntKind.i64 2); exact Calls.ext_of (ref03_Divide N d 2 hi q3 (by omega) (by omega) (by omega) hM2.out HHI.out _))))
    refine wpQuiet_nil ?_
    intro x3 hx
    have hsz := hx.size
    try simp at hsz
    have hz3_0 : w.heap.size < x3.heap.size := by omega
    have c3_0_0 : x3.cell? ⟨w.heap.size, 0, none⟩ = some (Value.int .i64 2) := (hx.cell _ _ (by first | omega | (simp; done) | (simp; omega))).trans (by go_simp)
    have c3_0_1 : x3.cell? ⟨w.heap.size, 1, none⟩ = some (Value.int .i64 b) := (hx.cell _ _ (by first | omega | (simp; done) | (simp; omega))).trans (by go_simp)
    have c3_0_2 : x3.cell? ⟨w.heap.size, 2, none⟩ = some (Value.int .i64 f) := (hx.cell _ _ (by first | omega | (simp; done) | (simp; omega))).trans (by go_simp)
    have c3_0_3 : x3.cell? ⟨w.heap.size, 3, none⟩ = some (Value.int .i64 r) := (hx.cell _ _ (by first | omega | (simp; done) | (simp; omega))).trans (by go_simp)
    have c3_0_4 : x3.cell? ⟨w.heap.size, 4, none⟩ = some (Value.int .i64 o) := (hx.cell _ _ (by first | omega | (simp; done) | (simp; omega))).trans (by go_simp)
    have f3_0 : ∀ o, x3.frozen? ⟨w.heap.size, o, none⟩ = false := fun o => (hx.frozen _ _ (by first | omega | (simp; done) | (simp; omega))).trans (by go_simp)
    have hz3_1 : w.heap.size + 1 < x3.heap.size := by omega
    have c3_1_0 : x3.cell? ⟨w.heap.size + 1, 0, none⟩ = some (Value.int .i64 n) := (hx.cell _ _ (by first | omega | (simp; done) | (simp; omega))).trans (by go_simp)
    have c3_1_1 : x3.cell? ⟨w.heap.size + 1, 1, none⟩ = some (Value.int .i64 d) := (hx.cell _ _ (by first | omega | (simp; done) | (simp; omega))).trans (by go_simp)
    have f3_1 : ∀ o, x3.frozen? ⟨w.heap.size + 1, o, none⟩ = false := fun o => (hx.frozen _ _ (by first | omega | (simp; done) | (simp; omega))).trans (by go_simp)
    replace HU := Lib.hid (Up.trans (by repeat (first | exact HU.out | refine Up.setCell ?_ (by first | omega | (simp; done) | (simp; omega)) _ | refine Up.alloc ?_ _)) hx : Up w x3)
    clear c2_0_0 c2_0_1 c2_0_2 c2_0_3 c2_0_4 f2_0 c2_1_0 c2_1_1 f2_1
    clear hx hsz
    go_wp2_with fail
    refine (fixed_FromFrac _ _ _ _ _ n d _ _ _ HR.out na nb _).mono ?_
    rintro e4 x4 ⟨rfl, hx⟩
    have hsz := hx.size
    try simp at hsz
    have hz4_0 : w.heap.size < x4.heap.size := by omega
    have c4_0_0 : x4.cell? ⟨w.heap.size, 0, none⟩ = some (Value.int .i64 2) := (hx.cell _ _ (by first | omega | (simp; done) | (simp; omega))).trans (by go_simp)
    have c4_0_1 : x4.cell? ⟨w.heap.size, 1, none⟩ = some (Value.int .i64 b) := (hx.cell _ _ (by first | omega | (simp; done) | (simp; omega))).trans (by go_simp)
    have c4_0_2 : x4.cell? ⟨w.heap.size, 2, none⟩ = some (Value.int .i64 f) := (hx.cell _ _ (by first | omega | (simp; done) | (simp; omega))).trans (by go_simp)
    have c4_0_3 : x4.cell? ⟨w.heap.size, 3, none⟩ = some (Value.int .i64 r) := (hx.cell _ _ (by first | omega | (simp; done) | (simp; omega))).trans (by go_simp)
    have c4_0_4 : x4.cell? ⟨w.heap.size, 4, none⟩ = some (Value.int .i64 o) := (hx.cell _ _ (by first | omega | (simp; done) | (simp; omega))).trans (by go_simp)
    have f4_0 : ∀ o, x4.frozen? ⟨w.heap.size, o, none⟩ = false := fun o => (hx.frozen _ _ (by first | omega | (simp; done) | (simp; omega))).trans (by go_simp)
    have hz4_1 : w.heap.size + 1 < x4.heap.size := by omega
    have c4_1_0 : x4.cell? ⟨w.heap.size + 1, 0, none⟩ = some (Value.int .i64 n) := (hx.cell _ _ (by first | omega | (simp; done) | (simp; omega))).trans (by go_simp)
    have c4_1_1 : x4.cell? ⟨w.heap.size + 1, 1, none⟩ = some (Value.int .i64 d) := (hx.cell _ _ (by first | omega | (simp; done) | (simp; omega))).trans (by go_simp)
    have f4_1 : ∀ o, x4.frozen? ⟨w.heap.size + 1, o, none⟩ = false := fun o => (hx.frozen _ _ (by first | omega | (simp; done) | (simp; omega))).trans (by go_simp)
    replace HU := Lib.hid (Up.trans (by repeat (first | exact HU.out | refine Up.setCell ?_ (by first | omega | (simp; done) | (simp; omega)) _ | refine Up.alloc ?_ _)) hx : Up w x4)
    clear c3_0_0 c3_0_1 c3_0_2 c3_0_3 c3_0_4 f3_0 c3_1_0 c3_1_1 f3_1
    clear hx hsz
    have hne4_0 : (w.heap.size = x4.heap.size) = False := by simp; omega
    have hnf4_0 : (x4.heap.size = w.heap.size) = False := by simp; omega
    have hne4_1 : (w.heap.size + 1 = x4.heap.size) = False := by simp; omega
    have hnf4_1 : (x4.heap.size = w.heap.size + 1) = False := by simp; omega
    go_wp2_with fail
    refine (law03_examples _).mono ?_
    rintro e5 x5 ⟨rfl, hx⟩
    have hsz := hx.size
    try simp at hsz
    have hz5_0 : w.heap.size < x5.heap.size := by omega
    have c5_0_0 : x5.cell? ⟨w.heap.size, 0, none⟩ = some (Value.int .i64 2) := (hx.cell _ _ (by first | omega | (simp; done) | (simp; omega))).trans (by go_simp)
    have c5_0_1 : x5.cell? ⟨w.heap.size, 1, none⟩ = some (Value.int .i64 b) := (hx.cell _ _ (by first | omega | (simp; done) | (simp; omega))).trans (by go_simp)
    have c5_0_2 : x5.cell? ⟨w.heap.size, 2, none⟩ = some (Value.int .i64 f) := (hx.cell _ _ (by first | omega | (simp; done) | (simp; omega))).trans (by go_simp)
    have c5_0_3 : x5.cell? ⟨w.heap.size, 3, none⟩ = some (Value.int .i64 r) := (hx.cell _ _ (by first | omega | (simp; done) | (simp; omega))).trans (by go_simp)
    have c5_0_4 : x5.cell? ⟨w.heap.size, 4, none⟩ = some (Value.int .i64 o) := (hx.cell _ _ (by first | omega | (simp; done) | (simp; omega))).trans (by go_simp)
    have f5_0 : ∀ o, x5.frozen? ⟨w.heap.size, o, none⟩ = false := fun o => (hx.frozen _ _ (by first | omega | (simp; done) | (simp; omega))).trans (by go_simp)
    have hz5_1 : w.heap.size + 1 < x5.heap.size := by omega
    have c5_1_0 : x5.cell? ⟨w.heap.size + 1, 0, none⟩ = some (Value.int .i64 n) := (hx.cell _ _ (by first | omega | (simp; done) | (simp; omega))).trans (by go_simp)
    have c5_1_1 : x5.cell? ⟨w.heap.size + 1, 1, none⟩ = some (Value.int .i64 d) := (hx.cell _ _ (by first | omega | (simp; done) | (simp; omega))).trans (by go_simp)
    have f5_1 : ∀ o, x5.frozen? ⟨w.heap.size + 1, o, none⟩ = false := fun o => (hx.frozen _ _ (by first | omega | (simp; done) | (simp; omega))).trans (by go_simp)
    have hz5_2 : x4.heap.size < x5.heap.size := by omega
    have c5_2_0 : x5.cell? ⟨x4.heap.size, 0, none⟩ = some (Value.int .i64 m) := (hx.cell _ _ (by first | omega | (simp; done) | (simp; omega))).trans (by go_simp)
    have c5_2_1 : x5.cell? ⟨x4.heap.size, 1, none⟩ = some (Value.int .i64 1) := (hx.cell _ _ (by first | omega | (simp; done) | (simp; omega))).trans (by go_simp)
    have f5_2 : ∀ o, x5.frozen? ⟨x4.heap.size, o, none⟩ = false := fun o => (hx.frozen _ _ (by first | omega | (simp; done) | (simp; omega))).trans (by go_simp)
    replace HU := Lib.hid (Up.trans (by repeat (first | exact HU.out | refine Up.setCell ?_ (by first | omega | (simp; done) | (simp; omega)) _ | refine Up.alloc ?_ _)) hx : Up w x5)
    clear c4_0_0 c4_0_1 c4_0_2 c4_0_3 c4_0_4 f4_0 c4_1_0 c4_1_1 f4_1
    clear hx hsz
    go_wp2
    go_ret
    exact ⟨rfl, (by repeat (first | exact HU.out | refine Up.drewN _ ?_ | refine Up.setCell ?_ (by first | omega | (simp; done) | (simp; omega)) _ | refine Up.alloc ?_ _))⟩
  · have o2 : 0 ≤ O := by omega
    obtain ⟨g7, g8⟩ := g2 o2
    replace g8 := g8 r4
    have hQ1 : -9223372036854775808 ≤ QD := by omega
    have hQ2 : QD ≤ 9223372036854775807 := by omega
    have r5 : (r == 4) = true := by simpa using r4
    have r6 : (r != 4) = false := by simpa using r4
    clear g1 g2 r4
    go_enter Try.func5, Try.ntmps5
    go_wp2_with fail
    refine (ref03_ValidateType _ _ _ _ _ _ HE.out _).mono ?_
    rintro e1 x1 ⟨rfl, hx⟩
    have hsz := hx.size
    try simp at hsz
    have hz1_0 : w.heap.size < x1.heap.size := by omega
    have c1_0_0 : x1.cell? ⟨w.heap.size, 0, none⟩ = some (Value.int .i64 2) := (hx.cell _ _ (by first | omega | (simp; done) | (simp; omega))).trans (by go_simp)
    have c1_0_1 : x1.cell? ⟨w.heap.size, 1, none⟩ = some (Value.int .i64 b) := (hx.cell _ _ (by first | omega | (simp; done) | (simp; omega))).trans (by go_simp)
    have c1_0_2 : x1.cell? ⟨w.heap.size, 2, none⟩ = some (Value.int .i64 f) := (hx.cell _ _ (by first | omega | (simp; done) | (simp; omega))).trans (by go_simp)
    have c1_0_3 : x1.cell? ⟨w.heap.size, 3, none⟩ = some (Value.int .i64 r) := (hx.cell _ _ (by first | omega | (simp; done) | (simp; omega))).trans (by go_simp)
    have c1_0_4 : x1.cell? ⟨w.heap.size, 4, none⟩ = some (Value.int .i64 o) := (hx.cell _ _ (by first | omega | (simp; done) | (simp; omega))).trans (by go_simp)
    have f1_0 : ∀ o, x1.frozen? ⟨w.heap.size, o, none⟩ = false := fun o => (hx.frozen _ _ (by first | omega | (simp; done) | (simp; omega))).trans (by go_simp)
    have hz1_1 : w.heap.size + 1 < x1.heap.size := by omega
    have c1_1_0 : x1.cell? ⟨w.heap.size + 1, 0, none⟩ = some (Value.int .i64 n) := (hx.cell _ _ (by first | omega | (simp; done) | (simp; omega))).trans (by go_simp)
    have c1_1_1 : x1.cell? ⟨w.heap.size + 1, 1, none⟩ = some (Value.int .i64 d) := (hx.cell _ _ (by first | omega | (simp; done) | (simp; omega))).trans (by go_simp)
    have f1_1 : ∀ o, x1.frozen? ⟨w.heap.size + 1, o, none⟩ = false := fun o => (hx.frozen _ _ (by first | omega | (simp; done) | (simp; omega))).trans (by go_simp)
    have HU := Lib.hid (Up.trans (by repeat (first | exact Up.refl _ | refine Up.alloc ?_ _)) hx : Up w x1)
    clear hx hsz
    go_wp2_with fail
    refine (law03_fraction n d true H1.out na nb _).mono ?_
    rintro e2 x2 ⟨rfl, hx⟩
    have hsz := hx.size
    try simp at hsz
    have hz2_0 : w.heap.size < x2.heap.size := by omega
    have c2_0_0 : x2.cell? ⟨w.heap.size, 0, none⟩ = some (Value.int .i64 2) := (hx.cell _ _ (by first | omega | (simp; done) | (simp; omega))).trans (by go_simp)
    have c2_0_1 : x2.cell? ⟨w.heap.size, 1, none⟩ = some (Value.int .i64 b) := (hx.cell _ _ (by first | omega | (simp; done) | (simp; omega))).trans (by go_simp)
    have c2_0_2 : x2.cell? ⟨w.heap.size, 2, none⟩ = some (Value.int .i64 f) := (hx.cell _ _ (by first | omega | (simp; done) | (simp; omega))).trans (by go_simp)
    have c2_0_3 : x2.cell? ⟨w.heap.size, 3, none⟩ = some (Value.int .i64 r) := (hx.cell _ _ (by first | omega | (simp; done) | (simp; omega))).trans (by go_simp)
    have c2_0_4 : x2.cell? ⟨w.heap.size, 4, none⟩ = some (Value.int .i64 o) := (hx.cell _ _ (by first | omega | (simp; done) | (simp; omega))).trans (by go_simp)
    have f2_0 : ∀ o, x2.frozen? ⟨w.heap.size, o, none⟩ = false := fun o => (hx.frozen _ _ (by first | omega | (simp; done) | (simp; omega))).trans (by go_simp)
    have hz2_1 : w.heap.size + 1 < x2.heap.size := by omega
    have c2_1_0 : x2.cell? ⟨w.heap.size + 1, 0, none⟩ = some (Value.int .i64 n) := (hx.cell _ _ (by first | omega | (simp; done) | (simp; omega))).trans (by go_simp)
    have c2_1_1 : x2.cell? ⟨w.heap.size + 1, 1, none⟩ = some (Value.int .i64 d) := (hx.cell _ _ (by first | omega | (simp; done) | (simp; omega))).trans (by go_simp)
    have f2_1 : ∀ o, x2.frozen? ⟨w.heap.size + 1, o, none⟩ = false := fun o => (hx.frozen _ _ (by first | omega | (simp; done) | (simp; omega))).trans (by go_simp)
    replace HU := Lib.hid (Up.trans (by repeat (first | exact HU.out | refine Up.setCell ?_ (by first | omega | (simp; done) | (simp; omega)) _ | refine Up.alloc ?_ _)) hx : Up w x2)
    clear c1_0_0 c1_0_1 c1_0_2 c1_0_3 c1_0_4 f1_0 c1_1_0 c1_1_1 f1_1
    clear hx hsz
    go_wp2_with fail
    have hq3_0 : w.heap.size < x2.heap.size + 1 := by omega
    have hq3_1 : w.heap.size + 1 < x2.heap.size + 1 := by omega
    refine wp_region_ext (by kernel_rfl) (by kernel_rfl) ?_
    repeat (go_big_quiet_step (first | (go_at_call_of 20 (Value.int IntKind.i64 1); exact Calls.ext_of (ref03_Divide N d 1 lo q3 (by omega) (by omega) (by omega) hM1.out HLO.out _)) | (go_at_call_of 20 (Value.int IntKind.i64 2); exact Calls.ext_of (ref03_Divide N d 2 hi q3 (by omega) (by omega) (by omega) hM2.out HHI.out _))))
    refine wpQuiet_nil ?_
    intro x3 hx
    have hsz := hx.size
    try simp at hsz
    have hz3_0 : w.heap.size < x3.heap.size := by omega
    have c3_0_0 : x3.cell? ⟨w.heap.size, 0, none⟩ = some (Value.int .i64 2) := (hx.cell _ _ (by first | omega | (simp; done) | (simp; omega))).trans (by go_simp)
    have c3_0_1 : x3.cell? ⟨w.heap.size, 1, none⟩ = some (Value.int .i64 b) := (hx.cell _ _ (by first | omega | (simp; done) | (simp; omega))).trans (by go_simp)
    have c3_0_2 : x3.cell? ⟨w.heap.size, 2, none⟩ = some (Value.int .i64 f) := (hx.cell _ _ (by first | omega | (simp; done) | (simp; omega))).trans (by go_simp)
    have c3_0_3 : x3.cell? ⟨w.heap.size, 3, none⟩ = some (Value.int .i64 r) := (hx.cell _ _ (by first | omega | (simp; done) | (simp; omega))).trans (by go_simp)
    have c3_0_4 : x3.cell? ⟨w.heap.size, 4, none⟩ = some (Value.int .i64 o) := (hx.cell _ _ (by first | omega | (simp; done) | (simp; omega))).trans (by go_simp)
    have f3_0 : ∀ o, x3.frozen? ⟨w.heap.size, o, none⟩ = false := fun o => (hx.frozen _ _ (by first | omega | (simp; done) | (simp; omega))).trans (by go_simp)
    have hz3_1 : w.heap.size + 1 < x3.heap.size := by omega
    have c3_1_0 : x3.cell? ⟨w.heap.size + 1, 0, none⟩ = some (Value.int .i64 n) := (hx.cell _ _ (by first | omega | (simp; done) | (simp; omega))).trans (by go_simp)
    have c3_1_1 : x3.cell? ⟨w.heap.size + 1, 1, none⟩ = some (Value.int .i64 d) := (hx.cell _ _ (by first | omega | (simp; done) | (simp; omega))).trans (by go_simp)
    have f3_1 : ∀ o, x3.frozen? ⟨w.heap.size + 1, o, none⟩ = false := fun o => (hx.frozen _ _ (by first | omega | (simp; done) | (simp; omega))).trans (by go_simp)
    replace HU := Lib.hid (Up.trans (by repeat (first | exact HU.out | refine Up.setCell ?_ (by first | omega | (simp; done) | (simp; omega)) _ | refine Up.alloc ?_ _)) hx : Up w x3)
    clear c2_0_0 c2_0_1 c2_0_2 c2_0_3 c2_0_4 f2_0 c2_1_0 c2_1_1 f2_1
    clear hx hsz
    go_wp2_with fail
    refine (fixed_FromFrac _ _ _ _ _ n d _ _ _ HR.out na nb _).mono ?_
    rintro e4 x4 ⟨rfl, hx⟩
    have hsz := hx.size
    try simp at hsz
    have hz4_0 : w.heap.size < x4.heap.size := by omega
    have c4_0_0 : x4.cell? ⟨w.heap.size, 0, none⟩ = some (Value.int .i64 2) := (hx.cell _ _ (by first | omega | (simp; done) | (simp; omega))).trans (by go_simp)
    have c4_0_1 : x4.cell? ⟨w.heap.size, 1, none⟩ = some (Value.int .i64 b) := (hx.cell _ _ (by first | omega | (simp; done) | (simp; omega))).trans (by go_simp)
    have c4_0_2 : x4.cell? ⟨w.heap.size, 2, none⟩ = some (Value.int .i64 f) := (hx.cell _ _ (by first | omega | (simp; done) | (simp; omega))).trans (by go_simp)
    have c4_0_3 : x4.cell? ⟨w.heap.size, 3, none⟩ = some (Value.int .i64 r) := (hx.cell _ _ (by first | omega | (simp; done) | (simp; omega))).trans (by go_simp)
    have c4_0_4 : x4.cell? ⟨w.heap.size, 4, none⟩ = some (Value.int .i64 o) := (hx.cell _ _ (by first | omega | (simp; done) | (simp; omega))).trans (by go_simp)
    have f4_0 : ∀ o, x4.frozen? ⟨w.heap.size, o, none⟩ = false := fun o => (hx.frozen _ _ (by first | omega | (simp; done) | (simp; omega))).trans (by go_simp)
    have hz4_1 : w.heap.size + 1 < x4.heap.size := by omega
    have c4_1_0 : x4.cell? ⟨w.heap.size + 1, 0, none⟩ = some (Value.int .i64 n) := (hx.cell _ _ (by first | omega | (simp; done) | (simp; omega))).trans (by go_simp)
    have c4_1_1 : x4.cell? ⟨w.heap.size + 1, 1, none⟩ = some (Value.int .i64 d) := (hx.cell _ _ (by first | omega | (simp; done) | (simp; omega))).trans (by go_simp)
    have f4_1 : ∀ o, x4.frozen? ⟨w.heap.size + 1, o, none⟩ = false := fun o => (hx.frozen _ _ (by first | omega | (simp; done) | (simp; omega))).trans (by go_simp)
    replace HU := Lib.hid (Up.trans (by repeat (first | exact HU.out | refine Up.setCell ?_ (by first | omega | (simp; done) | (simp; omega)) _ | refine Up.alloc ?_ _)) hx : Up w x4)
    clear c3_0_0 c3_0_1 c3_0_2 c3_0_3 c3_0_4 f3_0 c3_1_0 c3_1_1 f3_1
    clear hx hsz
    have hne4_0 : (w.heap.size = x4.heap.size) = False := by simp; omega
    have hnf4_0 : (x4.heap.size = w.heap.size) = False := by simp; omega
    have hne4_1 : (w.heap.size + 1 = x4.heap.size) = False := by simp; omega
    have hnf4_1 : (x4.heap.size = w.heap.size + 1) = False := by simp; omega
    go_wp2_with fail
    refine (law03_examples _).mono ?_
    rintro e5 x5 ⟨rfl, hx⟩
    have hsz := hx.size
    try simp at hsz
    have hz5_0 : w.heap.size < x5.heap.size := by omega
    have c5_0_0 : x5.cell? ⟨w.heap.size, 0, none⟩ = some (Value.int .i64 2) := (hx.cell _ _ (by first | omega | (simp; done) | (simp; omega))).trans (by go_simp)
    have c5_0_1 : x5.cell? ⟨w.heap.size, 1, none⟩ = some (Value.int .i64 b) := (hx.cell _ _ (by first | omega | (simp; done) | (simp; omega))).trans (by go_simp)
    have c5_0_2 : x5.cell? ⟨w.heap.size, 2, none⟩ = some (Value.int .i64 f) := (hx.cell _ _ (by first | omega | (simp; done) | (simp; omega))).trans (by go_simp)
    have c5_0_3 : x5.cell? ⟨w.heap.size, 3, none⟩ = some (Value.int .i64 r) := (hx.cell _ _ (by first | omega | (simp; done) | (simp; omega))).trans (by go_simp)
    have c5_0_4 : x5.cell? ⟨w.heap.size, 4, none⟩ = some (Value.int .i64 o) := (hx.cell _ _ (by first | omega | (simp; done) | (simp; omega))).trans (by go_simp)
    have f5_0 : ∀ o, x5.frozen? ⟨w.heap.size, o, none⟩ = false := fun o => (hx.frozen _ _ (by first | omega | (simp; done) | (simp; omega))).trans (by go_simp)
    have hz5_1 : w.heap.size + 1 < x5.heap.size := by omega
    have c5_1_0 : x5.cell? ⟨w.heap.size + 1, 0, none⟩ = some (Value.int .i64 n) := (hx.cell _ _ (by first | omega | (simp; done) | (simp; omega))).trans (by go_simp)
    have c5_1_1 : x5.cell? ⟨w.heap.size + 1, 1, none⟩ = some (Value.int .i64 d) := (hx.cell _ _ (by first | omega | (simp; done) | (simp; omega))).trans (by go_simp)
    have f5_1 : ∀ o, x5.frozen? ⟨w.heap.size + 1, o, none⟩ = false := fun o => (hx.frozen _ _ (by first | omega | (simp; done) | (simp; omega))).trans (by go_simp)
    have hz5_2 : x4.heap.size < x5.heap.size := by omega
    have c5_2_0 : x5.cell? ⟨x4.heap.size, 0, none⟩ = some (Value.int .i64 m) := (hx.cell _ _ (by first | omega | (simp; done) | (simp; omega))).trans (by go_simp)
    have c5_2_1 : x5.cell? ⟨x4.heap.size, 1, none⟩ = some (Value.int .i64 1) := (hx.cell _ _ (by first | omega | (simp; done) | (simp; omega))).trans (by go_simp)
    have f5_2 : ∀ o, x5.frozen? ⟨x4.heap.size, o, none⟩ = false := fun o => (hx.frozen _ _ (by first | omega | (simp; done) | (simp; omega))).trans (by go_simp)
    replace HU := Lib.hid (Up.trans (by repeat (first | exact HU.out | refine Up.setCell ?_ (by first | omega | (simp; done) | (simp; omega)) _ | refine Up.alloc ?_ _)) hx : Up w x5)
    clear c4_0_0 c4_0_1 c4_0_2 c4_0_3 c4_0_4 f4_0 c4_1_0 c4_1_1 f4_1
    clear hx hsz
    go_wp2
    go_ret
    exact ⟨rfl, (by repeat (first | exact HU.out | refine Up.drewN _ ?_ | refine Up.setCell ?_ (by first | omega | (simp; done) | (simp; omega)) _ | refine Up.alloc ?_ _))⟩
  · have o2 : 0 ≤ O := by omega
    obtain ⟨g7, g8⟩ := g2 o2
    have hQ1 : -9223372036854775808 ≤ QD := by omega
    have hQ2 : QD ≤ 9223372036854775807 := by omega
    have r5 : (r == 4) = false := by simpa using r4
    have r6 : (r != 4) = true := by simpa using r4
    clear g1 g2 g8
    go_enter Try.func5, Try.ntmps5
    go_wp2_with fail
    refine (ref03_ValidateType _ _ _ _ _ _ HE.out _).mono ?_
    rintro e1 x1 ⟨rfl, hx⟩
    have hsz := hx.size
    try simp at hsz
    have hz1_0 : w.heap.size < x1.heap.size := by omega
    have c1_0_0 : x1.cell? ⟨w.heap.size, 0, none⟩ = some (Value.int .i64 2) := (hx.cell _ _ (by first | omega | (simp; done) | (simp; omega))).trans (by go_simp)
    have c1_0_1 : x1.cell? ⟨w.heap.size, 1, none⟩ = some (Value.int .i64 b) := (hx.cell _ _ (by first | omega | (simp; done) | (simp; omega))).trans (by go_simp)
    have c1_0_2 : x1.cell? ⟨w.heap.size, 2, none⟩ = some (Value.int .i64 f) := (hx.cell _ _ (by first | omega | (simp; done) | (simp; omega))).trans (by go_simp)
    have c1_0_3 : x1.cell? ⟨w.heap.size, 3, none⟩ = some (Value.int .i64 r) := (hx.cell _ _ (by first | omega | (simp; done) | (simp; omega))).trans (by go_simp)
    have c1_0_4 : x1.cell? ⟨w.heap.size, 4, none⟩ = some (Value.int .i64 o) := (hx.cell _ _ (by first | omega | (simp; done) | (simp; omega))).trans (by go_simp)
    have f1_0 : ∀ o, x1.frozen? ⟨w.heap.size, o, none⟩ = false := fun o => (hx.frozen _ _ (by first | omega | (simp; done) | (simp; omega))).trans (by go_simp)
    have hz1_1 : w.heap.size + 1 < x1.heap.size := by omega
    have c1_1_0 : x1.cell? ⟨w.heap.size + 1, 0, none⟩ = some (Value.int .i64 n) := (hx.cell _ _ (by first | omega | (simp; done) | (simp; omega))).trans (by go_simp)
    have c1_1_1 : x1.cell? ⟨w.heap.size + 1, 1, none⟩ = some (Value.int .i64 d) := (hx.cell _ _ (by first | omega | (simp; done) | (simp; omega))).trans (by go_simp)
    have f1_1 : ∀ o, x1.frozen? ⟨w.heap.size + 1, o, none⟩ = false := fun o => (hx.frozen _ _ (by first | omega | (simp; done) | (simp; omega))).trans (by go_simp)
    have HU := Lib.hid (Up.trans (by repeat (first | exact Up.refl _ | refine Up.alloc ?_ _)) hx : Up w x1)
    clear hx hsz
    go_wp2_with fail
    refine (law03_fraction n d true H1.out na nb _).mono ?_
    rintro e2 x2 ⟨rfl, hx⟩
    have hsz := hx.size
    try simp at hsz
    have hz2_0 : w.heap.size < x2.heap.size := by omega
    have c2_0_0 : x2.cell? ⟨w.heap.size, 0, none⟩ = some (Value.int .i64 2) := (hx.cell _ _ (by first | omega | (simp; done) | (simp; omega))).trans (by go_simp)
    have c2_0_1 : x2.cell? ⟨w.heap.size, 1, none⟩ = some (Value.int .i64 b) := (hx.cell _ _ (by first | omega | (simp; done) | (simp; omega))).trans (by go_simp)
    have c2_0_2 : x2.cell? ⟨w.heap.size, 2, none⟩ = some (Value.int .i64 f) := (hx.cell _ _ (by first | omega | (simp; done) | (simp; omega))).trans (by go_simp)
    have c2_0_3 : x2.cell? ⟨w.heap.size, 3, none⟩ = some (Value.int .i64 r) := (hx.cell _ _ (by first | omega | (simp; done) | (simp; omega))).trans (by go_simp)
    have c2_0_4 : x2.cell? ⟨w.heap.size, 4, none⟩ = some (Value.int .i64 o) := (hx.cell _ _ (by first | omega | (simp; done) | (simp; omega))).trans (by go_simp)
    have f2_0 : ∀ o, x2.frozen? ⟨w.heap.size, o, none⟩ = false := fun o => (hx.frozen _ _ (by first | omega | (simp; done) | (simp; omega))).trans (by go_simp)
    have hz2_1 : w.heap.size + 1 < x2.heap.size := by omega
    have c2_1_0 : x2.cell? ⟨w.heap.size + 1, 0, none⟩ = some (Value.int .i64 n) := (hx.cell _ _ (by first | omega | (simp; done) | (simp; omega))).trans (by go_simp)
    have c2_1_1 : x2.cell? ⟨w.heap.size + 1, 1, none⟩ = some (Value.int .i64 d) := (hx.cell _ _ (by first | omega | (simp; done) | (simp; omega))).trans (by go_simp)
    have f2_1 : ∀ o, x2.frozen? ⟨w.heap.size + 1, o, none⟩ = false := fun o => (hx.frozen _ _ (by first | omega | (simp; done) | (simp; omega))).trans (by go_simp)
    replace HU := Lib.hid (Up.trans (by repeat (first | exact HU.out | refine Up.setCell ?_ (by first | omega | (simp; done) | (simp; omega)) _ | refine Up.alloc ?_ _)) hx : Up w x2)
    clear c1_0_0 c1_0_1 c1_0_2 c1_0_3 c1_0_4 f1_0 c1_1_0 c1_1_1 f1_1
    clear hx hsz
    go_wp2_with fail
    have hq3_0 : w.heap.size < x2.heap.size + 1 := by omega
    have hq3_1 : w.heap.size + 1 < x2.heap.size + 1 := by omega
    refine wp_region_ext (by kernel_rfl) (by kernel_rfl) ?_
    repeat (go_big_quiet_step (first | (go_at_call_of 20 (Value.int IntKind.i64 1); exact Calls.ext_of (ref03_Divide N d 1 lo q3 (by omega) (by omega) (by omega) hM1.out HLO.out _)) | (go_at_call_of 20 (Value.int IntKind.i64 2); exact Calls.ext_of (ref03_Divide N d 2 hi q3 (by omega) (by omega) (by omega) hM2.out HHI.out _))))
    refine wpQuiet_nil ?_
    intro x3 hx
    have hsz := hx.size
    try simp at hsz
    have hz3_0 : w.heap.size < x3.heap.size := by omega
    have c3_0_0 : x3.cell? ⟨w.heap.size, 0, none⟩ = some (Value.int .i64 2) := (hx.cell _ _ (by first | omega | (simp; done) | (simp; omega))).trans (by go_simp)
    have c3_0_1 : x3.cell? ⟨w.heap.size, 1, none⟩ = some (Value.int .i64 b) := (hx.cell _ _ (by first | omega | (simp; done) | (simp; omega))).trans (by go_simp)
    have c3_0_2 : x3.cell? ⟨w.heap.size, 2, none⟩ = some (Value.int .i64 f) := (hx.cell _ _ (by first | omega | (simp; done) | (simp; omega))).trans (by go_simp)
    have c3_0_3 : x3.cell? ⟨w.heap.size, 3, none⟩ = some (Value.int .i64 r) := (hx.cell _ _ (by first | omega | (simp; done) | (simp; omega))).trans (by go_simp)
    have c3_0_4 : x3.cell? ⟨w.heap.size, 4, none⟩ = some (Value.int .i64 o) := (hx.cell _ _ (by first | omega | (simp; done) | (simp; omega))).trans (by go_simp)
    have f3_0 : ∀ o, x3.frozen? ⟨w.heap.size, o, none⟩ = false := fun o => (hx.frozen _ _ (by first | omega | (simp; done) | (simp; omega))).trans (by go_simp)
    have hz3_1 : w.heap.size + 1 < x3.heap.size := by omega
    have c3_1_0 : x3.cell? ⟨w.heap.size + 1, 0, none⟩ = some (Value.int .i64 n) := (hx.cell _ _ (by first | omega | (simp; done) | (simp; omega))).trans (by go_simp)
    have c3_1_1 : x3.cell? ⟨w.heap.size + 1, 1, none⟩ = some (Value.int .i64 d) := (hx.cell _ _ (by first | omega | (simp; done) | (simp; omega))).trans (by go_simp)
    have f3_1 : ∀ o, x3.frozen? ⟨w.heap.size + 1, o, none⟩ = false := fun o => (hx.frozen _ _ (by first | omega | (simp; done) | (simp; omega))).trans (by go_simp)
    replace HU := Lib.hid (Up.trans (by repeat (first | exact HU.out | refine Up.setCell ?_ (by first | omega | (simp; done) | (simp; omega)) _ | refine Up.alloc ?_ _)) hx : Up w x3)
    clear c2_0_0 c2_0_1 c2_0_2 c2_0_3 c2_0_4 f2_0 c2_1_0 c2_1_1 f2_1
    clear hx hsz
    go_wp2_with fail
    refine (fixed_FromFrac _ _ _ _ _ n d _ _ _ HR.out na nb _).mono ?_
    rintro e4 x4 ⟨rfl, hx⟩
    have hsz := hx.size
    try simp at hsz
    have hz4_0 : w.heap.size < x4.heap.size := by omega
    have c4_0_0 : x4.cell? ⟨w.heap.size, 0, none⟩ = some (Value.int .i64 2) := (hx.cell _ _ (by first | omega | (simp; done) | (simp; omega))).trans (by go_simp)
    have c4_0_1 : x4.cell? ⟨w.heap.size, 1, none⟩ = some (Value.int .i64 b) := (hx.cell _ _ (by first | omega | (simp; done) | (simp; omega))).trans (by go_simp)
    have c4_0_2 : x4.cell? ⟨w.heap.size, 2, none⟩ = some (Value.int .i64 f) := (hx.cell _ _ (by first | omega | (simp; done) | (simp; omega))).trans (by go_simp)
    have c4_0_3 : x4.cell? ⟨w.heap.size, 3, none⟩ = some (Value.int .i64 r) := (hx.cell _ _ (by first | omega | (simp; done) | (simp; omega))).trans (by go_simp)
    have c4_0_4 : x4.cell? ⟨w.heap.size, 4, none⟩ = some (Value.int .i64 o) := (hx.cell _ _ (by first | omega | (simp; done) | (simp; omega))).trans (by go_simp)
    have f4_0 : ∀ o, x4.frozen? ⟨w.heap.size, o, none⟩ = false := fun o => (hx.frozen _ _ (by first | omega | (simp; done) | (simp; omega))).trans (by go_simp)
    have hz4_1 : w.heap.size + 1 < x4.heap.size := by omega
    have c4_1_0 : x4.cell? ⟨w.heap.size + 1, 0, none⟩ = some (Value.int .i64 n) := (hx.cell _ _ (by first | omega | (simp; done) | (simp; omega))).trans (by go_simp)
    have c4_1_1 : x4.cell? ⟨w.heap.size + 1, 1, none⟩ = some (Value.int .i64 d) := (hx.cell _ _ (by first | omega | (simp; done) | (simp; omega))).trans (by go_simp)
    have f4_1 : ∀ o, x4.frozen? ⟨w.heap.size + 1, o, none⟩ = false := fun o => (hx.frozen _ _ (by first | omega | (simp; done) | (simp; omega))).trans (by go_simp)
    replace HU := Lib.hid (Up.trans (by repeat (first | exact HU.out | refine Up.setCell ?_ (by first | omega | (simp; done) | (simp; omega)) _ | refine Up.alloc ?_ _)) hx : Up w x4)
    clear c3_0_0 c3_0_1 c3_0_2 c3_0_3 c3_0_4 f3_0 c3_1_0 c3_1_1 f3_1
    clear hx hsz
    have hne4_0 : (w.heap.size = x4.heap.size) = False := by simp; omega
    have hnf4_0 : (x4.heap.size = w.heap.size) = False := by simp; omega
    have hne4_1 : (w.heap.size + 1 = x4.heap.size) = False := by simp; omega
    have hnf4_1 : (x4.heap.size = w.heap.size + 1) = False := by simp; omega
    go_wp2_with fail
    refine (law03_examples _).mono ?_
    rintro e5 x5 ⟨rfl, hx⟩
    have hsz := hx.size
    try simp at hsz
    have hz5_0 : w.heap.size < x5.heap.size := by omega
    have c5_0_0 : x5.cell? ⟨w.heap.size, 0, none⟩ = some (Value.int .i64 2) := (hx.cell _ _ (by first | omega | (simp; done) | (simp; omega))).trans (by go_simp)
    have c5_0_1 : x5.cell? ⟨w.heap.size, 1, none⟩ = some (Value.int .i64 b) := (hx.cell _ _ (by first | omega | (simp; done) | (simp; omega))).trans (by go_simp)
    have c5_0_2 : x5.cell? ⟨w.heap.size, 2, none⟩ = some (Value.int .i64 f) := (hx.cell _ _ (by first | omega | (simp; done) | (simp; omega))).trans (by go_simp)
    have c5_0_3 : x5.cell? ⟨w.heap.size, 3, none⟩ = some (Value.int .i64 r) := (hx.cell _ _ (by first | omega | (simp; done) | (simp; omega))).trans (by go_simp)
    have c5_0_4 : x5.cell? ⟨w.heap.size, 4, none⟩ = some (Value.int .i64 o) := (hx.cell _ _ (by first | omega | (simp; done) | (simp; omega))).trans (by go_simp)
    have f5_0 : ∀ o, x5.frozen? ⟨w.heap.size, o, none⟩ = false := fun o => (hx.frozen _ _ (by first | omega | (simp; done) | (simp; omega))).trans (by go_simp)
    have hz5_1 : w.heap.size + 1 < x5.heap.size := by omega
    have c5_1_0 : x5.cell? ⟨w.heap.size + 1, 0, none⟩ = some (Value.int .i64 n) := (hx.cell _ _ (by first | omega | (simp; done) | (simp; omega))).trans (by go_simp)
    have c5_1_1 : x5.cell? ⟨w.heap.size + 1, 1, none⟩ = some (Value.int .i64 d) := (hx.cell _ _ (by first | omega | (simp; done) | (simp; omega))).trans (by go_simp)
    have f5_1 : ∀ o, x5.frozen? ⟨w.heap.size + 1, o, none⟩ = false := fun o => (hx.frozen _ _ (by first | omega | (simp; done) | (simp; omega))).trans (by go_simp)
    have hz5_2 : x4.heap.size < x5.heap.size := by omega
    have c5_2_0 : x5.cell? ⟨x4.heap.size, 0, none⟩ = some (Value.int .i64 m) := (hx.cell _ _ (by first | omega | (simp; done) | (simp; omega))).trans (by go_simp)
    have c5_2_1 : x5.cell? ⟨x4.heap.size, 1, none⟩ = some (Value.int .i64 1) := (hx.cell _ _ (by first | omega | (simp; done) | (simp; omega))).trans (by go_simp)
    have f5_2 : ∀ o, x5.frozen? ⟨x4.heap.size, o, none⟩ = false := fun o => (hx.frozen _ _ (by first | omega | (simp; done) | (simp; omega))).trans (by go_simp)
    replace HU := Lib.hid (Up.trans (by repeat (first | exact HU.out | refine Up.setCell ?_ (by first | omega | (simp; done) | (simp; omega)) _ | refine Up.alloc ?_ _)) hx : Up w x5)
    clear c4_0_0 c4_0_1 c4_0_2 c4_0_3 c4_0_4 f4_0 c4_1_0 c4_1_1 f4_1
    clear hx hsz
    go_wp2
    go_ret
    exact ⟨rfl, (by repeat (first | exact HU.out | refine Up.drewN _ ?_ | refine Up.setCell ?_ (by first | omega | (simp; done) | (simp; omega)) _ | refine Up.alloc ?_ _))⟩

end Go.Proofs.Ytknojjmbhbbcmaa.fixedError
