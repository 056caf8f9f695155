/-
  FixedToFrac: the walk of the law. Printed by mk03l.py.
-/
import Derived.Test.YtknojjmbhbbcmaaFixT
import Derived.Test.YtknojjmbhbbcmaaFixX
import Derived.Test.YtknojjmbhbbcmaaOpenTy
import Derived.Test.YtknojjmbhbbcmaaOpenVal
namespace Go.Proofs.Ytknojjmbhbbcmaa.fixedToFrac
open Go.ChangeShapes Go.WideShapes Go.ChangeAt Go.RowKit
set_option linter.unusedVariables false
set_option linter.unusedSimpArgs false

set_option maxHeartbeats 8000000 in
set_option maxRecDepth 100000 in
theorem walk (W : World) {v0 v1 : Value} (w0 : IsTy v0) (w1 : IsVal v1) :
    Calls Try.prog 8 #[v0, v1] W fun e w' => e = .returned (.bool true) ∧ Up W w' := by
  revert W
  intro w
  obtain ⟨k, b, f, r, o, rfl⟩ := w0
  obtain ⟨n, d, rfl, na, nb, nc, nd⟩ := w1
  obtain ⟨c, hc⟩ : ∃ c, chkE k b f r o [(n, d)] = c := ⟨_, rfl⟩
  by_cases h0 : c = 0
  · subst h0
    obtain ⟨ht, hv⟩ := chk_zero hc
    have hs := vT_spec ht
    obtain ⟨s0, s1, s2, s3, s4, s5, s6, s7⟩ := hs
    have hv1 := hv (n, d) (by simp)
    obtain ⟨rfl, a1, a2⟩ := vV_spec s1 s2 hv1
    obtain ⟨e1, e2, e3, e4, e5⟩ := halve_spec f.toNat n (by omega)
    obtain ⟨x, hx⟩ : ∃ x, (halve f.toNat n).1 = x := ⟨_, rfl⟩
    obtain ⟨y, hy⟩ : ∃ x, (halve f.toNat n).2 = x := ⟨_, rfl⟩
    have HT : Hid (toR k b f r o n 1 = (x, y, 0)) := Lib.hid (by rw [toR, hc, if_neg (by omega), hx, hy])
    rw [hx, hy] at e1 e4
    rw [hy] at e2 e3
    rw [hx] at e5
    obtain ⟨p1, p2⟩ := pow30 f s3 s4
    have hmn : mag n ≤ 1073741824 := mag_le (by omega) (by omega)
    have hx3 : -1073741824 ≤ x ∧ x ≤ 1073741824 := by unfold mag at e5 hmn; split at e5 <;> split at e5 <;> split at hmn <;> omega
    have hvf : validF x y = true := by simp only [validF, decide_eq_true_eq]; exact ⟨e2, by omega, by omega, by omega, e4⟩
    have hp := of_decide_eq_true hv1
    have HX : Hid (fromR k b f r o x y = (n, 1, 0)) := Lib.hid (by
      rw [fromR, if_neg (by rw [ht]; simp), if_neg (by rw [hvf]; simp), e1, Int.mul_ediv_cancel n (by omega), rcorr_zero (Int.mul_emod_left n y), Int.add_zero, fit_in s1 s2 s7 hp.2.1 hp.2.2])
    obtain ⟨hx3, hx4⟩ := hx3
    clear hc ht hv s0 s1 s2 s3 s4 s5 s6 s7 hv1 e1 e2 e3 e4 e5 hx hy p1 p2 hmn hvf hp
    go_enter Try.func8, Try.ntmps8
    go_wp2_with fail
    refine (fixed_ToFrac _ _ _ _ _ _ _ _ _ _ HT.out _).mono ?_
    rintro e1 x1 ⟨rfl, hx⟩
    have hsz := hx.size
    try simp at hsz
    have hz1_0 : w.heap.size < x1.heap.size := by omega
    have c1_0_0 : x1.cell? ⟨w.heap.size, 0, none⟩ = some (Value.int .i64 k) := (hx.cell _ _ (by first | omega | (simp; done) | (simp; omega))).trans (by go_simp)
    have c1_0_1 : x1.cell? ⟨w.heap.size, 1, none⟩ = some (Value.int .i64 b) := (hx.cell _ _ (by first | omega | (simp; done) | (simp; omega))).trans (by go_simp)
    have c1_0_2 : x1.cell? ⟨w.heap.size, 2, none⟩ = some (Value.int .i64 f) := (hx.cell _ _ (by first | omega | (simp; done) | (simp; omega))).trans (by go_simp)
    have c1_0_3 : x1.cell? ⟨w.heap.size, 3, none⟩ = some (Value.int .i64 r) := (hx.cell _ _ (by first | omega | (simp; done) | (simp; omega))).trans (by go_simp)
    have c1_0_4 : x1.cell? ⟨w.heap.size, 4, none⟩ = some (Value.int .i64 o) := (hx.cell _ _ (by first | omega | (simp; done) | (simp; omega))).trans (by go_simp)
    have f1_0 : ∀ o, x1.frozen? ⟨w.heap.size, o, none⟩ = false := fun o => (hx.frozen _ _ (by first | omega | (simp; done) | (simp; omega))).trans (by go_simp)
    have hz1_1 : w.heap.size + 1 < x1.heap.size := by omega
    have c1_1_0 : x1.cell? ⟨w.heap.size + 1, 0, none⟩ = some (Value.int .i64 n) := (hx.cell _ _ (by first | omega | (simp; done) | (simp; omega))).trans (by go_simp)
    have c1_1_1 : x1.cell? ⟨w.heap.size + 1, 1, none⟩ = some (Value.int .i64 1) := (hx.cell _ _ (by first | omega | (simp; done) | (simp; omega))).trans (by go_simp)
    have f1_1 : ∀ o, x1.frozen? ⟨w.heap.size + 1, o, none⟩ = false := fun o => (hx.frozen _ _ (by first | omega | (simp; done) | (simp; omega))).trans (by go_simp)
    have HU := Lib.hid (Up.trans (by repeat (first | exact Up.refl _ | refine Up.alloc ?_ _)) hx : Up w x1)
    clear hx hsz
    have hne1_0 : (w.heap.size = x1.heap.size) = False := by simp; omega
    have hnf1_0 : (x1.heap.size = w.heap.size) = False := by simp; omega
    have hne1_1 : (w.heap.size + 1 = x1.heap.size) = False := by simp; omega
    have hnf1_1 : (x1.heap.size = w.heap.size + 1) = False := by simp; omega
    go_wp2_with fail
    refine (ref03_ToFrac _ _ _ _ _ _ _ _ _ _ HT.out _).mono ?_
    rintro e2 x2 ⟨rfl, hx⟩
    have hsz := hx.size
    try simp at hsz
    have hz2_0 : w.heap.size < x2.heap.size := by omega
    have c2_0_0 : x2.cell? ⟨w.heap.size, 0, none⟩ = some (Value.int .i64 k) := (hx.cell _ _ (by first | omega | (simp; done) | (simp; omega))).trans (by go_simp)
    have c2_0_1 : x2.cell? ⟨w.heap.size, 1, none⟩ = some (Value.int .i64 b) := (hx.cell _ _ (by first | omega | (simp; done) | (simp; omega))).trans (by go_simp)
    have c2_0_2 : x2.cell? ⟨w.heap.size, 2, none⟩ = some (Value.int .i64 f) := (hx.cell _ _ (by first | omega | (simp; done) | (simp; omega))).trans (by go_simp)
    have c2_0_3 : x2.cell? ⟨w.heap.size, 3, none⟩ = some (Value.int .i64 r) := (hx.cell _ _ (by first | omega | (simp; done) | (simp; omega))).trans (by go_simp)
    have c2_0_4 : x2.cell? ⟨w.heap.size, 4, none⟩ = some (Value.int .i64 o) := (hx.cell _ _ (by first | omega | (simp; done) | (simp; omega))).trans (by go_simp)
    have f2_0 : ∀ o, x2.frozen? ⟨w.heap.size, o, none⟩ = false := fun o => (hx.frozen _ _ (by first | omega | (simp; done) | (simp; omega))).trans (by go_simp)
    have hz2_1 : w.heap.size + 1 < x2.heap.size := by omega
    have c2_1_0 : x2.cell? ⟨w.heap.size + 1, 0, none⟩ = some (Value.int .i64 n) := (hx.cell _ _ (by first | omega | (simp; done) | (simp; omega))).trans (by go_simp)
    have c2_1_1 : x2.cell? ⟨w.heap.size + 1, 1, none⟩ = some (Value.int .i64 1) := (hx.cell _ _ (by first | omega | (simp; done) | (simp; omega))).trans (by go_simp)
    have f2_1 : ∀ o, x2.frozen? ⟨w.heap.size + 1, o, none⟩ = false := fun o => (hx.frozen _ _ (by first | omega | (simp; done) | (simp; omega))).trans (by go_simp)
    have hz2_2 : x1.heap.size < x2.heap.size := by omega
    have c2_2_0 : x2.cell? ⟨x1.heap.size, 0, none⟩ = some (Value.int .i64 x) := (hx.cell _ _ (by first | omega | (simp; done) | (simp; omega))).trans (by go_simp)
    have c2_2_1 : x2.cell? ⟨x1.heap.size, 1, none⟩ = some (Value.int .i64 y) := (hx.cell _ _ (by first | omega | (simp; done) | (simp; omega))).trans (by go_simp)
    have f2_2 : ∀ o, x2.frozen? ⟨x1.heap.size, o, none⟩ = false := fun o => (hx.frozen _ _ (by first | omega | (simp; done) | (simp; omega))).trans (by go_simp)
    replace HU := Lib.hid (Up.trans (by repeat (first | exact HU.out | refine Up.setCell ?_ (by first | omega | (simp; done) | (simp; omega)) _ | refine Up.alloc ?_ _)) hx : Up w x2)
    clear c1_0_0 c1_0_1 c1_0_2 c1_0_3 c1_0_4 f1_0 c1_1_0 c1_1_1 f1_1
    clear hx hsz
    have hne2_0 : (w.heap.size = x2.heap.size) = False := by simp; omega
    have hnf2_0 : (x2.heap.size = w.heap.size) = False := by simp; omega
    have hne2_1 : (w.heap.size + 1 = x2.heap.size) = False := by simp; omega
    have hnf2_1 : (x2.heap.size = w.heap.size + 1) = False := by simp; omega
    have hne2_2 : (x1.heap.size = x2.heap.size) = False := by simp; omega
    have hnf2_2 : (x2.heap.size = x1.heap.size) = False := by simp; omega
    go_wp2_with fail
    refine (fixed_FromFrac _ _ _ _ _ x y _ _ _ HX.out (by omega) (by omega) _).mono ?_
    rintro e3 x3 ⟨rfl, hx⟩
    have hsz := hx.size
    try simp at hsz
    have hz3_0 : w.heap.size < x3.heap.size := by omega
    have c3_0_0 : x3.cell? ⟨w.heap.size, 0, none⟩ = some (Value.int .i64 k) := (hx.cell _ _ (by first | omega | (simp; done) | (simp; omega))).trans (by go_simp)
    have c3_0_1 : x3.cell? ⟨w.heap.size, 1, none⟩ = some (Value.int .i64 b) := (hx.cell _ _ (by first | omega | (simp; done) | (simp; omega))).trans (by go_simp)
    have c3_0_2 : x3.cell? ⟨w.heap.size, 2, none⟩ = some (Value.int .i64 f) := (hx.cell _ _ (by first | omega | (simp; done) | (simp; omega))).trans (by go_simp)
    have c3_0_3 : x3.cell? ⟨w.heap.size, 3, none⟩ = some (Value.int .i64 r) := (hx.cell _ _ (by first | omega | (simp; done) | (simp; omega))).trans (by go_simp)
    have c3_0_4 : x3.cell? ⟨w.heap.size, 4, none⟩ = some (Value.int .i64 o) := (hx.cell _ _ (by first | omega | (simp; done) | (simp; omega))).trans (by go_simp)
    have f3_0 : ∀ o, x3.frozen? ⟨w.heap.size, o, none⟩ = false := fun o => (hx.frozen _ _ (by first | omega | (simp; done) | (simp; omega))).trans (by go_simp)
    have hz3_1 : w.heap.size + 1 < x3.heap.size := by omega
    have c3_1_0 : x3.cell? ⟨w.heap.size + 1, 0, none⟩ = some (Value.int .i64 n) := (hx.cell _ _ (by first | omega | (simp; done) | (simp; omega))).trans (by go_simp)
    have c3_1_1 : x3.cell? ⟨w.heap.size + 1, 1, none⟩ = some (Value.int .i64 1) := (hx.cell _ _ (by first | omega | (simp; done) | (simp; omega))).trans (by go_simp)
    have f3_1 : ∀ o, x3.frozen? ⟨w.heap.size + 1, o, none⟩ = false := fun o => (hx.frozen _ _ (by first | omega | (simp; done) | (simp; omega))).trans (by go_simp)
    have hz3_2 : x1.heap.size < x3.heap.size := by omega
    have c3_2_0 : x3.cell? ⟨x1.heap.size, 0, none⟩ = some (Value.int .i64 x) := (hx.cell _ _ (by first | omega | (simp; done) | (simp; omega))).trans (by go_simp)
    have c3_2_1 : x3.cell? ⟨x1.heap.size, 1, none⟩ = some (Value.int .i64 y) := (hx.cell _ _ (by first | omega | (simp; done) | (simp; omega))).trans (by go_simp)
    have f3_2 : ∀ o, x3.frozen? ⟨x1.heap.size, o, none⟩ = false := fun o => (hx.frozen _ _ (by first | omega | (simp; done) | (simp; omega))).trans (by go_simp)
    have hz3_3 : x2.heap.size < x3.heap.size := by omega
    have c3_3_0 : x3.cell? ⟨x2.heap.size, 0, none⟩ = some (Value.int .i64 x) := (hx.cell _ _ (by first | omega | (simp; done) | (simp; omega))).trans (by go_simp)
    have c3_3_1 : x3.cell? ⟨x2.heap.size, 1, none⟩ = some (Value.int .i64 y) := (hx.cell _ _ (by first | omega | (simp; done) | (simp; omega))).trans (by go_simp)
    have f3_3 : ∀ o, x3.frozen? ⟨x2.heap.size, o, none⟩ = false := fun o => (hx.frozen _ _ (by first | omega | (simp; done) | (simp; omega))).trans (by go_simp)
    replace HU := Lib.hid (Up.trans (by repeat (first | exact HU.out | refine Up.setCell ?_ (by first | omega | (simp; done) | (simp; omega)) _ | refine Up.alloc ?_ _)) hx : Up w x3)
    clear c2_0_0 c2_0_1 c2_0_2 c2_0_3 c2_0_4 f2_0 c2_1_0 c2_1_1 f2_1 c2_2_0 c2_2_1 f2_2
    clear hx hsz
    have hne3_0 : (w.heap.size = x3.heap.size) = False := by simp; omega
    have hnf3_0 : (x3.heap.size = w.heap.size) = False := by simp; omega
    have hne3_1 : (w.heap.size + 1 = x3.heap.size) = False := by simp; omega
    have hnf3_1 : (x3.heap.size = w.heap.size + 1) = False := by simp; omega
    have hne3_2 : (x1.heap.size = x3.heap.size) = False := by simp; omega
    have hnf3_2 : (x3.heap.size = x1.heap.size) = False := by simp; omega
    have hne3_3 : (x2.heap.size = x3.heap.size) = False := by simp; omega
    have hnf3_3 : (x3.heap.size = x2.heap.size) = False := by simp; omega
    go_wp2_with fail
    refine (law03_examples _).mono ?_
    rintro e4 x4 ⟨rfl, hx⟩
    have hsz := hx.size
    try simp at hsz
    have hz4_0 : w.heap.size < x4.heap.size := by omega
    have c4_0_0 : x4.cell? ⟨w.heap.size, 0, none⟩ = some (Value.int .i64 k) := (hx.cell _ _ (by first | omega | (simp; done) | (simp; omega))).trans (by go_simp)
    have c4_0_1 : x4.cell? ⟨w.heap.size, 1, none⟩ = some (Value.int .i64 b) := (hx.cell _ _ (by first | omega | (simp; done) | (simp; omega))).trans (by go_simp)
    have c4_0_2 : x4.cell? ⟨w.heap.size, 2, none⟩ = some (Value.int .i64 f) := (hx.cell _ _ (by first | omega | (simp; done) | (simp; omega))).trans (by go_simp)
    have c4_0_3 : x4.cell? ⟨w.heap.size, 3, none⟩ = some (Value.int .i64 r) := (hx.cell _ _ (by first | omega | (simp; done) | (simp; omega))).trans (by go_simp)
    have c4_0_4 : x4.cell? ⟨w.heap.size, 4, none⟩ = some (Value.int .i64 o) := (hx.cell _ _ (by first | omega | (simp; done) | (simp; omega))).trans (by go_simp)
    have f4_0 : ∀ o, x4.frozen? ⟨w.heap.size, o, none⟩ = false := fun o => (hx.frozen _ _ (by first | omega | (simp; done) | (simp; omega))).trans (by go_simp)
    have hz4_1 : w.heap.size + 1 < x4.heap.size := by omega
    have c4_1_0 : x4.cell? ⟨w.heap.size + 1, 0, none⟩ = some (Value.int .i64 n) := (hx.cell _ _ (by first | omega | (simp; done) | (simp; omega))).trans (by go_simp)
    have c4_1_1 : x4.cell? ⟨w.heap.size + 1, 1, none⟩ = some (Value.int .i64 1) := (hx.cell _ _ (by first | omega | (simp; done) | (simp; omega))).trans (by go_simp)
    have f4_1 : ∀ o, x4.frozen? ⟨w.heap.size + 1, o, none⟩ = false := fun o => (hx.frozen _ _ (by first | omega | (simp; done) | (simp; omega))).trans (by go_simp)
    have hz4_2 : x1.heap.size < x4.heap.size := by omega
    have c4_2_0 : x4.cell? ⟨x1.heap.size, 0, none⟩ = some (Value.int .i64 x) := (hx.cell _ _ (by first | omega | (simp; done) | (simp; omega))).trans (by go_simp)
    have c4_2_1 : x4.cell? ⟨x1.heap.size, 1, none⟩ = some (Value.int .i64 y) := (hx.cell _ _ (by first | omega | (simp; done) | (simp; omega))).trans (by go_simp)
    have f4_2 : ∀ o, x4.frozen? ⟨x1.heap.size, o, none⟩ = false := fun o => (hx.frozen _ _ (by first | omega | (simp; done) | (simp; omega))).trans (by go_simp)
    have hz4_3 : x2.heap.size < x4.heap.size := by omega
    have c4_3_0 : x4.cell? ⟨x2.heap.size, 0, none⟩ = some (Value.int .i64 x) := (hx.cell _ _ (by first | omega | (simp; done) | (simp; omega))).trans (by go_simp)
    have c4_3_1 : x4.cell? ⟨x2.heap.size, 1, none⟩ = some (Value.int .i64 y) := (hx.cell _ _ (by first | omega | (simp; done) | (simp; omega))).trans (by go_simp)
    have f4_3 : ∀ o, x4.frozen? ⟨x2.heap.size, o, none⟩ = false := fun o => (hx.frozen _ _ (by first | omega | (simp; done) | (simp; omega))).trans (by go_simp)
    have hz4_4 : x3.heap.size < x4.heap.size := by omega
    have c4_4_0 : x4.cell? ⟨x3.heap.size, 0, none⟩ = some (Value.int .i64 n) := (hx.cell _ _ (by first | omega | (simp; done) | (simp; omega))).trans (by go_simp)
    have c4_4_1 : x4.cell? ⟨x3.heap.size, 1, none⟩ = some (Value.int .i64 1) := (hx.cell _ _ (by first | omega | (simp; done) | (simp; omega))).trans (by go_simp)
    have f4_4 : ∀ o, x4.frozen? ⟨x3.heap.size, o, none⟩ = false := fun o => (hx.frozen _ _ (by first | omega | (simp; done) | (simp; omega))).trans (by go_simp)
    replace HU := Lib.hid (Up.trans (by repeat (first | exact HU.out | refine Up.setCell ?_ (by first | omega | (simp; done) | (simp; omega)) _ | refine Up.alloc ?_ _)) hx : Up w x4)
    clear c3_0_0 c3_0_1 c3_0_2 c3_0_3 c3_0_4 f3_0 c3_1_0 c3_1_1 f3_1 c3_2_0 c3_2_1 f3_2 c3_3_0 c3_3_1 f3_3
    clear hx hsz
    go_wp2
    go_ret
    exact ⟨rfl, (by repeat (first | exact HU.out | refine Up.drewN _ ?_ | refine Up.setCell ?_ (by first | omega | (simp; done) | (simp; omega)) _ | refine Up.alloc ?_ _))⟩
  · have HT : Hid (toR k b f r o n d = (0, 0, c)) := Lib.hid (by rw [toR, hc, if_pos h0])
    have he1 : (c == 0) = false := by simpa using h0
    have he2 : (c != 0) = true := by simpa using h0
    clear hc
    go_enter Try.func8, Try.ntmps8
    go_wp2_with fail
    refine (fixed_ToFrac _ _ _ _ _ _ _ _ _ _ HT.out _).mono ?_
    rintro e1 x1 ⟨rfl, hx⟩
    have hsz := hx.size
    try simp at hsz
    have hz1_0 : w.heap.size < x1.heap.size := by omega
    have c1_0_0 : x1.cell? ⟨w.heap.size, 0, none⟩ = some (Value.int .i64 k) := (hx.cell _ _ (by first | omega | (simp; done) | (simp; omega))).trans (by go_simp)
    have c1_0_1 : x1.cell? ⟨w.heap.size, 1, none⟩ = some (Value.int .i64 b) := (hx.cell _ _ (by first | omega | (simp; done) | (simp; omega))).trans (by go_simp)
    have c1_0_2 : x1.cell? ⟨w.heap.size, 2, none⟩ = some (Value.int .i64 f) := (hx.cell _ _ (by first | omega | (simp; done) | (simp; omega))).trans (by go_simp)
    have c1_0_3 : x1.cell? ⟨w.heap.size, 3, none⟩ = some (Value.int .i64 r) := (hx.cell _ _ (by first | omega | (simp; done) | (simp; omega))).trans (by go_simp)
    have c1_0_4 : x1.cell? ⟨w.heap.size, 4, none⟩ = some (Value.int .i64 o) := (hx.cell _ _ (by first | omega | (simp; done) | (simp; omega))).trans (by go_simp)
    have f1_0 : ∀ o, x1.frozen? ⟨w.heap.size, o, none⟩ = false := fun o => (hx.frozen _ _ (by first | omega | (simp; done) | (simp; omega))).trans (by go_simp)
    have hz1_1 : w.heap.size + 1 < x1.heap.size := by omega
    have c1_1_0 : x1.cell? ⟨w.heap.size + 1, 0, none⟩ = some (Value.int .i64 n) := (hx.cell _ _ (by first | omega | (simp; done) | (simp; omega))).trans (by go_simp)
    have c1_1_1 : x1.cell? ⟨w.heap.size + 1, 1, none⟩ = some (Value.int .i64 d) := (hx.cell _ _ (by first | omega | (simp; done) | (simp; omega))).trans (by go_simp)
    have f1_1 : ∀ o, x1.frozen? ⟨w.heap.size + 1, o, none⟩ = false := fun o => (hx.frozen _ _ (by first | omega | (simp; done) | (simp; omega))).trans (by go_simp)
    have HU := Lib.hid (Up.trans (by repeat (first | exact Up.refl _ | refine Up.alloc ?_ _)) hx : Up w x1)
    clear hx hsz
    have hne1_0 : (w.heap.size = x1.heap.size) = False := by simp; omega
    have hnf1_0 : (x1.heap.size = w.heap.size) = False := by simp; omega
    have hne1_1 : (w.heap.size + 1 = x1.heap.size) = False := by simp; omega
    have hnf1_1 : (x1.heap.size = w.heap.size + 1) = False := by simp; omega
    go_wp2_with fail
    refine (ref03_ToFrac _ _ _ _ _ _ _ _ _ _ HT.out _).mono ?_
    rintro e2 x2 ⟨rfl, hx⟩
    have hsz := hx.size
    try simp at hsz
    have hz2_0 : w.heap.size < x2.heap.size := by omega
    have c2_0_0 : x2.cell? ⟨w.heap.size, 0, none⟩ = some (Value.int .i64 k) := (hx.cell _ _ (by first | omega | (simp; done) | (simp; omega))).trans (by go_simp)
    have c2_0_1 : x2.cell? ⟨w.heap.size, 1, none⟩ = some (Value.int .i64 b) := (hx.cell _ _ (by first | omega | (simp; done) | (simp; omega))).trans (by go_simp)
    have c2_0_2 : x2.cell? ⟨w.heap.size, 2, none⟩ = some (Value.int .i64 f) := (hx.cell _ _ (by first | omega | (simp; done) | (simp; omega))).trans (by go_simp)
    have c2_0_3 : x2.cell? ⟨w.heap.size, 3, none⟩ = some (Value.int .i64 r) := (hx.cell _ _ (by first | omega | (simp; done) | (simp; omega))).trans (by go_simp)
    have c2_0_4 : x2.cell? ⟨w.heap.size, 4, none⟩ = some (Value.int .i64 o) := (hx.cell _ _ (by first | omega | (simp; done) | (simp; omega))).trans (by go_simp)
    have f2_0 : ∀ o, x2.frozen? ⟨w.heap.size, o, none⟩ = false := fun o => (hx.frozen _ _ (by first | omega | (simp; done) | (simp; omega))).trans (by go_simp)
    have hz2_1 : w.heap.size + 1 < x2.heap.size := by omega
    have c2_1_0 : x2.cell? ⟨w.heap.size + 1, 0, none⟩ = some (Value.int .i64 n) := (hx.cell _ _ (by first | omega | (simp; done) | (simp; omega))).trans (by go_simp)
    have c2_1_1 : x2.cell? ⟨w.heap.size + 1, 1, none⟩ = some (Value.int .i64 d) := (hx.cell _ _ (by first | omega | (simp; done) | (simp; omega))).trans (by go_simp)
    have f2_1 : ∀ o, x2.frozen? ⟨w.heap.size + 1, o, none⟩ = false := fun o => (hx.frozen _ _ (by first | omega | (simp; done) | (simp; omega))).trans (by go_simp)
    have hz2_2 : x1.heap.size < x2.heap.size := by omega
    have c2_2_0 : x2.cell? ⟨x1.heap.size, 0, none⟩ = some (Value.int .i64 0) := (hx.cell _ _ (by first | omega | (simp; done) | (simp; omega))).trans (by go_simp)
    have c2_2_1 : x2.cell? ⟨x1.heap.size, 1, none⟩ = some (Value.int .i64 0) := (hx.cell _ _ (by first | omega | (simp; done) | (simp; omega))).trans (by go_simp)
    have f2_2 : ∀ o, x2.frozen? ⟨x1.heap.size, o, none⟩ = false := fun o => (hx.frozen _ _ (by first | omega | (simp; done) | (simp; omega))).trans (by go_simp)
    replace HU := Lib.hid (Up.trans (by repeat (first | exact HU.out | refine Up.setCell ?_ (by first | omega | (simp; done) | (simp; omega)) _ | refine Up.alloc ?_ _)) hx : Up w x2)
    clear c1_0_0 c1_0_1 c1_0_2 c1_0_3 c1_0_4 f1_0 c1_1_0 c1_1_1 f1_1
    clear hx hsz
    have hne2_0 : (w.heap.size = x2.heap.size) = False := by simp; omega
    have hnf2_0 : (x2.heap.size = w.heap.size) = False := by simp; omega
    have hne2_1 : (w.heap.size + 1 = x2.heap.size) = False := by simp; omega
    have hnf2_1 : (x2.heap.size = w.heap.size + 1) = False := by simp; omega
    have hne2_2 : (x1.heap.size = x2.heap.size) = False := by simp; omega
    have hnf2_2 : (x2.heap.size = x1.heap.size) = False := by simp; omega
    go_wp2_with fail
    refine (law03_examples _).mono ?_
    rintro e3 x3 ⟨rfl, hx⟩
    have hsz := hx.size
    try simp at hsz
    have hz3_0 : w.heap.size < x3.heap.size := by omega
    have c3_0_0 : x3.cell? ⟨w.heap.size, 0, none⟩ = some (Value.int .i64 k) := (hx.cell _ _ (by first | omega | (simp; done) | (simp; omega))).trans (by go_simp)
    have c3_0_1 : x3.cell? ⟨w.heap.size, 1, none⟩ = some (Value.int .i64 b) := (hx.cell _ _ (by first | omega | (simp; done) | (simp; omega))).trans (by go_simp)
    have c3_0_2 : x3.cell? ⟨w.heap.size, 2, none⟩ = some (Value.int .i64 f) := (hx.cell _ _ (by first | omega | (simp; done) | (simp; omega))).trans (by go_simp)
    have c3_0_3 : x3.cell? ⟨w.heap.size, 3, none⟩ = some (Value.int .i64 r) := (hx.cell _ _ (by first | omega | (simp; done) | (simp; omega))).trans (by go_simp)
    have c3_0_4 : x3.cell? ⟨w.heap.size, 4, none⟩ = some (Value.int .i64 o) := (hx.cell _ _ (by first | omega | (simp; done) | (simp; omega))).trans (by go_simp)
    have f3_0 : ∀ o, x3.frozen? ⟨w.heap.size, o, none⟩ = false := fun o => (hx.frozen _ _ (by first | omega | (simp; done) | (simp; omega))).trans (by go_simp)
    have hz3_1 : w.heap.size + 1 < x3.heap.size := by omega
    have c3_1_0 : x3.cell? ⟨w.heap.size + 1, 0, none⟩ = some (Value.int .i64 n) := (hx.cell _ _ (by first | omega | (simp; done) | (simp; omega))).trans (by go_simp)
    have c3_1_1 : x3.cell? ⟨w.heap.size + 1, 1, none⟩ = some (Value.int .i64 d) := (hx.cell _ _ (by first | omega | (simp; done) | (simp; omega))).trans (by go_simp)
    have f3_1 : ∀ o, x3.frozen? ⟨w.heap.size + 1, o, none⟩ = false := fun o => (hx.frozen _ _ (by first | omega | (simp; done) | (simp; omega))).trans (by go_simp)
    have hz3_2 : x1.heap.size < x3.heap.size := by omega
    have c3_2_0 : x3.cell? ⟨x1.heap.size, 0, none⟩ = some (Value.int .i64 0) := (hx.cell _ _ (by first | omega | (simp; done) | (simp; omega))).trans (by go_simp)
    have c3_2_1 : x3.cell? ⟨x1.heap.size, 1, none⟩ = some (Value.int .i64 0) := (hx.cell _ _ (by first | omega | (simp; done) | (simp; omega))).trans (by go_simp)
    have f3_2 : ∀ o, x3.frozen? ⟨x1.heap.size, o, none⟩ = false := fun o => (hx.frozen _ _ (by first | omega | (simp; done) | (simp; omega))).trans (by go_simp)
    have hz3_3 : x2.heap.size < x3.heap.size := by omega
    have c3_3_0 : x3.cell? ⟨x2.heap.size, 0, none⟩ = some (Value.int .i64 0) := (hx.cell _ _ (by first | omega | (simp; done) | (simp; omega))).trans (by go_simp)
    have c3_3_1 : x3.cell? ⟨x2.heap.size, 1, none⟩ = some (Value.int .i64 0) := (hx.cell _ _ (by first | omega | (simp; done) | (simp; omega))).trans (by go_simp)
    have f3_3 : ∀ o, x3.frozen? ⟨x2.heap.size, o, none⟩ = false := fun o => (hx.frozen _ _ (by first | omega | (simp; done) | (simp; omega))).trans (by go_simp)
    replace HU := Lib.hid (Up.trans (by repeat (first | exact HU.out | refine Up.setCell ?_ (by first | omega | (simp; done) | (simp; omega)) _ | refine Up.alloc ?_ _)) hx : Up w x3)
    clear c2_0_0 c2_0_1 c2_0_2 c2_0_3 c2_0_4 f2_0 c2_1_0 c2_1_1 f2_1 c2_2_0 c2_2_1 f2_2
    clear hx hsz
    go_wp2
    go_ret
    exact ⟨rfl, (by repeat (first | exact HU.out | refine Up.drewN _ ?_ | refine Up.setCell ?_ (by first | omega | (simp; done) | (simp; omega)) _ | refine Up.alloc ?_ _))⟩

end Go.Proofs.Ytknojjmbhbbcmaa.fixedToFrac
