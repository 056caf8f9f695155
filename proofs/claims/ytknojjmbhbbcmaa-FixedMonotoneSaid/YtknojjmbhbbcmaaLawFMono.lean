/-
  FixedMonotone: the walk of the law. Printed by mk03l.py.
-/
import Derived.Test.YtknojjmbhbbcmaaFixH
import Derived.Test.YtknojjmbhbbcmaaFixX
import Derived.Test.YtknojjmbhbbcmaaOpenTy
import Derived.Test.YtknojjmbhbbcmaaOpenVal
namespace Go.Proofs.Ytknojjmbhbbcmaa.fixedMonotone
open Go.ChangeShapes Go.WideShapes Go.ChangeAt Go.RowKit
set_option linter.unusedVariables false
set_option linter.unusedSimpArgs false

set_option maxHeartbeats 8000000 in
set_option maxRecDepth 100000 in
theorem walk (W : World) {v0 v1 v2 : Value} (w0 : IsTy v0) (w1 : IsVal v1) (w2 : IsVal v2) :
    Calls Try.prog 6 #[v0, v1, v2] W fun e w' => e = .returned (.bool true) ∧ Up W w' := by
  revert W
  intro w
  obtain ⟨k, b, f, r, o, rfl⟩ := w0
  obtain ⟨n1, d1, rfl, n1a, n1b, n1c, n1d⟩ := w1
  obtain ⟨n2, d2, rfl, n2a, n2b, n2c, n2d⟩ := w2
  obtain ⟨vv, hvv⟩ : ∃ vv, vT k b f r o = vv := ⟨_, rfl⟩
  have HV := Lib.hid hvv
  clear hvv
  obtain ⟨u1, h1⟩ : ∃ u, validF n1 d1 = u := ⟨_, rfl⟩
  obtain ⟨u2, h2⟩ : ∃ u, validF n2 d2 = u := ⟨_, rfl⟩
  have H1 := Lib.hid h1
  have H2 := Lib.hid h2
  clear h1 h2
  cases vv
  · have HE : Hid (eT k b f r o = 10) := Lib.hid (by rw [eT, HV.out]; rfl)
    go_enter Try.func6, Try.ntmps6
    go_wp2_with fail
    refine (ref03_ValidateType _ _ _ _ _ _ HE.out _).mono ?_
    rintro e1 x1 ⟨rfl, hW⟩
    obtain ⟨hc, hf⟩ := hW.both
    have HW := Lib.hid hW
    clear hW
    go_wp2_with fail
    refine (law03_examples _).mono ?_
    rintro e2 x2 ⟨rfl, hx⟩
    replace HW := Lib.hid (HW.out.trans hx)
    clear hc hf hx
    obtain ⟨hc, hf⟩ := HW.out.both
    go_wp2
    go_ret
    exact ⟨rfl, (by repeat (first | exact Up.trans (by repeat (first | exact Up.refl _ | refine Up.alloc ?_ _)) HW.out | refine Up.setCell ?_ (by first | omega | (simp; done) | (simp; omega)) _ | refine Up.alloc ?_ _))⟩
  have HE : Hid (eT k b f r o = 0) := Lib.hid (eT_zero.2 HV.out)
  obtain ⟨rfl, s1, s2, s3, s4, s5, s6, s7⟩ := vT_spec HV.out
  by_cases ho : ¬ o = 1
  · have ho1 : (o == 1) = false := by simpa using ho
    have ho2 : (o != 1) = true := by simpa using ho
    clear s7
    go_enter Try.func6, Try.ntmps6
    go_wp2_with fail
    refine (ref03_ValidateType _ _ _ _ _ _ HE.out _).mono ?_
    rintro e1 x1 ⟨rfl, hW⟩
    obtain ⟨hc, hf⟩ := hW.both
    have HW := Lib.hid hW
    clear hW
    go_wp2_with fail
    refine (law03_examples _).mono ?_
    rintro e2 x2 ⟨rfl, hx⟩
    replace HW := Lib.hid (HW.out.trans hx)
    clear hc hf hx
    obtain ⟨hc, hf⟩ := HW.out.both
    go_wp2
    go_ret
    exact ⟨rfl, (by repeat (first | exact Up.trans (by repeat (first | exact Up.refl _ | refine Up.alloc ?_ _)) HW.out | refine Up.setCell ?_ (by first | omega | (simp; done) | (simp; omega)) _ | refine Up.alloc ?_ _))⟩
  obtain rfl : o = 1 := by omega
  clear s7 ho
  cases u1
  · go_enter Try.func6, Try.ntmps6
    go_wp2_with fail
    refine (ref03_ValidateType _ _ _ _ _ _ HE.out _).mono ?_
    rintro e1 x1 ⟨rfl, hW⟩
    obtain ⟨hc, hf⟩ := hW.both
    have HW := Lib.hid hW
    clear hW
    go_wp2_with fail
    refine (law03_fraction n1 d1 false H1.out n1a n1b _).mono ?_
    rintro e2 x2 ⟨rfl, hx⟩
    replace HW := Lib.hid (HW.out.trans hx)
    clear hc hf hx
    obtain ⟨hc, hf⟩ := HW.out.both
    go_wp2_with fail
    refine (law03_examples _).mono ?_
    rintro e3 x3 ⟨rfl, hx⟩
    replace HW := Lib.hid (HW.out.trans hx)
    clear hc hf hx
    obtain ⟨hc, hf⟩ := HW.out.both
    go_wp2
    go_ret
    exact ⟨rfl, (by repeat (first | exact Up.trans (by repeat (first | exact Up.refl _ | refine Up.alloc ?_ _)) HW.out | refine Up.setCell ?_ (by first | omega | (simp; done) | (simp; omega)) _ | refine Up.alloc ?_ _))⟩
  cases u2
  · go_enter Try.func6, Try.ntmps6
    go_wp2_with fail
    refine (ref03_ValidateType _ _ _ _ _ _ HE.out _).mono ?_
    rintro e1 x1 ⟨rfl, hW⟩
    obtain ⟨hc, hf⟩ := hW.both
    have HW := Lib.hid hW
    clear hW
    go_wp2_with fail
    refine (law03_fraction n1 d1 true H1.out n1a n1b _).mono ?_
    rintro e2 x2 ⟨rfl, hx⟩
    replace HW := Lib.hid (HW.out.trans hx)
    clear hc hf hx
    obtain ⟨hc, hf⟩ := HW.out.both
    go_wp2_with fail
    refine (law03_fraction n2 d2 false H2.out n2a n2b _).mono ?_
    rintro e3 x3 ⟨rfl, hx⟩
    replace HW := Lib.hid (HW.out.trans hx)
    clear hc hf hx
    obtain ⟨hc, hf⟩ := HW.out.both
    go_wp2_with fail
    refine (law03_examples _).mono ?_
    rintro e4 x4 ⟨rfl, hx⟩
    replace HW := Lib.hid (HW.out.trans hx)
    clear hc hf hx
    obtain ⟨hc, hf⟩ := HW.out.both
    go_wp2
    go_ret
    exact ⟨rfl, (by repeat (first | exact Up.trans (by repeat (first | exact Up.refl _ | refine Up.alloc ?_ _)) HW.out | refine Up.setCell ?_ (by first | omega | (simp; done) | (simp; omega)) _ | refine Up.alloc ?_ _))⟩
  obtain ⟨v1, v2, v3, v4, _⟩ := validF_spec H1.out
  obtain ⟨t1, t2, t3, t4, _⟩ := validF_spec H2.out
  obtain ⟨P1, hP1⟩ : ∃ P, n1 * d2 = P := ⟨_, rfl⟩
  obtain ⟨P2, hP2⟩ : ∃ P, n2 * d1 = P := ⟨_, rfl⟩
  have hb1 := mul_bd n1 d2 2147483647 2147483647 (by omega) v4 (by omega) (by omega) t2
  have hb2 := mul_bd n2 d1 2147483647 2147483647 (by omega) t4 (by omega) (by omega) v2
  rw [hP1] at hb1
  rw [hP2] at hb2
  obtain ⟨hb1, hb3⟩ := hb1
  obtain ⟨hb2, hb4⟩ := hb2
  obtain ⟨p1, p2⟩ := pow30 f s3 s4
  have hmono : ∀ m1 e1 m2 e2 : Int, 1 ≤ e1 → 1 ≤ e2 → m1 * e2 ≤ m2 * e1 → fitN (m1 * 2 ^ f.toNat / e1 + rcorr (m1 * 2 ^ f.toNat) e1 r) b 1 ≤ fitN (m2 * 2 ^ f.toNat / e2 + rcorr (m2 * 2 ^ f.toNat) e2 r) b 1 := fun m1 e1 m2 e2 g1 g2 g3 =>
    fit_mono s1 s2 (round_mono g1 g2 (by
      have : m1 * e2 * 2 ^ f.toNat ≤ m2 * e1 * 2 ^ f.toNat := Int.mul_le_mul_of_nonneg_right g3 (by omega)
      rw [Int.mul_assoc, Int.mul_comm (2 ^ f.toNat) e2, ← Int.mul_assoc, Int.mul_assoc m2, Int.mul_comm (2 ^ f.toNat) e1, ← Int.mul_assoc]
      exact this))
  obtain ⟨x, hx⟩ : ∃ x, fitN (n1 * 2 ^ f.toNat / d1 + rcorr (n1 * 2 ^ f.toNat) d1 r) b 1 = x := ⟨_, rfl⟩
  obtain ⟨y, hy⟩ : ∃ x, fitN (n2 * 2 ^ f.toNat / d2 + rcorr (n2 * 2 ^ f.toNat) d2 r) b 1 = x := ⟨_, rfl⟩
  have HX : Hid (fromR 2 b f r 1 n1 d1 = (x, 1, 0)) := Lib.hid (by rw [fromR, if_neg (by rw [HV.out]; simp), if_neg (by rw [H1.out]; simp), hx])
  have HY : Hid (fromR 2 b f r 1 n2 d2 = (y, 1, 0)) := Lib.hid (by rw [fromR, if_neg (by rw [HV.out]; simp), if_neg (by rw [H2.out]; simp), hy])
  by_cases hsw : P2 < P1
  · have hle : y ≤ x := by rw [← hx, ← hy]; exact hmono _ _ _ _ t1 v1 (by omega)
    clear hmono hx hy
    have HP1 := Lib.hid hP1
    go_enter Try.func6, Try.ntmps6
    go_wp2_with fail
    refine (ref03_ValidateType _ _ _ _ _ _ HE.out _).mono ?_
    rintro e1 x1 ⟨rfl, hx⟩
    have hsz := hx.size
    try simp at hsz
    have hz1_0 : w.heap.size < x1.heap.size := by omega
    have c1_0_0 : x1.cell? ⟨w.heap.size, 0, none⟩ = some (Value.int .i64 2) := (hx.cell _ _ (by first | omega | (simp; done) | (simp; omega))).trans (by go_simp)
    have c1_0_1 : x1.cell? ⟨w.heap.size, 1, none⟩ = some (Value.int .i64 b) := (hx.cell _ _ (by first | omega | (simp; done) | (simp; omega))).trans (by go_simp)
    have c1_0_2 : x1.cell? ⟨w.heap.size, 2, none⟩ = some (Value.int .i64 f) := (hx.cell _ _ (by first | omega | (simp; done) | (simp; omega))).trans (by go_simp)
    have c1_0_3 : x1.cell? ⟨w.heap.size, 3, none⟩ = some (Value.int .i64 r) := (hx.cell _ _ (by first | omega | (simp; done) | (simp; omega))).trans (by go_simp)
    have c1_0_4 : x1.cell? ⟨w.heap.size, 4, none⟩ = some (Value.int .i64 1) := (hx.cell _ _ (by first | omega | (simp; done) | (simp; omega))).trans (by go_simp)
    have f1_0 : ∀ o, x1.frozen? ⟨w.heap.size, o, none⟩ = false := fun o => (hx.frozen _ _ (by first | omega | (simp; done) | (simp; omega))).trans (by go_simp)
    have hz1_1 : w.heap.size + 1 < x1.heap.size := by omega
    have c1_1_0 : x1.cell? ⟨w.heap.size + 1, 0, none⟩ = some (Value.int .i64 n1) := (hx.cell _ _ (by first | omega | (simp; done) | (simp; omega))).trans (by go_simp)
    have c1_1_1 : x1.cell? ⟨w.heap.size + 1, 1, none⟩ = some (Value.int .i64 d1) := (hx.cell _ _ (by first | omega | (simp; done) | (simp; omega))).trans (by go_simp)
    have f1_1 : ∀ o, x1.frozen? ⟨w.heap.size + 1, o, none⟩ = false := fun o => (hx.frozen _ _ (by first | omega | (simp; done) | (simp; omega))).trans (by go_simp)
    have hz1_2 : w.heap.size + 1 + 1 < x1.heap.size := by omega
    have c1_2_0 : x1.cell? ⟨w.heap.size + 1 + 1, 0, none⟩ = some (Value.int .i64 n2) := (hx.cell _ _ (by first | omega | (simp; done) | (simp; omega))).trans (by go_simp)
    have c1_2_1 : x1.cell? ⟨w.heap.size + 1 + 1, 1, none⟩ = some (Value.int .i64 d2) := (hx.cell _ _ (by first | omega | (simp; done) | (simp; omega))).trans (by go_simp)
    have f1_2 : ∀ o, x1.frozen? ⟨w.heap.size + 1 + 1, o, none⟩ = false := fun o => (hx.frozen _ _ (by first | omega | (simp; done) | (simp; omega))).trans (by go_simp)
    have HU := Lib.hid (Up.trans (by repeat (first | exact Up.refl _ | refine Up.alloc ?_ _)) hx : Up w x1)
    clear hx hsz
    go_wp2_with fail
    refine (law03_fraction n1 d1 true H1.out n1a n1b _).mono ?_
    rintro e2 x2 ⟨rfl, hx⟩
    have hsz := hx.size
    try simp at hsz
    have hz2_0 : w.heap.size < x2.heap.size := by omega
    have c2_0_0 : x2.cell? ⟨w.heap.size, 0, none⟩ = some (Value.int .i64 2) := (hx.cell _ _ (by first | omega | (simp; done) | (simp; omega))).trans (by go_simp)
    have c2_0_1 : x2.cell? ⟨w.heap.size, 1, none⟩ = some (Value.int .i64 b) := (hx.cell _ _ (by first | omega | (simp; done) | (simp; omega))).trans (by go_simp)
    have c2_0_2 : x2.cell? ⟨w.heap.size, 2, none⟩ = some (Value.int .i64 f) := (hx.cell _ _ (by first | omega | (simp; done) | (simp; omega))).trans (by go_simp)
    have c2_0_3 : x2.cell? ⟨w.heap.size, 3, none⟩ = some (Value.int .i64 r) := (hx.cell _ _ (by first | omega | (simp; done) | (simp; omega))).trans (by go_simp)
    have c2_0_4 : x2.cell? ⟨w.heap.size, 4, none⟩ = some (Value.int .i64 1) := (hx.cell _ _ (by first | omega | (simp; done) | (simp; omega))).trans (by go_simp)
    have f2_0 : ∀ o, x2.frozen? ⟨w.heap.size, o, none⟩ = false := fun o => (hx.frozen _ _ (by first | omega | (simp; done) | (simp; omega))).trans (by go_simp)
    have hz2_1 : w.heap.size + 1 < x2.heap.size := by omega
    have c2_1_0 : x2.cell? ⟨w.heap.size + 1, 0, none⟩ = some (Value.int .i64 n1) := (hx.cell _ _ (by first | omega | (simp; done) | (simp; omega))).trans (by go_simp)
    have c2_1_1 : x2.cell? ⟨w.heap.size + 1, 1, none⟩ = some (Value.int .i64 d1) := (hx.cell _ _ (by first | omega | (simp; done) | (simp; omega))).trans (by go_simp)
    have f2_1 : ∀ o, x2.frozen? ⟨w.heap.size + 1, o, none⟩ = false := fun o => (hx.frozen _ _ (by first | omega | (simp; done) | (simp; omega))).trans (by go_simp)
    have hz2_2 : w.heap.size + 1 + 1 < x2.heap.size := by omega
    have c2_2_0 : x2.cell? ⟨w.heap.size + 1 + 1, 0, none⟩ = some (Value.int .i64 n2) := (hx.cell _ _ (by first | omega | (simp; done) | (simp; omega))).trans (by go_simp)
    have c2_2_1 : x2.cell? ⟨w.heap.size + 1 + 1, 1, none⟩ = some (Value.int .i64 d2) := (hx.cell _ _ (by first | omega | (simp; done) | (simp; omega))).trans (by go_simp)
    have f2_2 : ∀ o, x2.frozen? ⟨w.heap.size + 1 + 1, o, none⟩ = false := fun o => (hx.frozen _ _ (by first | omega | (simp; done) | (simp; omega))).trans (by go_simp)
    replace HU := Lib.hid (Up.trans (by repeat (first | exact HU.out | refine Up.setCell ?_ (by first | omega | (simp; done) | (simp; omega)) _ | refine Up.alloc ?_ _)) hx : Up w x2)
    clear c1_0_0 c1_0_1 c1_0_2 c1_0_3 c1_0_4 f1_0 c1_1_0 c1_1_1 f1_1 c1_2_0 c1_2_1 f1_2
    clear hx hsz
    go_wp2_with fail
    refine (law03_fraction n2 d2 true H2.out n2a n2b _).mono ?_
    rintro e3 x3 ⟨rfl, hx⟩
    have hsz := hx.size
    try simp at hsz
    have hz3_0 : w.heap.size < x3.heap.size := by omega
    have c3_0_0 : x3.cell? ⟨w.heap.size, 0, none⟩ = some (Value.int .i64 2) := (hx.cell _ _ (by first | omega | (simp; done) | (simp; omega))).trans (by go_simp)
    have c3_0_1 : x3.cell? ⟨w.heap.size, 1, none⟩ = some (Value.int .i64 b) := (hx.cell _ _ (by first | omega | (simp; done) | (simp; omega))).trans (by go_simp)
    have c3_0_2 : x3.cell? ⟨w.heap.size, 2, none⟩ = some (Value.int .i64 f) := (hx.cell _ _ (by first | omega | (simp; done) | (simp; omega))).trans (by go_simp)
    have c3_0_3 : x3.cell? ⟨w.heap.size, 3, none⟩ = some (Value.int .i64 r) := (hx.cell _ _ (by first | omega | (simp; done) | (simp; omega))).trans (by go_simp)
    have c3_0_4 : x3.cell? ⟨w.heap.size, 4, none⟩ = some (Value.int .i64 1) := (hx.cell _ _ (by first | omega | (simp; done) | (simp; omega))).trans (by go_simp)
    have f3_0 : ∀ o, x3.frozen? ⟨w.heap.size, o, none⟩ = false := fun o => (hx.frozen _ _ (by first | omega | (simp; done) | (simp; omega))).trans (by go_simp)
    have hz3_1 : w.heap.size + 1 < x3.heap.size := by omega
    have c3_1_0 : x3.cell? ⟨w.heap.size + 1, 0, none⟩ = some (Value.int .i64 n1) := (hx.cell _ _ (by first | omega | (simp; done) | (simp; omega))).trans (by go_simp)
    have c3_1_1 : x3.cell? ⟨w.heap.size + 1, 1, none⟩ = some (Value.int .i64 d1) := (hx.cell _ _ (by first | omega | (simp; done) | (simp; omega))).trans (by go_simp)
    have f3_1 : ∀ o, x3.frozen? ⟨w.heap.size + 1, o, none⟩ = false := fun o => (hx.frozen _ _ (by first | omega | (simp; done) | (simp; omega))).trans (by go_simp)
    have hz3_2 : w.heap.size + 1 + 1 < x3.heap.size := by omega
    have c3_2_0 : x3.cell? ⟨w.heap.size + 1 + 1, 0, none⟩ = some (Value.int .i64 n2) := (hx.cell _ _ (by first | omega | (simp; done) | (simp; omega))).trans (by go_simp)
    have c3_2_1 : x3.cell? ⟨w.heap.size + 1 + 1, 1, none⟩ = some (Value.int .i64 d2) := (hx.cell _ _ (by first | omega | (simp; done) | (simp; omega))).trans (by go_simp)
    have f3_2 : ∀ o, x3.frozen? ⟨w.heap.size + 1 + 1, o, none⟩ = false := fun o => (hx.frozen _ _ (by first | omega | (simp; done) | (simp; omega))).trans (by go_simp)
    replace HU := Lib.hid (Up.trans (by repeat (first | exact HU.out | refine Up.setCell ?_ (by first | omega | (simp; done) | (simp; omega)) _ | refine Up.alloc ?_ _)) hx : Up w x3)
    clear c2_0_0 c2_0_1 c2_0_2 c2_0_3 c2_0_4 f2_0 c2_1_0 c2_1_1 f2_1 c2_2_0 c2_2_1 f2_2
    clear hx hsz
    go_wp2_with fail
    refine (fixed_FromFrac _ _ _ _ _ n2 d2 _ _ _ HY.out n2a n2b _).mono ?_
    rintro e4 x4 ⟨rfl, hx⟩
    have hsz := hx.size
    try simp at hsz
    have hz4_0 : w.heap.size < x4.heap.size := by omega
    have c4_0_0 : x4.cell? ⟨w.heap.size, 0, none⟩ = some (Value.int .i64 2) := (hx.cell _ _ (by first | omega | (simp; done) | (simp; omega))).trans (by go_simp)
    have c4_0_1 : x4.cell? ⟨w.heap.size, 1, none⟩ = some (Value.int .i64 b) := (hx.cell _ _ (by first | omega | (simp; done) | (simp; omega))).trans (by go_simp)
    have c4_0_2 : x4.cell? ⟨w.heap.size, 2, none⟩ = some (Value.int .i64 f) := (hx.cell _ _ (by first | omega | (simp; done) | (simp; omega))).trans (by go_simp)
    have c4_0_3 : x4.cell? ⟨w.heap.size, 3, none⟩ = some (Value.int .i64 r) := (hx.cell _ _ (by first | omega | (simp; done) | (simp; omega))).trans (by go_simp)
    have c4_0_4 : x4.cell? ⟨w.heap.size, 4, none⟩ = some (Value.int .i64 1) := (hx.cell _ _ (by first | omega | (simp; done) | (simp; omega))).trans (by go_simp)
    have f4_0 : ∀ o, x4.frozen? ⟨w.heap.size, o, none⟩ = false := fun o => (hx.frozen _ _ (by first | omega | (simp; done) | (simp; omega))).trans (by go_simp)
    have hz4_1 : w.heap.size + 1 < x4.heap.size := by omega
    have c4_1_0 : x4.cell? ⟨w.heap.size + 1, 0, none⟩ = some (Value.int .i64 n2) := (hx.cell _ _ (by first | omega | (simp; done) | (simp; omega))).trans (by go_simp)
    have c4_1_1 : x4.cell? ⟨w.heap.size + 1, 1, none⟩ = some (Value.int .i64 d2) := (hx.cell _ _ (by first | omega | (simp; done) | (simp; omega))).trans (by go_simp)
    have f4_1 : ∀ o, x4.frozen? ⟨w.heap.size + 1, o, none⟩ = false := fun o => (hx.frozen _ _ (by first | omega | (simp; done) | (simp; omega))).trans (by go_simp)
    have hz4_2 : w.heap.size + 1 + 1 < x4.heap.size := by omega
    have c4_2_0 : x4.cell? ⟨w.heap.size + 1 + 1, 0, none⟩ = some (Value.int .i64 n1) := (hx.cell _ _ (by first | omega | (simp; done) | (simp; omega))).trans (by go_simp)
    have c4_2_1 : x4.cell? ⟨w.heap.size + 1 + 1, 1, none⟩ = some (Value.int .i64 d1) := (hx.cell _ _ (by first | omega | (simp; done) | (simp; omega))).trans (by go_simp)
    have f4_2 : ∀ o, x4.frozen? ⟨w.heap.size + 1 + 1, o, none⟩ = false := fun o => (hx.frozen _ _ (by first | omega | (simp; done) | (simp; omega))).trans (by go_simp)
    replace HU := Lib.hid (Up.trans (by repeat (first | exact HU.out | refine Up.setCell ?_ (by first | omega | (simp; done) | (simp; omega)) _ | refine Up.alloc ?_ _)) hx : Up w x4)
    clear c3_0_0 c3_0_1 c3_0_2 c3_0_3 c3_0_4 f3_0 c3_1_0 c3_1_1 f3_1 c3_2_0 c3_2_1 f3_2
    clear hx hsz
    have hne4_0 : (w.heap.size = x4.heap.size) = False := by simp; omega
    have hnf4_0 : (x4.heap.size = w.heap.size) = False := by simp; omega
    have hne4_1 : (w.heap.size + 1 = x4.heap.size) = False := by simp; omega
    have hnf4_1 : (x4.heap.size = w.heap.size + 1) = False := by simp; omega
    have hne4_2 : (w.heap.size + 1 + 1 = x4.heap.size) = False := by simp; omega
    have hnf4_2 : (x4.heap.size = w.heap.size + 1 + 1) = False := by simp; omega
    go_wp2_with fail
    refine (fixed_FromFrac _ _ _ _ _ n1 d1 _ _ _ HX.out n1a n1b _).mono ?_
    rintro e5 x5 ⟨rfl, hx⟩
    have hsz := hx.size
    try simp at hsz
    have hz5_0 : w.heap.size < x5.heap.size := by omega
    have c5_0_0 : x5.cell? ⟨w.heap.size, 0, none⟩ = some (Value.int .i64 2) := (hx.cell _ _ (by first | omega | (simp; done) | (simp; omega))).trans (by go_simp)
    have c5_0_1 : x5.cell? ⟨w.heap.size, 1, none⟩ = some (Value.int .i64 b) := (hx.cell _ _ (by first | omega | (simp; done) | (simp; omega))).trans (by go_simp)
    have c5_0_2 : x5.cell? ⟨w.heap.size, 2, none⟩ = some (Value.int .i64 f) := (hx.cell _ _ (by first | omega | (simp; done) | (simp; omega))).trans (by go_simp)
    have c5_0_3 : x5.cell? ⟨w.heap.size, 3, none⟩ = some (Value.int .i64 r) := (hx.cell _ _ (by first | omega | (simp; done) | (simp; omega))).trans (by go_simp)
    have c5_0_4 : x5.cell? ⟨w.heap.size, 4, none⟩ = some (Value.int .i64 1) := (hx.cell _ _ (by first | omega | (simp; done) | (simp; omega))).trans (by go_simp)
    have f5_0 : ∀ o, x5.frozen? ⟨w.heap.size, o, none⟩ = false := fun o => (hx.frozen _ _ (by first | omega | (simp; done) | (simp; omega))).trans (by go_simp)
    have hz5_1 : w.heap.size + 1 < x5.heap.size := by omega
    have c5_1_0 : x5.cell? ⟨w.heap.size + 1, 0, none⟩ = some (Value.int .i64 n2) := (hx.cell _ _ (by first | omega | (simp; done) | (simp; omega))).trans (by go_simp)
    have c5_1_1 : x5.cell? ⟨w.heap.size + 1, 1, none⟩ = some (Value.int .i64 d2) := (hx.cell _ _ (by first | omega | (simp; done) | (simp; omega))).trans (by go_simp)
    have f5_1 : ∀ o, x5.frozen? ⟨w.heap.size + 1, o, none⟩ = false := fun o => (hx.frozen _ _ (by first | omega | (simp; done) | (simp; omega))).trans (by go_simp)
    have hz5_2 : w.heap.size + 1 + 1 < x5.heap.size := by omega
    have c5_2_0 : x5.cell? ⟨w.heap.size + 1 + 1, 0, none⟩ = some (Value.int .i64 n1) := (hx.cell _ _ (by first | omega | (simp; done) | (simp; omega))).trans (by go_simp)
    have c5_2_1 : x5.cell? ⟨w.heap.size + 1 + 1, 1, none⟩ = some (Value.int .i64 d1) := (hx.cell _ _ (by first | omega | (simp; done) | (simp; omega))).trans (by go_simp)
    have f5_2 : ∀ o, x5.frozen? ⟨w.heap.size + 1 + 1, o, none⟩ = false := fun o => (hx.frozen _ _ (by first | omega | (simp; done) | (simp; omega))).trans (by go_simp)
    have hz5_3 : x4.heap.size < x5.heap.size := by omega
    have c5_3_0 : x5.cell? ⟨x4.heap.size, 0, none⟩ = some (Value.int .i64 y) := (hx.cell _ _ (by first | omega | (simp; done) | (simp; omega))).trans (by go_simp)
    have c5_3_1 : x5.cell? ⟨x4.heap.size, 1, none⟩ = some (Value.int .i64 1) := (hx.cell _ _ (by first | omega | (simp; done) | (simp; omega))).trans (by go_simp)
    have f5_3 : ∀ o, x5.frozen? ⟨x4.heap.size, o, none⟩ = false := fun o => (hx.frozen _ _ (by first | omega | (simp; done) | (simp; omega))).trans (by go_simp)
    replace HU := Lib.hid (Up.trans (by repeat (first | exact HU.out | refine Up.setCell ?_ (by first | omega | (simp; done) | (simp; omega)) _ | refine Up.alloc ?_ _)) hx : Up w x5)
    clear c4_0_0 c4_0_1 c4_0_2 c4_0_3 c4_0_4 f4_0 c4_1_0 c4_1_1 f4_1 c4_2_0 c4_2_1 f4_2
    clear hx hsz
    have hne5_0 : (w.heap.size = x5.heap.size) = False := by simp; omega
    have hnf5_0 : (x5.heap.size = w.heap.size) = False := by simp; omega
    have hne5_1 : (w.heap.size + 1 = x5.heap.size) = False := by simp; omega
    have hnf5_1 : (x5.heap.size = w.heap.size + 1) = False := by simp; omega
    have hne5_2 : (w.heap.size + 1 + 1 = x5.heap.size) = False := by simp; omega
    have hnf5_2 : (x5.heap.size = w.heap.size + 1 + 1) = False := by simp; omega
    have hne5_3 : (x4.heap.size = x5.heap.size) = False := by simp; omega
    have hnf5_3 : (x5.heap.size = x4.heap.size) = False := by simp; omega
    go_wp2_with fail
    refine (law03_examples _).mono ?_
    rintro e6 x6 ⟨rfl, hx⟩
    have hsz := hx.size
    try simp at hsz
    have hz6_0 : w.heap.size < x6.heap.size := by omega
    have c6_0_0 : x6.cell? ⟨w.heap.size, 0, none⟩ = some (Value.int .i64 2) := (hx.cell _ _ (by first | omega | (simp; done) | (simp; omega))).trans (by go_simp)
    have c6_0_1 : x6.cell? ⟨w.heap.size, 1, none⟩ = some (Value.int .i64 b) := (hx.cell _ _ (by first | omega | (simp; done) | (simp; omega))).trans (by go_simp)
    have c6_0_2 : x6.cell? ⟨w.heap.size, 2, none⟩ = some (Value.int .i64 f) := (hx.cell _ _ (by first | omega | (simp; done) | (simp; omega))).trans (by go_simp)
    have c6_0_3 : x6.cell? ⟨w.heap.size, 3, none⟩ = some (Value.int .i64 r) := (hx.cell _ _ (by first | omega | (simp; done) | (simp; omega))).trans (by go_simp)
    have c6_0_4 : x6.cell? ⟨w.heap.size, 4, none⟩ = some (Value.int .i64 1) := (hx.cell _ _ (by first | omega | (simp; done) | (simp; omega))).trans (by go_simp)
    have f6_0 : ∀ o, x6.frozen? ⟨w.heap.size, o, none⟩ = false := fun o => (hx.frozen _ _ (by first | omega | (simp; done) | (simp; omega))).trans (by go_simp)
    have hz6_1 : w.heap.size + 1 < x6.heap.size := by omega
    have c6_1_0 : x6.cell? ⟨w.heap.size + 1, 0, none⟩ = some (Value.int .i64 n2) := (hx.cell _ _ (by first | omega | (simp; done) | (simp; omega))).trans (by go_simp)
    have c6_1_1 : x6.cell? ⟨w.heap.size + 1, 1, none⟩ = some (Value.int .i64 d2) := (hx.cell _ _ (by first | omega | (simp; done) | (simp; omega))).trans (by go_simp)
    have f6_1 : ∀ o, x6.frozen? ⟨w.heap.size + 1, o, none⟩ = false := fun o => (hx.frozen _ _ (by first | omega | (simp; done) | (simp; omega))).trans (by go_simp)
    have hz6_2 : w.heap.size + 1 + 1 < x6.heap.size := by omega
    have c6_2_0 : x6.cell? ⟨w.heap.size + 1 + 1, 0, none⟩ = some (Value.int .i64 n1) := (hx.cell _ _ (by first | omega | (simp; done) | (simp; omega))).trans (by go_simp)
    have c6_2_1 : x6.cell? ⟨w.heap.size + 1 + 1, 1, none⟩ = some (Value.int .i64 d1) := (hx.cell _ _ (by first | omega | (simp; done) | (simp; omega))).trans (by go_simp)
    have f6_2 : ∀ o, x6.frozen? ⟨w.heap.size + 1 + 1, o, none⟩ = false := fun o => (hx.frozen _ _ (by first | omega | (simp; done) | (simp; omega))).trans (by go_simp)
    have hz6_3 : x4.heap.size < x6.heap.size := by omega
    have c6_3_0 : x6.cell? ⟨x4.heap.size, 0, none⟩ = some (Value.int .i64 y) := (hx.cell _ _ (by first | omega | (simp; done) | (simp; omega))).trans (by go_simp)
    have c6_3_1 : x6.cell? ⟨x4.heap.size, 1, none⟩ = some (Value.int .i64 1) := (hx.cell _ _ (by first | omega | (simp; done) | (simp; omega))).trans (by go_simp)
    have f6_3 : ∀ o, x6.frozen? ⟨x4.heap.size, o, none⟩ = false := fun o => (hx.frozen _ _ (by first | omega | (simp; done) | (simp; omega))).trans (by go_simp)
    have hz6_4 : x5.heap.size < x6.heap.size := by omega
    have c6_4_0 : x6.cell? ⟨x5.heap.size, 0, none⟩ = some (Value.int .i64 x) := (hx.cell _ _ (by first | omega | (simp; done) | (simp; omega))).trans (by go_simp)
    have c6_4_1 : x6.cell? ⟨x5.heap.size, 1, none⟩ = some (Value.int .i64 1) := (hx.cell _ _ (by first | omega | (simp; done) | (simp; omega))).trans (by go_simp)
    have f6_4 : ∀ o, x6.frozen? ⟨x5.heap.size, o, none⟩ = false := fun o => (hx.frozen _ _ (by first | omega | (simp; done) | (simp; omega))).trans (by go_simp)
    replace HU := Lib.hid (Up.trans (by repeat (first | exact HU.out | refine Up.setCell ?_ (by first | omega | (simp; done) | (simp; omega)) _ | refine Up.alloc ?_ _)) hx : Up w x6)
    clear c5_0_0 c5_0_1 c5_0_2 c5_0_3 c5_0_4 f5_0 c5_1_0 c5_1_1 f5_1 c5_2_0 c5_2_1 f5_2 c5_3_0 c5_3_1 f5_3
    clear hx hsz
    go_wp2
    go_ret
    exact ⟨rfl, (by repeat (first | exact HU.out | refine Up.drewN _ ?_ | refine Up.setCell ?_ (by first | omega | (simp; done) | (simp; omega)) _ | refine Up.alloc ?_ _))⟩
  · have hle : x ≤ y := by rw [← hx, ← hy]; exact hmono _ _ _ _ v1 t1 (by omega)
    have hsw2 : P1 ≤ P2 := by omega
    clear hmono hx hy
    go_enter Try.func6, Try.ntmps6
    go_wp2_with fail
    refine (ref03_ValidateType _ _ _ _ _ _ HE.out _).mono ?_
    rintro e1 x1 ⟨rfl, hx⟩
    have hsz := hx.size
    try simp at hsz
    have hz1_0 : w.heap.size < x1.heap.size := by omega
    have c1_0_0 : x1.cell? ⟨w.heap.size, 0, none⟩ = some (Value.int .i64 2) := (hx.cell _ _ (by first | omega | (simp; done) | (simp; omega))).trans (by go_simp)
    have c1_0_1 : x1.cell? ⟨w.heap.size, 1, none⟩ = some (Value.int .i64 b) := (hx.cell _ _ (by first | omega | (simp; done) | (simp; omega))).trans (by go_simp)
    have c1_0_2 : x1.cell? ⟨w.heap.size, 2, none⟩ = some (Value.int .i64 f) := (hx.cell _ _ (by first | omega | (simp; done) | (simp; omega))).trans (by go_simp)
    have c1_0_3 : x1.cell? ⟨w.heap.size, 3, none⟩ = some (Value.int .i64 r) := (hx.cell _ _ (by first | omega | (simp; done) | (simp; omega))).trans (by go_simp)
    have c1_0_4 : x1.cell? ⟨w.heap.size, 4, none⟩ = some (Value.int .i64 1) := (hx.cell _ _ (by first | omega | (simp; done) | (simp; omega))).trans (by go_simp)
    have f1_0 : ∀ o, x1.frozen? ⟨w.heap.size, o, none⟩ = false := fun o => (hx.frozen _ _ (by first | omega | (simp; done) | (simp; omega))).trans (by go_simp)
    have hz1_1 : w.heap.size + 1 < x1.heap.size := by omega
    have c1_1_0 : x1.cell? ⟨w.heap.size + 1, 0, none⟩ = some (Value.int .i64 n1) := (hx.cell _ _ (by first | omega | (simp; done) | (simp; omega))).trans (by go_simp)
    have c1_1_1 : x1.cell? ⟨w.heap.size + 1, 1, none⟩ = some (Value.int .i64 d1) := (hx.cell _ _ (by first | omega | (simp; done) | (simp; omega))).trans (by go_simp)
    have f1_1 : ∀ o, x1.frozen? ⟨w.heap.size + 1, o, none⟩ = false := fun o => (hx.frozen _ _ (by first | omega | (simp; done) | (simp; omega))).trans (by go_simp)
    have hz1_2 : w.heap.size + 1 + 1 < x1.heap.size := by omega
    have c1_2_0 : x1.cell? ⟨w.heap.size + 1 + 1, 0, none⟩ = some (Value.int .i64 n2) := (hx.cell _ _ (by first | omega | (simp; done) | (simp; omega))).trans (by go_simp)
    have c1_2_1 : x1.cell? ⟨w.heap.size + 1 + 1, 1, none⟩ = some (Value.int .i64 d2) := (hx.cell _ _ (by first | omega | (simp; done) | (simp; omega))).trans (by go_simp)
    have f1_2 : ∀ o, x1.frozen? ⟨w.heap.size + 1 + 1, o, none⟩ = false := fun o => (hx.frozen _ _ (by first | omega | (simp; done) | (simp; omega))).trans (by go_simp)
    have HU := Lib.hid (Up.trans (by repeat (first | exact Up.refl _ | refine Up.alloc ?_ _)) hx : Up w x1)
    clear hx hsz
    go_wp2_with fail
    refine (law03_fraction n1 d1 true H1.out n1a n1b _).mono ?_
    rintro e2 x2 ⟨rfl, hx⟩
    have hsz := hx.size
    try simp at hsz
    have hz2_0 : w.heap.size < x2.heap.size := by omega
    have c2_0_0 : x2.cell? ⟨w.heap.size, 0, none⟩ = some (Value.int .i64 2) := (hx.cell _ _ (by first | omega | (simp; done) | (simp; omega))).trans (by go_simp)
    have c2_0_1 : x2.cell? ⟨w.heap.size, 1, none⟩ = some (Value.int .i64 b) := (hx.cell _ _ (by first | omega | (simp; done) | (simp; omega))).trans (by go_simp)
    have c2_0_2 : x2.cell? ⟨w.heap.size, 2, none⟩ = some (Value.int .i64 f) := (hx.cell _ _ (by first | omega | (simp; done) | (simp; omega))).trans (by go_simp)
    have c2_0_3 : x2.cell? ⟨w.heap.size, 3, none⟩ = some (Value.int .i64 r) := (hx.cell _ _ (by first | omega | (simp; done) | (simp; omega))).trans (by go_simp)
    have c2_0_4 : x2.cell? ⟨w.heap.size, 4, none⟩ = some (Value.int .i64 1) := (hx.cell _ _ (by first | omega | (simp; done) | (simp; omega))).trans (by go_simp)
    have f2_0 : ∀ o, x2.frozen? ⟨w.heap.size, o, none⟩ = false := fun o => (hx.frozen _ _ (by first | omega | (simp; done) | (simp; omega))).trans (by go_simp)
    have hz2_1 : w.heap.size + 1 < x2.heap.size := by omega
    have c2_1_0 : x2.cell? ⟨w.heap.size + 1, 0, none⟩ = some (Value.int .i64 n1) := (hx.cell _ _ (by first | omega | (simp; done) | (simp; omega))).trans (by go_simp)
    have c2_1_1 : x2.cell? ⟨w.heap.size + 1, 1, none⟩ = some (Value.int .i64 d1) := (hx.cell _ _ (by first | omega | (simp; done) | (simp; omega))).trans (by go_simp)
    have f2_1 : ∀ o, x2.frozen? ⟨w.heap.size + 1, o, none⟩ = false := fun o => (hx.frozen _ _ (by first | omega | (simp; done) | (simp; omega))).trans (by go_simp)
    have hz2_2 : w.heap.size + 1 + 1 < x2.heap.size := by omega
    have c2_2_0 : x2.cell? ⟨w.heap.size + 1 + 1, 0, none⟩ = some (Value.int .i64 n2) := (hx.cell _ _ (by first | omega | (simp; done) | (simp; omega))).trans (by go_simp)
    have c2_2_1 : x2.cell? ⟨w.heap.size + 1 + 1, 1, none⟩ = some (Value.int .i64 d2) := (hx.cell _ _ (by first | omega | (simp; done) | (simp; omega))).trans (by go_simp)
    have f2_2 : ∀ o, x2.frozen? ⟨w.heap.size + 1 + 1, o, none⟩ = false := fun o => (hx.frozen _ _ (by first | omega | (simp; done) | (simp; omega))).trans (by go_simp)
    replace HU := Lib.hid (Up.trans (by repeat (first | exact HU.out | refine Up.setCell ?_ (by first | omega | (simp; done) | (simp; omega)) _ | refine Up.alloc ?_ _)) hx : Up w x2)
    clear c1_0_0 c1_0_1 c1_0_2 c1_0_3 c1_0_4 f1_0 c1_1_0 c1_1_1 f1_1 c1_2_0 c1_2_1 f1_2
    clear hx hsz
    go_wp2_with fail
    refine (law03_fraction n2 d2 true H2.out n2a n2b _).mono ?_
    rintro e3 x3 ⟨rfl, hx⟩
    have hsz := hx.size
    try simp at hsz
    have hz3_0 : w.heap.size < x3.heap.size := by omega
    have c3_0_0 : x3.cell? ⟨w.heap.size, 0, none⟩ = some (Value.int .i64 2) := (hx.cell _ _ (by first | omega | (simp; done) | (simp; omega))).trans (by go_simp)
    have c3_0_1 : x3.cell? ⟨w.heap.size, 1, none⟩ = some (Value.int .i64 b) := (hx.cell _ _ (by first | omega | (simp; done) | (simp; omega))).trans (by go_simp)
    have c3_0_2 : x3.cell? ⟨w.heap.size, 2, none⟩ = some (Value.int .i64 f) := (hx.cell _ _ (by first | omega | (simp; done) | (simp; omega))).trans (by go_simp)
    have c3_0_3 : x3.cell? ⟨w.heap.size, 3, none⟩ = some (Value.int .i64 r) := (hx.cell _ _ (by first | omega | (simp; done) | (simp; omega))).trans (by go_simp)
    have c3_0_4 : x3.cell? ⟨w.heap.size, 4, none⟩ = some (Value.int .i64 1) := (hx.cell _ _ (by first | omega | (simp; done) | (simp; omega))).trans (by go_simp)
    have f3_0 : ∀ o, x3.frozen? ⟨w.heap.size, o, none⟩ = false := fun o => (hx.frozen _ _ (by first | omega | (simp; done) | (simp; omega))).trans (by go_simp)
    have hz3_1 : w.heap.size + 1 < x3.heap.size := by omega
    have c3_1_0 : x3.cell? ⟨w.heap.size + 1, 0, none⟩ = some (Value.int .i64 n1) := (hx.cell _ _ (by first | omega | (simp; done) | (simp; omega))).trans (by go_simp)
    have c3_1_1 : x3.cell? ⟨w.heap.size + 1, 1, none⟩ = some (Value.int .i64 d1) := (hx.cell _ _ (by first | omega | (simp; done) | (simp; omega))).trans (by go_simp)
    have f3_1 : ∀ o, x3.frozen? ⟨w.heap.size + 1, o, none⟩ = false := fun o => (hx.frozen _ _ (by first | omega | (simp; done) | (simp; omega))).trans (by go_simp)
    have hz3_2 : w.heap.size + 1 + 1 < x3.heap.size := by omega
    have c3_2_0 : x3.cell? ⟨w.heap.size + 1 + 1, 0, none⟩ = some (Value.int .i64 n2) := (hx.cell _ _ (by first | omega | (simp; done) | (simp; omega))).trans (by go_simp)
    have c3_2_1 : x3.cell? ⟨w.heap.size + 1 + 1, 1, none⟩ = some (Value.int .i64 d2) := (hx.cell _ _ (by first | omega | (simp; done) | (simp; omega))).trans (by go_simp)
    have f3_2 : ∀ o, x3.frozen? ⟨w.heap.size + 1 + 1, o, none⟩ = false := fun o => (hx.frozen _ _ (by first | omega | (simp; done) | (simp; omega))).trans (by go_simp)
    replace HU := Lib.hid (Up.trans (by repeat (first | exact HU.out | refine Up.setCell ?_ (by first | omega | (simp; done) | (simp; omega)) _ | refine Up.alloc ?_ _)) hx : Up w x3)
    clear c2_0_0 c2_0_1 c2_0_2 c2_0_3 c2_0_4 f2_0 c2_1_0 c2_1_1 f2_1 c2_2_0 c2_2_1 f2_2
    clear hx hsz
    go_wp2_with fail
    refine (fixed_FromFrac _ _ _ _ _ n1 d1 _ _ _ HX.out n1a n1b _).mono ?_
    rintro e4 x4 ⟨rfl, hx⟩
    have hsz := hx.size
    try simp at hsz
    have hz4_0 : w.heap.size < x4.heap.size := by omega
    have c4_0_0 : x4.cell? ⟨w.heap.size, 0, none⟩ = some (Value.int .i64 2) := (hx.cell _ _ (by first | omega | (simp; done) | (simp; omega))).trans (by go_simp)
    have c4_0_1 : x4.cell? ⟨w.heap.size, 1, none⟩ = some (Value.int .i64 b) := (hx.cell _ _ (by first | omega | (simp; done) | (simp; omega))).trans (by go_simp)
    have c4_0_2 : x4.cell? ⟨w.heap.size, 2, none⟩ = some (Value.int .i64 f) := (hx.cell _ _ (by first | omega | (simp; done) | (simp; omega))).trans (by go_simp)
    have c4_0_3 : x4.cell? ⟨w.heap.size, 3, none⟩ = some (Value.int .i64 r) := (hx.cell _ _ (by first | omega | (simp; done) | (simp; omega))).trans (by go_simp)
    have c4_0_4 : x4.cell? ⟨w.heap.size, 4, none⟩ = some (Value.int .i64 1) := (hx.cell _ _ (by first | omega | (simp; done) | (simp; omega))).trans (by go_simp)
    have f4_0 : ∀ o, x4.frozen? ⟨w.heap.size, o, none⟩ = false := fun o => (hx.frozen _ _ (by first | omega | (simp; done) | (simp; omega))).trans (by go_simp)
    have hz4_1 : w.heap.size + 1 < x4.heap.size := by omega
    have c4_1_0 : x4.cell? ⟨w.heap.size + 1, 0, none⟩ = some (Value.int .i64 n1) := (hx.cell _ _ (by first | omega | (simp; done) | (simp; omega))).trans (by go_simp)
    have c4_1_1 : x4.cell? ⟨w.heap.size + 1, 1, none⟩ = some (Value.int .i64 d1) := (hx.cell _ _ (by first | omega | (simp; done) | (simp; omega))).trans (by go_simp)
    have f4_1 : ∀ o, x4.frozen? ⟨w.heap.size + 1, o, none⟩ = false := fun o => (hx.frozen _ _ (by first | omega | (simp; done) | (simp; omega))).trans (by go_simp)
    have hz4_2 : w.heap.size + 1 + 1 < x4.heap.size := by omega
    have c4_2_0 : x4.cell? ⟨w.heap.size + 1 + 1, 0, none⟩ = some (Value.int .i64 n2) := (hx.cell _ _ (by first | omega | (simp; done) | (simp; omega))).trans (by go_simp)
    have c4_2_1 : x4.cell? ⟨w.heap.size + 1 + 1, 1, none⟩ = some (Value.int .i64 d2) := (hx.cell _ _ (by first | omega | (simp; done) | (simp; omega))).trans (by go_simp)
    have f4_2 : ∀ o, x4.frozen? ⟨w.heap.size + 1 + 1, o, none⟩ = false := fun o => (hx.frozen _ _ (by first | omega | (simp; done) | (simp; omega))).trans (by go_simp)
    replace HU := Lib.hid (Up.trans (by repeat (first | exact HU.out | refine Up.setCell ?_ (by first | omega | (simp; done) | (simp; omega)) _ | refine Up.alloc ?_ _)) hx : Up w x4)
    clear c3_0_0 c3_0_1 c3_0_2 c3_0_3 c3_0_4 f3_0 c3_1_0 c3_1_1 f3_1 c3_2_0 c3_2_1 f3_2
    clear hx hsz
    have hne4_0 : (w.heap.size = x4.heap.size) = False := by simp; omega
    have hnf4_0 : (x4.heap.size = w.heap.size) = False := by simp; omega
    have hne4_1 : (w.heap.size + 1 = x4.heap.size) = False := by simp; omega
    have hnf4_1 : (x4.heap.size = w.heap.size + 1) = False := by simp; omega
    have hne4_2 : (w.heap.size + 1 + 1 = x4.heap.size) = False := by simp; omega
    have hnf4_2 : (x4.heap.size = w.heap.size + 1 + 1) = False := by simp; omega
    go_wp2_with fail
    refine (fixed_FromFrac _ _ _ _ _ n2 d2 _ _ _ HY.out n2a n2b _).mono ?_
    rintro e5 x5 ⟨rfl, hx⟩
    have hsz := hx.size
    try simp at hsz
    have hz5_0 : w.heap.size < x5.heap.size := by omega
    have c5_0_0 : x5.cell? ⟨w.heap.size, 0, none⟩ = some (Value.int .i64 2) := (hx.cell _ _ (by first | omega | (simp; done) | (simp; omega))).trans (by go_simp)
    have c5_0_1 : x5.cell? ⟨w.heap.size, 1, none⟩ = some (Value.int .i64 b) := (hx.cell _ _ (by first | omega | (simp; done) | (simp; omega))).trans (by go_simp)
    have c5_0_2 : x5.cell? ⟨w.heap.size, 2, none⟩ = some (Value.int .i64 f) := (hx.cell _ _ (by first | omega | (simp; done) | (simp; omega))).trans (by go_simp)
    have c5_0_3 : x5.cell? ⟨w.heap.size, 3, none⟩ = some (Value.int .i64 r) := (hx.cell _ _ (by first | omega | (simp; done) | (simp; omega))).trans (by go_simp)
    have c5_0_4 : x5.cell? ⟨w.heap.size, 4, none⟩ = some (Value.int .i64 1) := (hx.cell _ _ (by first | omega | (simp; done) | (simp; omega))).trans (by go_simp)
    have f5_0 : ∀ o, x5.frozen? ⟨w.heap.size, o, none⟩ = false := fun o => (hx.frozen _ _ (by first | omega | (simp; done) | (simp; omega))).trans (by go_simp)
    have hz5_1 : w.heap.size + 1 < x5.heap.size := by omega
    have c5_1_0 : x5.cell? ⟨w.heap.size + 1, 0, none⟩ = some (Value.int .i64 n1) := (hx.cell _ _ (by first | omega | (simp; done) | (simp; omega))).trans (by go_simp)
    have c5_1_1 : x5.cell? ⟨w.heap.size + 1, 1, none⟩ = some (Value.int .i64 d1) := (hx.cell _ _ (by first | omega | (simp; done) | (simp; omega))).trans (by go_simp)
    have f5_1 : ∀ o, x5.frozen? ⟨w.heap.size + 1, o, none⟩ = false := fun o => (hx.frozen _ _ (by first | omega | (simp; done) | (simp; omega))).trans (by go_simp)
    have hz5_2 : w.heap.size + 1 + 1 < x5.heap.size := by omega
    have c5_2_0 : x5.cell? ⟨w.heap.size + 1 + 1, 0, none⟩ = some (Value.int .i64 n2) := (hx.cell _ _ (by first | omega | (simp; done) | (simp; omega))).trans (by go_simp)
    have c5_2_1 : x5.cell? ⟨w.heap.size + 1 + 1, 1, none⟩ = some (Value.int .i64 d2) := (hx.cell _ _ (by first | omega | (simp; done) | (simp; omega))).trans (by go_simp)
    have f5_2 : ∀ o, x5.frozen? ⟨w.heap.size + 1 + 1, o, none⟩ = false := fun o => (hx.frozen _ _ (by first | omega | (simp; done) | (simp; omega))).trans (by go_simp)
    have hz5_3 : x4.heap.size < x5.heap.size := by omega
    have c5_3_0 : x5.cell? ⟨x4.heap.size, 0, none⟩ = some (Value.int .i64 x) := (hx.cell _ _ (by first | omega | (simp; done) | (simp; omega))).trans (by go_simp)
    have c5_3_1 : x5.cell? ⟨x4.heap.size, 1, none⟩ = some (Value.int .i64 1) := (hx.cell _ _ (by first | omega | (simp; done) | (simp; omega))).trans (by go_simp)
    have f5_3 : ∀ o, x5.frozen? ⟨x4.heap.size, o, none⟩ = false := fun o => (hx.frozen _ _ (by first | omega | (simp; done) | (simp; omega))).trans (by go_simp)
    replace HU := Lib.hid (Up.trans (by repeat (first | exact HU.out | refine Up.setCell ?_ (by first | omega | (simp; done) | (simp; omega)) _ | refine Up.alloc ?_ _)) hx : Up w x5)
    clear c4_0_0 c4_0_1 c4_0_2 c4_0_3 c4_0_4 f4_0 c4_1_0 c4_1_1 f4_1 c4_2_0 c4_2_1 f4_2
    clear hx hsz
    have hne5_0 : (w.heap.size = x5.heap.size) = False := by simp; omega
    have hnf5_0 : (x5.heap.size = w.heap.size) = False := by simp; omega
    have hne5_1 : (w.heap.size + 1 = x5.heap.size) = False := by simp; omega
    have hnf5_1 : (x5.heap.size = w.heap.size + 1) = False := by simp; omega
    have hne5_2 : (w.heap.size + 1 + 1 = x5.heap.size) = False := by simp; omega
    have hnf5_2 : (x5.heap.size = w.heap.size + 1 + 1) = False := by simp; omega
    have hne5_3 : (x4.heap.size = x5.heap.size) = False := by simp; omega
    have hnf5_3 : (x5.heap.size = x4.heap.size) = False := by simp; omega
    go_wp2_with fail
    refine (law03_examples _).mono ?_
    rintro e6 x6 ⟨rfl, hx⟩
    have hsz := hx.size
    try simp at hsz
    have hz6_0 : w.heap.size < x6.heap.size := by omega
    have c6_0_0 : x6.cell? ⟨w.heap.size, 0, none⟩ = some (Value.int .i64 2) := (hx.cell _ _ (by first | omega | (simp; done) | (simp; omega))).trans (by go_simp)
    have c6_0_1 : x6.cell? ⟨w.heap.size, 1, none⟩ = some (Value.int .i64 b) := (hx.cell _ _ (by first | omega | (simp; done) | (simp; omega))).trans (by go_simp)
    have c6_0_2 : x6.cell? ⟨w.heap.size, 2, none⟩ = some (Value.int .i64 f) := (hx.cell _ _ (by first | omega | (simp; done) | (simp; omega))).trans (by go_simp)
    have c6_0_3 : x6.cell? ⟨w.heap.size, 3, none⟩ = some (Value.int .i64 r) := (hx.cell _ _ (by first | omega | (simp; done) | (simp; omega))).trans (by go_simp)
    have c6_0_4 : x6.cell? ⟨w.heap.size, 4, none⟩ = some (Value.int .i64 1) := (hx.cell _ _ (by first | omega | (simp; done) | (simp; omega))).trans (by go_simp)
    have f6_0 : ∀ o, x6.frozen? ⟨w.heap.size, o, none⟩ = false := fun o => (hx.frozen _ _ (by first | omega | (simp; done) | (simp; omega))).trans (by go_simp)
    have hz6_1 : w.heap.size + 1 < x6.heap.size := by omega
    have c6_1_0 : x6.cell? ⟨w.heap.size + 1, 0, none⟩ = some (Value.int .i64 n1) := (hx.cell _ _ (by first | omega | (simp; done) | (simp; omega))).trans (by go_simp)
    have c6_1_1 : x6.cell? ⟨w.heap.size + 1, 1, none⟩ = some (Value.int .i64 d1) := (hx.cell _ _ (by first | omega | (simp; done) | (simp; omega))).trans (by go_simp)
    have f6_1 : ∀ o, x6.frozen? ⟨w.heap.size + 1, o, none⟩ = false := fun o => (hx.frozen _ _ (by first | omega | (simp; done) | (simp; omega))).trans (by go_simp)
    have hz6_2 : w.heap.size + 1 + 1 < x6.heap.size := by omega
    have c6_2_0 : x6.cell? ⟨w.heap.size + 1 + 1, 0, none⟩ = some (Value.int .i64 n2) := (hx.cell _ _ (by first | omega | (simp; done) | (simp; omega))).trans (by go_simp)
    have c6_2_1 : x6.cell? ⟨w.heap.size + 1 + 1, 1, none⟩ = some (Value.int .i64 d2) := (hx.cell _ _ (by first | omega | (simp; done) | (simp; omega))).trans (by go_simp)
    have f6_2 : ∀ o, x6.frozen? ⟨w.heap.size + 1 + 1, o, none⟩ = false := fun o => (hx.frozen _ _ (by first | omega | (simp; done) | (simp; omega))).trans (by go_simp)
    have hz6_3 : x4.heap.size < x6.heap.size := by omega
    have c6_3_0 : x6.cell? ⟨x4.heap.size, 0, none⟩ = some (Value.int .i64 x) := (hx.cell _ _ (by first | omega | (simp; done) | (simp; omega))).trans (by go_simp)
    have c6_3_1 : x6.cell? ⟨x4.heap.size, 1, none⟩ = some (Value.int .i64 1) := (hx.cell _ _ (by first | omega | (simp; done) | (simp; omega))).trans (by go_simp)
    have f6_3 : ∀ o, x6.frozen? ⟨x4.heap.size, o, none⟩ = false := fun o => (hx.frozen _ _ (by first | omega | (simp; done) | (simp; omega))).trans (by go_simp)
    have hz6_4 : x5.heap.size < x6.heap.size := by omega
    have c6_4_0 : x6.cell? ⟨x5.heap.size, 0, none⟩ = some (Value.int .i64 y) := (hx.cell _ _ (by first | omega | (simp; done) | (simp; omega))).trans (by go_simp)
    have c6_4_1 : x6.cell? ⟨x5.heap.size, 1, none⟩ = some (Value.int .i64 1) := (hx.cell _ _ (by first | omega | (simp; done) | (simp; omega))).trans (by go_simp)
    have f6_4 : ∀ o, x6.frozen? ⟨x5.heap.size, o, none⟩ = false := fun o => (hx.frozen _ _ (by first | omega | (simp; done) | (simp; omega))).trans (by go_simp)
    replace HU := Lib.hid (Up.trans (by repeat (first | exact HU.out | refine Up.setCell ?_ (by first | omega | (simp; done) | (simp; omega)) _ | refine Up.alloc ?_ _)) hx : Up w x6)
    clear c5_0_0 c5_0_1 c5_0_2 c5_0_3 c5_0_4 f5_0 c5_1_0 c5_1_1 f5_1 c5_2_0 c5_2_1 f5_2 c5_3_0 c5_3_1 f5_3
    clear hx hsz
    go_wp2
    go_ret
    exact ⟨rfl, (by repeat (first | exact HU.out | refine Up.drewN _ ?_ | refine Up.setCell ?_ (by first | omega | (simp; done) | (simp; omega)) _ | refine Up.alloc ?_ _))⟩

end Go.Proofs.Ytknojjmbhbbcmaa.fixedMonotone
