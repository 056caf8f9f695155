/-
  FixedGroup: the walk of the law. Printed by mk03l.py.
-/
import Derived.Test.YtknojjmbhbbcmaaFixH
import Derived.Test.YtknojjmbhbbcmaaFixI
import Derived.Test.YtknojjmbhbbcmaaFixX
import Derived.Test.YtknojjmbhbbcmaaOpenTy
import Derived.Test.YtknojjmbhbbcmaaOpenVal
namespace Go.Proofs.Ytknojjmbhbbcmaa.fixedGroup
open Go.ChangeShapes Go.WideShapes Go.ChangeAt Go.RowKit
set_option linter.unusedVariables false
set_option linter.unusedSimpArgs false

set_option maxHeartbeats 8000000 in
set_option maxRecDepth 100000 in
theorem walk (W : World) {v0 v1 v2 v3 : Value} (w0 : IsTy v0) (w1 : IsVal v1) (w2 : IsVal v2) (w3 : IsVal v3) :
    Calls Try.prog 7 #[v0, v1, v2, v3] W fun e w' => e = .returned (.bool true) ∧ Up W w' := by
  revert W
  intro w
  obtain ⟨k, b, f, r, o, rfl⟩ := w0
  obtain ⟨n1, d1, rfl, n1a, n1b, n1c, n1d⟩ := w1
  obtain ⟨n2, d2, rfl, n2a, n2b, n2c, n2d⟩ := w2
  obtain ⟨n3, d3, rfl, n3a, n3b, n3c, n3d⟩ := w3
  obtain ⟨vv, hvv⟩ : ∃ vv, vT k b f r o = vv := ⟨_, rfl⟩
  have HV := Lib.hid hvv
  clear hvv
  obtain ⟨u1, h1⟩ : ∃ u, vTV k b f r o n1 d1 = u := ⟨_, rfl⟩
  have H1 := Lib.hid h1
  obtain ⟨u2, h2⟩ : ∃ u, vTV k b f r o n2 d2 = u := ⟨_, rfl⟩
  have H2 := Lib.hid h2
  obtain ⟨u3, h3⟩ : ∃ u, vTV k b f r o n3 d3 = u := ⟨_, rfl⟩
  have H3 := Lib.hid h3
  cases u1
  · clear h1 h2 h3
    go_enter Try.func7, Try.ntmps7
    go_wp2_with fail
    refine (ref03_Valid _ _ _ _ _ n1 d1 false H1.out _).mono ?_
    rintro e1 x1 ⟨rfl, hW⟩
    obtain ⟨hc, hf⟩ := hW.both
    have HW := Lib.hid hW
    clear hW
    go_wp2_with fail
    refine (law03_examples _).mono ?_
    rintro e2 x2 ⟨rfl, hx⟩
    replace HW := Lib.hid (HW.out.trans hx)
    clear hc hf hx
    obtain ⟨hc, hf⟩ := HW.out.both
    go_wp2
    go_ret
    exact ⟨rfl, (by repeat (first | exact Up.trans (by repeat (first | exact Up.refl _ | refine Up.alloc ?_ _)) HW.out | refine Up.setCell ?_ (by first | omega | (simp; done) | (simp; omega)) _ | refine Up.alloc ?_ _))⟩
  cases u2
  · clear h1 h2 h3
    go_enter Try.func7, Try.ntmps7
    go_wp2_with fail
    refine (ref03_Valid _ _ _ _ _ n1 d1 true H1.out _).mono ?_
    rintro e1 x1 ⟨rfl, hW⟩
    obtain ⟨hc, hf⟩ := hW.both
    have HW := Lib.hid hW
    clear hW
    go_wp2_with fail
    refine (ref03_Valid _ _ _ _ _ n2 d2 false H2.out _).mono ?_
    rintro e2 x2 ⟨rfl, hx⟩
    replace HW := Lib.hid (HW.out.trans hx)
    clear hc hf hx
    obtain ⟨hc, hf⟩ := HW.out.both
    go_wp2_with fail
    refine (law03_examples _).mono ?_
    rintro e3 x3 ⟨rfl, hx⟩
    replace HW := Lib.hid (HW.out.trans hx)
    clear hc hf hx
    obtain ⟨hc, hf⟩ := HW.out.both
    go_wp2
    go_ret
    exact ⟨rfl, (by repeat (first | exact Up.trans (by repeat (first | exact Up.refl _ | refine Up.alloc ?_ _)) HW.out | refine Up.setCell ?_ (by first | omega | (simp; done) | (simp; omega)) _ | refine Up.alloc ?_ _))⟩
  cases u3
  · clear h1 h2 h3
    go_enter Try.func7, Try.ntmps7
    go_wp2_with fail
    refine (ref03_Valid _ _ _ _ _ n1 d1 true H1.out _).mono ?_
    rintro e1 x1 ⟨rfl, hW⟩
    obtain ⟨hc, hf⟩ := hW.both
    have HW := Lib.hid hW
    clear hW
    go_wp2_with fail
    refine (ref03_Valid _ _ _ _ _ n2 d2 true H2.out _).mono ?_
    rintro e2 x2 ⟨rfl, hx⟩
    replace HW := Lib.hid (HW.out.trans hx)
    clear hc hf hx
    obtain ⟨hc, hf⟩ := HW.out.both
    go_wp2_with fail
    refine (ref03_Valid _ _ _ _ _ n3 d3 false H3.out _).mono ?_
    rintro e3 x3 ⟨rfl, hx⟩
    replace HW := Lib.hid (HW.out.trans hx)
    clear hc hf hx
    obtain ⟨hc, hf⟩ := HW.out.both
    go_wp2_with fail
    refine (law03_examples _).mono ?_
    rintro e4 x4 ⟨rfl, hx⟩
    replace HW := Lib.hid (HW.out.trans hx)
    clear hc hf hx
    obtain ⟨hc, hf⟩ := HW.out.both
    go_wp2
    go_ret
    exact ⟨rfl, (by repeat (first | exact Up.trans (by repeat (first | exact Up.refl _ | refine Up.alloc ?_ _)) HW.out | refine Up.setCell ?_ (by first | omega | (simp; done) | (simp; omega)) _ | refine Up.alloc ?_ _))⟩
  simp only [vTV, Bool.and_eq_true] at h1 h2 h3
  obtain ⟨hT, h1⟩ := h1
  replace h2 := h2.2
  replace h3 := h3.2
  have hT2 := hT
  obtain ⟨rfl, s1, s2, s3, s4, s5, s6, s7⟩ := vT_spec hT
  obtain ⟨rfl, a1, a2⟩ := vV_spec s1 s2 h1
  obtain ⟨rfl, b1, b2⟩ := vV_spec s1 s2 h2
  obtain ⟨rfl, c1, c2⟩ := vV_spec s1 s2 h3
  have HO := Lib.hid s7
  have chk : ∀ x y : Int, vV b x 1 = true → vV b y 1 = true → chkE 2 b f r o [(x, 1), (y, 1)] = 0 := fun x y hx hy => by
    rw [chkE, if_neg (by rw [hT2]; simp), if_pos (by simp [hx, hy])]
  obtain ⟨ab, hab⟩ : ∃ x, fitN (n1 + n2) b o = x := ⟨_, rfl⟩
  obtain ⟨pf1, pf2⟩ := pow30 f s3 s4
  obtain ⟨m1, m2⟩ := prod_bd n1 n2 (by omega) (by omega) (by omega) (by omega)
  have hMo : isMode r = true := by simp [isMode]; omega
  have hdv := divR_pos (n1 * n2) (2 ^ f.toNat) r hMo (by omega) (by omega) (by omega)
  obtain ⟨q, hq⟩ : ∃ q, n1 * n2 / 2 ^ f.toNat + rcorr (n1 * n2) (2 ^ f.toNat) r = q := ⟨_, rfl⟩
  rw [hq] at hdv
  obtain ⟨xy, hxy⟩ : ∃ x, fitN q b o = x := ⟨_, rfl⟩
  have hvab : vV b ab 1 = true := by rw [← hab]; exact vV_fit _ _ _ s1 s2 HO.out
  have A1 : Hid (chkE 2 b f r o [(n1, 1), (n2, 1)] = 0) := Lib.hid (chk _ _ h1 h2)
  have A2 : Hid (chkE 2 b f r o [(n2, 1), (n1, 1)] = 0) := Lib.hid (chk _ _ h2 h1)
  have A3 : Hid (chkE 2 b f r o [(ab, 1), (n3, 1)] = 0) := Lib.hid (chk _ _ hvab h3)
  have A4 : Hid (chkE 2 b f r o [(n2, 1), (n3, 1)] = 0) := Lib.hid (chk _ _ h2 h3)
  have A6 : Hid (chkE 2 b f r o [(ab, 1), (n2, 1)] = 0) := Lib.hid (chk _ _ hvab h2)
  have B1 : Hid (fitN (n1 + n2) b o = ab) := Lib.hid hab
  have B2 : Hid (fitN (n2 + n1) b o = ab) := Lib.hid (by rw [Int.add_comm]; exact hab)
  have B3 : Hid (divR (n1 * n2) (2 ^ f.toNat) r = (q, 0)) := Lib.hid hdv
  have B4 : Hid (divR (n2 * n1) (2 ^ f.toNat) r = (q, 0)) := Lib.hid (by rw [Int.mul_comm]; exact hdv)
  have B5 := Lib.hid hxy
  by_cases ho : ¬ o = 2
  · have ho1 : (o == 2) = false := by simpa using ho
    have ho2 : (o != 2) = true := by simpa using ho
    clear hT hT2 h1 h2 h3 chk hab hdv hq hxy hvab hMo s7
    go_enter Try.func7, Try.ntmps7
    go_wp2_with fail
    refine (ref03_Valid _ _ _ _ _ n1 1 true H1.out _).mono ?_
    rintro e1 x1 ⟨rfl, hx⟩
    have hsz := hx.size
    try simp at hsz
    have hz1_0 : w.heap.size < x1.heap.size := by omega
    have c1_0_0 : x1.cell? ⟨w.heap.size, 0, none⟩ = some (Value.int .i64 2) := (hx.cell _ _ (by first | omega | (simp; done) | (simp; omega))).trans (by go_simp)
    have c1_0_1 : x1.cell? ⟨w.heap.size, 1, none⟩ = some (Value.int .i64 b) := (hx.cell _ _ (by first | omega | (simp; done) | (simp; omega))).trans (by go_simp)
    have c1_0_2 : x1.cell? ⟨w.heap.size, 2, none⟩ = some (Value.int .i64 f) := (hx.cell _ _ (by first | omega | (simp; done) | (simp; omega))).trans (by go_simp)
    have c1_0_3 : x1.cell? ⟨w.heap.size, 3, none⟩ = some (Value.int .i64 r) := (hx.cell _ _ (by first | omega | (simp; done) | (simp; omega))).trans (by go_simp)
    have c1_0_4 : x1.cell? ⟨w.heap.size, 4, none⟩ = some (Value.int .i64 o) := (hx.cell _ _ (by first | omega | (simp; done) | (simp; omega))).trans (by go_simp)
    have f1_0 : ∀ o, x1.frozen? ⟨w.heap.size, o, none⟩ = false := fun o => (hx.frozen _ _ (by first | omega | (simp; done) | (simp; omega))).trans (by go_simp)
    have hz1_1 : w.heap.size + 1 < x1.heap.size := by omega
    have c1_1_0 : x1.cell? ⟨w.heap.size + 1, 0, none⟩ = some (Value.int .i64 n1) := (hx.cell _ _ (by first | omega | (simp; done) | (simp; omega))).trans (by go_simp)
    have c1_1_1 : x1.cell? ⟨w.heap.size + 1, 1, none⟩ = some (Value.int .i64 1) := (hx.cell _ _ (by first | omega | (simp; done) | (simp; omega))).trans (by go_simp)
    have f1_1 : ∀ o, x1.frozen? ⟨w.heap.size + 1, o, none⟩ = false := fun o => (hx.frozen _ _ (by first | omega | (simp; done) | (simp; omega))).trans (by go_simp)
    have hz1_2 : w.heap.size + 1 + 1 < x1.heap.size := by omega
    have c1_2_0 : x1.cell? ⟨w.heap.size + 1 + 1, 0, none⟩ = some (Value.int .i64 n2) := (hx.cell _ _ (by first | omega | (simp; done) | (simp; omega))).trans (by go_simp)
    have c1_2_1 : x1.cell? ⟨w.heap.size + 1 + 1, 1, none⟩ = some (Value.int .i64 1) := (hx.cell _ _ (by first | omega | (simp; done) | (simp; omega))).trans (by go_simp)
    have f1_2 : ∀ o, x1.frozen? ⟨w.heap.size + 1 + 1, o, none⟩ = false := fun o => (hx.frozen _ _ (by first | omega | (simp; done) | (simp; omega))).trans (by go_simp)
    have hz1_3 : w.heap.size + 1 + 1 + 1 < x1.heap.size := by omega
    have c1_3_0 : x1.cell? ⟨w.heap.size + 1 + 1 + 1, 0, none⟩ = some (Value.int .i64 n3) := (hx.cell _ _ (by first | omega | (simp; done) | (simp; omega))).trans (by go_simp)
    have c1_3_1 : x1.cell? ⟨w.heap.size + 1 + 1 + 1, 1, none⟩ = some (Value.int .i64 1) := (hx.cell _ _ (by first | omega | (simp; done) | (simp; omega))).trans (by go_simp)
    have f1_3 : ∀ o, x1.frozen? ⟨w.heap.size + 1 + 1 + 1, o, none⟩ = false := fun o => (hx.frozen _ _ (by first | omega | (simp; done) | (simp; omega))).trans (by go_simp)
    have HU := Lib.hid (Up.trans (by repeat (first | exact Up.refl _ | refine Up.alloc ?_ _)) hx : Up w x1)
    clear hx hsz
    go_wp2_with fail
    refine (ref03_Valid _ _ _ _ _ n2 1 true H2.out _).mono ?_
    rintro e2 x2 ⟨rfl, hx⟩
    have hsz := hx.size
    try simp at hsz
    have hz2_0 : w.heap.size < x2.heap.size := by omega
    have c2_0_0 : x2.cell? ⟨w.heap.size, 0, none⟩ = some (Value.int .i64 2) := (hx.cell _ _ (by first | omega | (simp; done) | (simp; omega))).trans (by go_simp)
    have c2_0_1 : x2.cell? ⟨w.heap.size, 1, none⟩ = some (Value.int .i64 b) := (hx.cell _ _ (by first | omega | (simp; done) | (simp; omega))).trans (by go_simp)
    have c2_0_2 : x2.cell? ⟨w.heap.size, 2, none⟩ = some (Value.int .i64 f) := (hx.cell _ _ (by first | omega | (simp; done) | (simp; omega))).trans (by go_simp)
    have c2_0_3 : x2.cell? ⟨w.heap.size, 3, none⟩ = some (Value.int .i64 r) := (hx.cell _ _ (by first | omega | (simp; done) | (simp; omega))).trans (by go_simp)
    have c2_0_4 : x2.cell? ⟨w.heap.size, 4, none⟩ = some (Value.int .i64 o) := (hx.cell _ _ (by first | omega | (simp; done) | (simp; omega))).trans (by go_simp)
    have f2_0 : ∀ o, x2.frozen? ⟨w.heap.size, o, none⟩ = false := fun o => (hx.frozen _ _ (by first | omega | (simp; done) | (simp; omega))).trans (by go_simp)
    have hz2_1 : w.heap.size + 1 < x2.heap.size := by omega
    have c2_1_0 : x2.cell? ⟨w.heap.size + 1, 0, none⟩ = some (Value.int .i64 n1) := (hx.cell _ _ (by first | omega | (simp; done) | (simp; omega))).trans (by go_simp)
    have c2_1_1 : x2.cell? ⟨w.heap.size + 1, 1, none⟩ = some (Value.int .i64 1) := (hx.cell _ _ (by first | omega | (simp; done) | (simp; omega))).trans (by go_simp)
    have f2_1 : ∀ o, x2.frozen? ⟨w.heap.size + 1, o, none⟩ = false := fun o => (hx.frozen _ _ (by first | omega | (simp; done) | (simp; omega))).trans (by go_simp)
    have hz2_2 : w.heap.size + 1 + 1 < x2.heap.size := by omega
    have c2_2_0 : x2.cell? ⟨w.heap.size + 1 + 1, 0, none⟩ = some (Value.int .i64 n2) := (hx.cell _ _ (by first | omega | (simp; done) | (simp; omega))).trans (by go_simp)
    have c2_2_1 : x2.cell? ⟨w.heap.size + 1 + 1, 1, none⟩ = some (Value.int .i64 1) := (hx.cell _ _ (by first | omega | (simp; done) | (simp; omega))).trans (by go_simp)
    have f2_2 : ∀ o, x2.frozen? ⟨w.heap.size + 1 + 1, o, none⟩ = false := fun o => (hx.frozen _ _ (by first | omega | (simp; done) | (simp; omega))).trans (by go_simp)
    have hz2_3 : w.heap.size + 1 + 1 + 1 < x2.heap.size := by omega
    have c2_3_0 : x2.cell? ⟨w.heap.size + 1 + 1 + 1, 0, none⟩ = some (Value.int .i64 n3) := (hx.cell _ _ (by first | omega | (simp; done) | (simp; omega))).trans (by go_simp)
    have c2_3_1 : x2.cell? ⟨w.heap.size + 1 + 1 + 1, 1, none⟩ = some (Value.int .i64 1) := (hx.cell _ _ (by first | omega | (simp; done) | (simp; omega))).trans (by go_simp)
    have f2_3 : ∀ o, x2.frozen? ⟨w.heap.size + 1 + 1 + 1, o, none⟩ = false := fun o => (hx.frozen _ _ (by first | omega | (simp; done) | (simp; omega))).trans (by go_simp)
    replace HU := Lib.hid (Up.trans (by repeat (first | exact HU.out | refine Up.setCell ?_ (by first | omega | (simp; done) | (simp; omega)) _ | refine Up.alloc ?_ _)) hx : Up w x2)
    clear c1_0_0 c1_0_1 c1_0_2 c1_0_3 c1_0_4 f1_0 c1_1_0 c1_1_1 f1_1 c1_2_0 c1_2_1 f1_2 c1_3_0 c1_3_1 f1_3
    clear hx hsz
    go_wp2_with fail
    refine (ref03_Valid _ _ _ _ _ n3 1 true H3.out _).mono ?_
    rintro e3 x3 ⟨rfl, hx⟩
    have hsz := hx.size
    try simp at hsz
    have hz3_0 : w.heap.size < x3.heap.size := by omega
    have c3_0_0 : x3.cell? ⟨w.heap.size, 0, none⟩ = some (Value.int .i64 2) := (hx.cell _ _ (by first | omega | (simp; done) | (simp; omega))).trans (by go_simp)
    have c3_0_1 : x3.cell? ⟨w.heap.size, 1, none⟩ = some (Value.int .i64 b) := (hx.cell _ _ (by first | omega | (simp; done) | (simp; omega))).trans (by go_simp)
    have c3_0_2 : x3.cell? ⟨w.heap.size, 2, none⟩ = some (Value.int .i64 f) := (hx.cell _ _ (by first | omega | (simp; done) | (simp; omega))).trans (by go_simp)
    have c3_0_3 : x3.cell? ⟨w.heap.size, 3, none⟩ = some (Value.int .i64 r) := (hx.cell _ _ (by first | omega | (simp; done) | (simp; omega))).trans (by go_simp)
    have c3_0_4 : x3.cell? ⟨w.heap.size, 4, none⟩ = some (Value.int .i64 o) := (hx.cell _ _ (by first | omega | (simp; done) | (simp; omega))).trans (by go_simp)
    have f3_0 : ∀ o, x3.frozen? ⟨w.heap.size, o, none⟩ = false := fun o => (hx.frozen _ _ (by first | omega | (simp; done) | (simp; omega))).trans (by go_simp)
    have hz3_1 : w.heap.size + 1 < x3.heap.size := by omega
    have c3_1_0 : x3.cell? ⟨w.heap.size + 1, 0, none⟩ = some (Value.int .i64 n1) := (hx.cell _ _ (by first | omega | (simp; done) | (simp; omega))).trans (by go_simp)
    have c3_1_1 : x3.cell? ⟨w.heap.size + 1, 1, none⟩ = some (Value.int .i64 1) := (hx.cell _ _ (by first | omega | (simp; done) | (simp; omega))).trans (by go_simp)
    have f3_1 : ∀ o, x3.frozen? ⟨w.heap.size + 1, o, none⟩ = false := fun o => (hx.frozen _ _ (by first | omega | (simp; done) | (simp; omega))).trans (by go_simp)
    have hz3_2 : w.heap.size + 1 + 1 < x3.heap.size := by omega
    have c3_2_0 : x3.cell? ⟨w.heap.size + 1 + 1, 0, none⟩ = some (Value.int .i64 n2) := (hx.cell _ _ (by first | omega | (simp; done) | (simp; omega))).trans (by go_simp)
    have c3_2_1 : x3.cell? ⟨w.heap.size + 1 + 1, 1, none⟩ = some (Value.int .i64 1) := (hx.cell _ _ (by first | omega | (simp; done) | (simp; omega))).trans (by go_simp)
    have f3_2 : ∀ o, x3.frozen? ⟨w.heap.size + 1 + 1, o, none⟩ = false := fun o => (hx.frozen _ _ (by first | omega | (simp; done) | (simp; omega))).trans (by go_simp)
    have hz3_3 : w.heap.size + 1 + 1 + 1 < x3.heap.size := by omega
    have c3_3_0 : x3.cell? ⟨w.heap.size + 1 + 1 + 1, 0, none⟩ = some (Value.int .i64 n3) := (hx.cell _ _ (by first | omega | (simp; done) | (simp; omega))).trans (by go_simp)
    have c3_3_1 : x3.cell? ⟨w.heap.size + 1 + 1 + 1, 1, none⟩ = some (Value.int .i64 1) := (hx.cell _ _ (by first | omega | (simp; done) | (simp; omega))).trans (by go_simp)
    have f3_3 : ∀ o, x3.frozen? ⟨w.heap.size + 1 + 1 + 1, o, none⟩ = false := fun o => (hx.frozen _ _ (by first | omega | (simp; done) | (simp; omega))).trans (by go_simp)
    replace HU := Lib.hid (Up.trans (by repeat (first | exact HU.out | refine Up.setCell ?_ (by first | omega | (simp; done) | (simp; omega)) _ | refine Up.alloc ?_ _)) hx : Up w x3)
    clear c2_0_0 c2_0_1 c2_0_2 c2_0_3 c2_0_4 f2_0 c2_1_0 c2_1_1 f2_1 c2_2_0 c2_2_1 f2_2 c2_3_0 c2_3_1 f2_3
    clear hx hsz
    go_wp2_with fail
    refine (add_ok _ _ _ _ _ _ _ _ _ _ A1.out B1.out _).mono ?_
    rintro e4 x4 ⟨rfl, hx⟩
    have hsz := hx.size
    try simp at hsz
    have hz4_0 : w.heap.size < x4.heap.size := by omega
    have c4_0_0 : x4.cell? ⟨w.heap.size, 0, none⟩ = some (Value.int .i64 2) := (hx.cell _ _ (by first | omega | (simp; done) | (simp; omega))).trans (by go_simp)
    have c4_0_1 : x4.cell? ⟨w.heap.size, 1, none⟩ = some (Value.int .i64 b) := (hx.cell _ _ (by first | omega | (simp; done) | (simp; omega))).trans (by go_simp)
    have c4_0_2 : x4.cell? ⟨w.heap.size, 2, none⟩ = some (Value.int .i64 f) := (hx.cell _ _ (by first | omega | (simp; done) | (simp; omega))).trans (by go_simp)
    have c4_0_3 : x4.cell? ⟨w.heap.size, 3, none⟩ = some (Value.int .i64 r) := (hx.cell _ _ (by first | omega | (simp; done) | (simp; omega))).trans (by go_simp)
    have c4_0_4 : x4.cell? ⟨w.heap.size, 4, none⟩ = some (Value.int .i64 o) := (hx.cell _ _ (by first | omega | (simp; done) | (simp; omega))).trans (by go_simp)
    have f4_0 : ∀ o, x4.frozen? ⟨w.heap.size, o, none⟩ = false := fun o => (hx.frozen _ _ (by first | omega | (simp; done) | (simp; omega))).trans (by go_simp)
    have hz4_1 : w.heap.size + 1 < x4.heap.size := by omega
    have c4_1_0 : x4.cell? ⟨w.heap.size + 1, 0, none⟩ = some (Value.int .i64 n1) := (hx.cell _ _ (by first | omega | (simp; done) | (simp; omega))).trans (by go_simp)
    have c4_1_1 : x4.cell? ⟨w.heap.size + 1, 1, none⟩ = some (Value.int .i64 1) := (hx.cell _ _ (by first | omega | (simp; done) | (simp; omega))).trans (by go_simp)
    have f4_1 : ∀ o, x4.frozen? ⟨w.heap.size + 1, o, none⟩ = false := fun o => (hx.frozen _ _ (by first | omega | (simp; done) | (simp; omega))).trans (by go_simp)
    have hz4_2 : w.heap.size + 1 + 1 < x4.heap.size := by omega
    have c4_2_0 : x4.cell? ⟨w.heap.size + 1 + 1, 0, none⟩ = some (Value.int .i64 n2) := (hx.cell _ _ (by first | omega | (simp; done) | (simp; omega))).trans (by go_simp)
    have c4_2_1 : x4.cell? ⟨w.heap.size + 1 + 1, 1, none⟩ = some (Value.int .i64 1) := (hx.cell _ _ (by first | omega | (simp; done) | (simp; omega))).trans (by go_simp)
    have f4_2 : ∀ o, x4.frozen? ⟨w.heap.size + 1 + 1, o, none⟩ = false := fun o => (hx.frozen _ _ (by first | omega | (simp; done) | (simp; omega))).trans (by go_simp)
    have hz4_3 : w.heap.size + 1 + 1 + 1 < x4.heap.size := by omega
    have c4_3_0 : x4.cell? ⟨w.heap.size + 1 + 1 + 1, 0, none⟩ = some (Value.int .i64 n3) := (hx.cell _ _ (by first | omega | (simp; done) | (simp; omega))).trans (by go_simp)
    have c4_3_1 : x4.cell? ⟨w.heap.size + 1 + 1 + 1, 1, none⟩ = some (Value.int .i64 1) := (hx.cell _ _ (by first | omega | (simp; done) | (simp; omega))).trans (by go_simp)
    have f4_3 : ∀ o, x4.frozen? ⟨w.heap.size + 1 + 1 + 1, o, none⟩ = false := fun o => (hx.frozen _ _ (by first | omega | (simp; done) | (simp; omega))).trans (by go_simp)
    replace HU := Lib.hid (Up.trans (by repeat (first | exact HU.out | refine Up.setCell ?_ (by first | omega | (simp; done) | (simp; omega)) _ | refine Up.alloc ?_ _)) hx : Up w x4)
    clear c3_0_0 c3_0_1 c3_0_2 c3_0_3 c3_0_4 f3_0 c3_1_0 c3_1_1 f3_1 c3_2_0 c3_2_1 f3_2 c3_3_0 c3_3_1 f3_3
    clear hx hsz
    have hne4_0 : (w.heap.size = x4.heap.size) = False := by simp; omega
    have hnf4_0 : (x4.heap.size = w.heap.size) = False := by simp; omega
    have hne4_1 : (w.heap.size + 1 = x4.heap.size) = False := by simp; omega
    have hnf4_1 : (x4.heap.size = w.heap.size + 1) = False := by simp; omega
    have hne4_2 : (w.heap.size + 1 + 1 = x4.heap.size) = False := by simp; omega
    have hnf4_2 : (x4.heap.size = w.heap.size + 1 + 1) = False := by simp; omega
    have hne4_3 : (w.heap.size + 1 + 1 + 1 = x4.heap.size) = False := by simp; omega
    have hnf4_3 : (x4.heap.size = w.heap.size + 1 + 1 + 1) = False := by simp; omega
    go_wp2_with fail
    refine (add_ok _ _ _ _ _ _ _ _ _ _ A2.out B2.out _).mono ?_
    rintro e5 x5 ⟨rfl, hx⟩
    have hsz := hx.size
    try simp at hsz
    have hz5_0 : w.heap.size < x5.heap.size := by omega
    have c5_0_0 : x5.cell? ⟨w.heap.size, 0, none⟩ = some (Value.int .i64 2) := (hx.cell _ _ (by first | omega | (simp; done) | (simp; omega))).trans (by go_simp)
    have c5_0_1 : x5.cell? ⟨w.heap.size, 1, none⟩ = some (Value.int .i64 b) := (hx.cell _ _ (by first | omega | (simp; done) | (simp; omega))).trans (by go_simp)
    have c5_0_2 : x5.cell? ⟨w.heap.size, 2, none⟩ = some (Value.int .i64 f) := (hx.cell _ _ (by first | omega | (simp; done) | (simp; omega))).trans (by go_simp)
    have c5_0_3 : x5.cell? ⟨w.heap.size, 3, none⟩ = some (Value.int .i64 r) := (hx.cell _ _ (by first | omega | (simp; done) | (simp; omega))).trans (by go_simp)
    have c5_0_4 : x5.cell? ⟨w.heap.size, 4, none⟩ = some (Value.int .i64 o) := (hx.cell _ _ (by first | omega | (simp; done) | (simp; omega))).trans (by go_simp)
    have f5_0 : ∀ o, x5.frozen? ⟨w.heap.size, o, none⟩ = false := fun o => (hx.frozen _ _ (by first | omega | (simp; done) | (simp; omega))).trans (by go_simp)
    have hz5_1 : w.heap.size + 1 < x5.heap.size := by omega
    have c5_1_0 : x5.cell? ⟨w.heap.size + 1, 0, none⟩ = some (Value.int .i64 n1) := (hx.cell _ _ (by first | omega | (simp; done) | (simp; omega))).trans (by go_simp)
    have c5_1_1 : x5.cell? ⟨w.heap.size + 1, 1, none⟩ = some (Value.int .i64 1) := (hx.cell _ _ (by first | omega | (simp; done) | (simp; omega))).trans (by go_simp)
    have f5_1 : ∀ o, x5.frozen? ⟨w.heap.size + 1, o, none⟩ = false := fun o => (hx.frozen _ _ (by first | omega | (simp; done) | (simp; omega))).trans (by go_simp)
    have hz5_2 : w.heap.size + 1 + 1 < x5.heap.size := by omega
    have c5_2_0 : x5.cell? ⟨w.heap.size + 1 + 1, 0, none⟩ = some (Value.int .i64 n2) := (hx.cell _ _ (by first | omega | (simp; done) | (simp; omega))).trans (by go_simp)
    have c5_2_1 : x5.cell? ⟨w.heap.size + 1 + 1, 1, none⟩ = some (Value.int .i64 1) := (hx.cell _ _ (by first | omega | (simp; done) | (simp; omega))).trans (by go_simp)
    have f5_2 : ∀ o, x5.frozen? ⟨w.heap.size + 1 + 1, o, none⟩ = false := fun o => (hx.frozen _ _ (by first | omega | (simp; done) | (simp; omega))).trans (by go_simp)
    have hz5_3 : w.heap.size + 1 + 1 + 1 < x5.heap.size := by omega
    have c5_3_0 : x5.cell? ⟨w.heap.size + 1 + 1 + 1, 0, none⟩ = some (Value.int .i64 n3) := (hx.cell _ _ (by first | omega | (simp; done) | (simp; omega))).trans (by go_simp)
    have c5_3_1 : x5.cell? ⟨w.heap.size + 1 + 1 + 1, 1, none⟩ = some (Value.int .i64 1) := (hx.cell _ _ (by first | omega | (simp; done) | (simp; omega))).trans (by go_simp)
    have f5_3 : ∀ o, x5.frozen? ⟨w.heap.size + 1 + 1 + 1, o, none⟩ = false := fun o => (hx.frozen _ _ (by first | omega | (simp; done) | (simp; omega))).trans (by go_simp)
    have hz5_4 : x4.heap.size < x5.heap.size := by omega
    have c5_4_0 : x5.cell? ⟨x4.heap.size, 0, none⟩ = some (Value.int .i64 ab) := (hx.cell _ _ (by first | omega | (simp; done) | (simp; omega))).trans (by go_simp)
    have c5_4_1 : x5.cell? ⟨x4.heap.size, 1, none⟩ = some (Value.int .i64 1) := (hx.cell _ _ (by first | omega | (simp; done) | (simp; omega))).trans (by go_simp)
    have f5_4 : ∀ o, x5.frozen? ⟨x4.heap.size, o, none⟩ = false := fun o => (hx.frozen _ _ (by first | omega | (simp; done) | (simp; omega))).trans (by go_simp)
    replace HU := Lib.hid (Up.trans (by repeat (first | exact HU.out | refine Up.setCell ?_ (by first | omega | (simp; done) | (simp; omega)) _ | refine Up.alloc ?_ _)) hx : Up w x5)
    clear c4_0_0 c4_0_1 c4_0_2 c4_0_3 c4_0_4 f4_0 c4_1_0 c4_1_1 f4_1 c4_2_0 c4_2_1 f4_2 c4_3_0 c4_3_1 f4_3
    clear hx hsz
    have hne5_0 : (w.heap.size = x5.heap.size) = False := by simp; omega
    have hnf5_0 : (x5.heap.size = w.heap.size) = False := by simp; omega
    have hne5_1 : (w.heap.size + 1 = x5.heap.size) = False := by simp; omega
    have hnf5_1 : (x5.heap.size = w.heap.size + 1) = False := by simp; omega
    have hne5_2 : (w.heap.size + 1 + 1 = x5.heap.size) = False := by simp; omega
    have hnf5_2 : (x5.heap.size = w.heap.size + 1 + 1) = False := by simp; omega
    have hne5_3 : (w.heap.size + 1 + 1 + 1 = x5.heap.size) = False := by simp; omega
    have hnf5_3 : (x5.heap.size = w.heap.size + 1 + 1 + 1) = False := by simp; omega
    have hne5_4 : (x4.heap.size = x5.heap.size) = False := by simp; omega
    have hnf5_4 : (x5.heap.size = x4.heap.size) = False := by simp; omega
    go_wp2_with fail
    refine (mul_ok _ _ _ _ _ _ _ _ _ _ _ A1.out B3.out B5.out _).mono ?_
    rintro e6 x6 ⟨rfl, hx⟩
    have hsz := hx.size
    try simp at hsz
    have hz6_0 : w.heap.size < x6.heap.size := by omega
    have c6_0_0 : x6.cell? ⟨w.heap.size, 0, none⟩ = some (Value.int .i64 2) := (hx.cell _ _ (by first | omega | (simp; done) | (simp; omega))).trans (by go_simp)
    have c6_0_1 : x6.cell? ⟨w.heap.size, 1, none⟩ = some (Value.int .i64 b) := (hx.cell _ _ (by first | omega | (simp; done) | (simp; omega))).trans (by go_simp)
    have c6_0_2 : x6.cell? ⟨w.heap.size, 2, none⟩ = some (Value.int .i64 f) := (hx.cell _ _ (by first | omega | (simp; done) | (simp; omega))).trans (by go_simp)
    have c6_0_3 : x6.cell? ⟨w.heap.size, 3, none⟩ = some (Value.int .i64 r) := (hx.cell _ _ (by first | omega | (simp; done) | (simp; omega))).trans (by go_simp)
    have c6_0_4 : x6.cell? ⟨w.heap.size, 4, none⟩ = some (Value.int .i64 o) := (hx.cell _ _ (by first | omega | (simp; done) | (simp; omega))).trans (by go_simp)
    have f6_0 : ∀ o, x6.frozen? ⟨w.heap.size, o, none⟩ = false := fun o => (hx.frozen _ _ (by first | omega | (simp; done) | (simp; omega))).trans (by go_simp)
    have hz6_1 : w.heap.size + 1 < x6.heap.size := by omega
    have c6_1_0 : x6.cell? ⟨w.heap.size + 1, 0, none⟩ = some (Value.int .i64 n1) := (hx.cell _ _ (by first | omega | (simp; done) | (simp; omega))).trans (by go_simp)
    have c6_1_1 : x6.cell? ⟨w.heap.size + 1, 1, none⟩ = some (Value.int .i64 1) := (hx.cell _ _ (by first | omega | (simp; done) | (simp; omega))).trans (by go_simp)
    have f6_1 : ∀ o, x6.frozen? ⟨w.heap.size + 1, o, none⟩ = false := fun o => (hx.frozen _ _ (by first | omega | (simp; done) | (simp; omega))).trans (by go_simp)
    have hz6_2 : w.heap.size + 1 + 1 < x6.heap.size := by omega
    have c6_2_0 : x6.cell? ⟨w.heap.size + 1 + 1, 0, none⟩ = some (Value.int .i64 n2) := (hx.cell _ _ (by first | omega | (simp; done) | (simp; omega))).trans (by go_simp)
    have c6_2_1 : x6.cell? ⟨w.heap.size + 1 + 1, 1, none⟩ = some (Value.int .i64 1) := (hx.cell _ _ (by first | omega | (simp; done) | (simp; omega))).trans (by go_simp)
    have f6_2 : ∀ o, x6.frozen? ⟨w.heap.size + 1 + 1, o, none⟩ = false := fun o => (hx.frozen _ _ (by first | omega | (simp; done) | (simp; omega))).trans (by go_simp)
    have hz6_3 : w.heap.size + 1 + 1 + 1 < x6.heap.size := by omega
    have c6_3_0 : x6.cell? ⟨w.heap.size + 1 + 1 + 1, 0, none⟩ = some (Value.int .i64 n3) := (hx.cell _ _ (by first | omega | (simp; done) | (simp; omega))).trans (by go_simp)
    have c6_3_1 : x6.cell? ⟨w.heap.size + 1 + 1 + 1, 1, none⟩ = some (Value.int .i64 1) := (hx.cell _ _ (by first | omega | (simp; done) | (simp; omega))).trans (by go_simp)
    have f6_3 : ∀ o, x6.frozen? ⟨w.heap.size + 1 + 1 + 1, o, none⟩ = false := fun o => (hx.frozen _ _ (by first | omega | (simp; done) | (simp; omega))).trans (by go_simp)
    have hz6_4 : x4.heap.size < x6.heap.size := by omega
    have c6_4_0 : x6.cell? ⟨x4.heap.size, 0, none⟩ = some (Value.int .i64 ab) := (hx.cell _ _ (by first | omega | (simp; done) | (simp; omega))).trans (by go_simp)
    have c6_4_1 : x6.cell? ⟨x4.heap.size, 1, none⟩ = some (Value.int .i64 1) := (hx.cell _ _ (by first | omega | (simp; done) | (simp; omega))).trans (by go_simp)
    have f6_4 : ∀ o, x6.frozen? ⟨x4.heap.size, o, none⟩ = false := fun o => (hx.frozen _ _ (by first | omega | (simp; done) | (simp; omega))).trans (by go_simp)
    have hz6_5 : x5.heap.size < x6.heap.size := by omega
    have c6_5_0 : x6.cell? ⟨x5.heap.size, 0, none⟩ = some (Value.int .i64 ab) := (hx.cell _ _ (by first | omega | (simp; done) | (simp; omega))).trans (by go_simp)
    have c6_5_1 : x6.cell? ⟨x5.heap.size, 1, none⟩ = some (Value.int .i64 1) := (hx.cell _ _ (by first | omega | (simp; done) | (simp; omega))).trans (by go_simp)
    have f6_5 : ∀ o, x6.frozen? ⟨x5.heap.size, o, none⟩ = false := fun o => (hx.frozen _ _ (by first | omega | (simp; done) | (simp; omega))).trans (by go_simp)
    replace HU := Lib.hid (Up.trans (by repeat (first | exact HU.out | refine Up.setCell ?_ (by first | omega | (simp; done) | (simp; omega)) _ | refine Up.alloc ?_ _)) hx : Up w x6)
    clear c5_0_0 c5_0_1 c5_0_2 c5_0_3 c5_0_4 f5_0 c5_1_0 c5_1_1 f5_1 c5_2_0 c5_2_1 f5_2 c5_3_0 c5_3_1 f5_3 c5_4_0 c5_4_1 f5_4
    clear hx hsz
    have hne6_0 : (w.heap.size = x6.heap.size) = False := by simp; omega
    have hnf6_0 : (x6.heap.size = w.heap.size) = False := by simp; omega
    have hne6_1 : (w.heap.size + 1 = x6.heap.size) = False := by simp; omega
    have hnf6_1 : (x6.heap.size = w.heap.size + 1) = False := by simp; omega
    have hne6_2 : (w.heap.size + 1 + 1 = x6.heap.size) = False := by simp; omega
    have hnf6_2 : (x6.heap.size = w.heap.size + 1 + 1) = False := by simp; omega
    have hne6_3 : (w.heap.size + 1 + 1 + 1 = x6.heap.size) = False := by simp; omega
    have hnf6_3 : (x6.heap.size = w.heap.size + 1 + 1 + 1) = False := by simp; omega
    have hne6_4 : (x4.heap.size = x6.heap.size) = False := by simp; omega
    have hnf6_4 : (x6.heap.size = x4.heap.size) = False := by simp; omega
    have hne6_5 : (x5.heap.size = x6.heap.size) = False := by simp; omega
    have hnf6_5 : (x6.heap.size = x5.heap.size) = False := by simp; omega
    go_wp2_with fail
    refine (mul_ok _ _ _ _ _ _ _ _ _ _ _ A2.out B4.out B5.out _).mono ?_
    rintro e7 x7 ⟨rfl, hx⟩
    have hsz := hx.size
    try simp at hsz
    have hz7_0 : w.heap.size < x7.heap.size := by omega
    have c7_0_0 : x7.cell? ⟨w.heap.size, 0, none⟩ = some (Value.int .i64 2) := (hx.cell _ _ (by first | omega | (simp; done) | (simp; omega))).trans (by go_simp)
    have c7_0_1 : x7.cell? ⟨w.heap.size, 1, none⟩ = some (Value.int .i64 b) := (hx.cell _ _ (by first | omega | (simp; done) | (simp; omega))).trans (by go_simp)
    have c7_0_2 : x7.cell? ⟨w.heap.size, 2, none⟩ = some (Value.int .i64 f) := (hx.cell _ _ (by first | omega | (simp; done) | (simp; omega))).trans (by go_simp)
    have c7_0_3 : x7.cell? ⟨w.heap.size, 3, none⟩ = some (Value.int .i64 r) := (hx.cell _ _ (by first | omega | (simp; done) | (simp; omega))).trans (by go_simp)
    have c7_0_4 : x7.cell? ⟨w.heap.size, 4, none⟩ = some (Value.int .i64 o) := (hx.cell _ _ (by first | omega | (simp; done) | (simp; omega))).trans (by go_simp)
    have f7_0 : ∀ o, x7.frozen? ⟨w.heap.size, o, none⟩ = false := fun o => (hx.frozen _ _ (by first | omega | (simp; done) | (simp; omega))).trans (by go_simp)
    have hz7_1 : w.heap.size + 1 < x7.heap.size := by omega
    have c7_1_0 : x7.cell? ⟨w.heap.size + 1, 0, none⟩ = some (Value.int .i64 n1) := (hx.cell _ _ (by first | omega | (simp; done) | (simp; omega))).trans (by go_simp)
    have c7_1_1 : x7.cell? ⟨w.heap.size + 1, 1, none⟩ = some (Value.int .i64 1) := (hx.cell _ _ (by first | omega | (simp; done) | (simp; omega))).trans (by go_simp)
    have f7_1 : ∀ o, x7.frozen? ⟨w.heap.size + 1, o, none⟩ = false := fun o => (hx.frozen _ _ (by first | omega | (simp; done) | (simp; omega))).trans (by go_simp)
    have hz7_2 : w.heap.size + 1 + 1 < x7.heap.size := by omega
    have c7_2_0 : x7.cell? ⟨w.heap.size + 1 + 1, 0, none⟩ = some (Value.int .i64 n2) := (hx.cell _ _ (by first | omega | (simp; done) | (simp; omega))).trans (by go_simp)
    have c7_2_1 : x7.cell? ⟨w.heap.size + 1 + 1, 1, none⟩ = some (Value.int .i64 1) := (hx.cell _ _ (by first | omega | (simp; done) | (simp; omega))).trans (by go_simp)
    have f7_2 : ∀ o, x7.frozen? ⟨w.heap.size + 1 + 1, o, none⟩ = false := fun o => (hx.frozen _ _ (by first | omega | (simp; done) | (simp; omega))).trans (by go_simp)
    have hz7_3 : w.heap.size + 1 + 1 + 1 < x7.heap.size := by omega
    have c7_3_0 : x7.cell? ⟨w.heap.size + 1 + 1 + 1, 0, none⟩ = some (Value.int .i64 n3) := (hx.cell _ _ (by first | omega | (simp; done) | (simp; omega))).trans (by go_simp)
    have c7_3_1 : x7.cell? ⟨w.heap.size + 1 + 1 + 1, 1, none⟩ = some (Value.int .i64 1) := (hx.cell _ _ (by first | omega | (simp; done) | (simp; omega))).trans (by go_simp)
    have f7_3 : ∀ o, x7.frozen? ⟨w.heap.size + 1 + 1 + 1, o, none⟩ = false := fun o => (hx.frozen _ _ (by first | omega | (simp; done) | (simp; omega))).trans (by go_simp)
    have hz7_4 : x4.heap.size < x7.heap.size := by omega
    have c7_4_0 : x7.cell? ⟨x4.heap.size, 0, none⟩ = some (Value.int .i64 ab) := (hx.cell _ _ (by first | omega | (simp; done) | (simp; omega))).trans (by go_simp)
    have c7_4_1 : x7.cell? ⟨x4.heap.size, 1, none⟩ = some (Value.int .i64 1) := (hx.cell _ _ (by first | omega | (simp; done) | (simp; omega))).trans (by go_simp)
    have f7_4 : ∀ o, x7.frozen? ⟨x4.heap.size, o, none⟩ = false := fun o => (hx.frozen _ _ (by first | omega | (simp; done) | (simp; omega))).trans (by go_simp)
    have hz7_5 : x5.heap.size < x7.heap.size := by omega
    have c7_5_0 : x7.cell? ⟨x5.heap.size, 0, none⟩ = some (Value.int .i64 ab) := (hx.cell _ _ (by first | omega | (simp; done) | (simp; omega))).trans (by go_simp)
    have c7_5_1 : x7.cell? ⟨x5.heap.size, 1, none⟩ = some (Value.int .i64 1) := (hx.cell _ _ (by first | omega | (simp; done) | (simp; omega))).trans (by go_simp)
    have f7_5 : ∀ o, x7.frozen? ⟨x5.heap.size, o, none⟩ = false := fun o => (hx.frozen _ _ (by first | omega | (simp; done) | (simp; omega))).trans (by go_simp)
    have hz7_6 : x6.heap.size < x7.heap.size := by omega
    have c7_6_0 : x7.cell? ⟨x6.heap.size, 0, none⟩ = some (Value.int .i64 xy) := (hx.cell _ _ (by first | omega | (simp; done) | (simp; omega))).trans (by go_simp)
    have c7_6_1 : x7.cell? ⟨x6.heap.size, 1, none⟩ = some (Value.int .i64 1) := (hx.cell _ _ (by first | omega | (simp; done) | (simp; omega))).trans (by go_simp)
    have f7_6 : ∀ o, x7.frozen? ⟨x6.heap.size, o, none⟩ = false := fun o => (hx.frozen _ _ (by first | omega | (simp; done) | (simp; omega))).trans (by go_simp)
    replace HU := Lib.hid (Up.trans (by repeat (first | exact HU.out | refine Up.setCell ?_ (by first | omega | (simp; done) | (simp; omega)) _ | refine Up.alloc ?_ _)) hx : Up w x7)
    clear c6_0_0 c6_0_1 c6_0_2 c6_0_3 c6_0_4 f6_0 c6_1_0 c6_1_1 f6_1 c6_2_0 c6_2_1 f6_2 c6_3_0 c6_3_1 f6_3 c6_4_0 c6_4_1 f6_4 c6_5_0 c6_5_1 f6_5
    clear hx hsz
    have hne7_0 : (w.heap.size = x7.heap.size) = False := by simp; omega
    have hnf7_0 : (x7.heap.size = w.heap.size) = False := by simp; omega
    have hne7_1 : (w.heap.size + 1 = x7.heap.size) = False := by simp; omega
    have hnf7_1 : (x7.heap.size = w.heap.size + 1) = False := by simp; omega
    have hne7_2 : (w.heap.size + 1 + 1 = x7.heap.size) = False := by simp; omega
    have hnf7_2 : (x7.heap.size = w.heap.size + 1 + 1) = False := by simp; omega
    have hne7_3 : (w.heap.size + 1 + 1 + 1 = x7.heap.size) = False := by simp; omega
    have hnf7_3 : (x7.heap.size = w.heap.size + 1 + 1 + 1) = False := by simp; omega
    have hne7_4 : (x4.heap.size = x7.heap.size) = False := by simp; omega
    have hnf7_4 : (x7.heap.size = x4.heap.size) = False := by simp; omega
    have hne7_5 : (x5.heap.size = x7.heap.size) = False := by simp; omega
    have hnf7_5 : (x7.heap.size = x5.heap.size) = False := by simp; omega
    have hne7_6 : (x6.heap.size = x7.heap.size) = False := by simp; omega
    have hnf7_6 : (x7.heap.size = x6.heap.size) = False := by simp; omega
    go_wp2_with fail
    refine (law03_examples _).mono ?_
    rintro e8 x8 ⟨rfl, hx⟩
    have hsz := hx.size
    try simp at hsz
    have hz8_0 : w.heap.size < x8.heap.size := by omega
    have c8_0_0 : x8.cell? ⟨w.heap.size, 0, none⟩ = some (Value.int .i64 2) := (hx.cell _ _ (by first | omega | (simp; done) | (simp; omega))).trans (by go_simp)
    have c8_0_1 : x8.cell? ⟨w.heap.size, 1, none⟩ = some (Value.int .i64 b) := (hx.cell _ _ (by first | omega | (simp; done) | (simp; omega))).trans (by go_simp)
    have c8_0_2 : x8.cell? ⟨w.heap.size, 2, none⟩ = some (Value.int .i64 f) := (hx.cell _ _ (by first | omega | (simp; done) | (simp; omega))).trans (by go_simp)
    have c8_0_3 : x8.cell? ⟨w.heap.size, 3, none⟩ = some (Value.int .i64 r) := (hx.cell _ _ (by first | omega | (simp; done) | (simp; omega))).trans (by go_simp)
    have c8_0_4 : x8.cell? ⟨w.heap.size, 4, none⟩ = some (Value.int .i64 o) := (hx.cell _ _ (by first | omega | (simp; done) | (simp; omega))).trans (by go_simp)
    have f8_0 : ∀ o, x8.frozen? ⟨w.heap.size, o, none⟩ = false := fun o => (hx.frozen _ _ (by first | omega | (simp; done) | (simp; omega))).trans (by go_simp)
    have hz8_1 : w.heap.size + 1 < x8.heap.size := by omega
    have c8_1_0 : x8.cell? ⟨w.heap.size + 1, 0, none⟩ = some (Value.int .i64 n1) := (hx.cell _ _ (by first | omega | (simp; done) | (simp; omega))).trans (by go_simp)
    have c8_1_1 : x8.cell? ⟨w.heap.size + 1, 1, none⟩ = some (Value.int .i64 1) := (hx.cell _ _ (by first | omega | (simp; done) | (simp; omega))).trans (by go_simp)
    have f8_1 : ∀ o, x8.frozen? ⟨w.heap.size + 1, o, none⟩ = false := fun o => (hx.frozen _ _ (by first | omega | (simp; done) | (simp; omega))).trans (by go_simp)
    have hz8_2 : w.heap.size + 1 + 1 < x8.heap.size := by omega
    have c8_2_0 : x8.cell? ⟨w.heap.size + 1 + 1, 0, none⟩ = some (Value.int .i64 n2) := (hx.cell _ _ (by first | omega | (simp; done) | (simp; omega))).trans (by go_simp)
    have c8_2_1 : x8.cell? ⟨w.heap.size + 1 + 1, 1, none⟩ = some (Value.int .i64 1) := (hx.cell _ _ (by first | omega | (simp; done) | (simp; omega))).trans (by go_simp)
    have f8_2 : ∀ o, x8.frozen? ⟨w.heap.size + 1 + 1, o, none⟩ = false := fun o => (hx.frozen _ _ (by first | omega | (simp; done) | (simp; omega))).trans (by go_simp)
    have hz8_3 : w.heap.size + 1 + 1 + 1 < x8.heap.size := by omega
    have c8_3_0 : x8.cell? ⟨w.heap.size + 1 + 1 + 1, 0, none⟩ = some (Value.int .i64 n3) := (hx.cell _ _ (by first | omega | (simp; done) | (simp; omega))).trans (by go_simp)
    have c8_3_1 : x8.cell? ⟨w.heap.size + 1 + 1 + 1, 1, none⟩ = some (Value.int .i64 1) := (hx.cell _ _ (by first | omega | (simp; done) | (simp; omega))).trans (by go_simp)
    have f8_3 : ∀ o, x8.frozen? ⟨w.heap.size + 1 + 1 + 1, o, none⟩ = false := fun o => (hx.frozen _ _ (by first | omega | (simp; done) | (simp; omega))).trans (by go_simp)
    have hz8_4 : x4.heap.size < x8.heap.size := by omega
    have c8_4_0 : x8.cell? ⟨x4.heap.size, 0, none⟩ = some (Value.int .i64 ab) := (hx.cell _ _ (by first | omega | (simp; done) | (simp; omega))).trans (by go_simp)
    have c8_4_1 : x8.cell? ⟨x4.heap.size, 1, none⟩ = some (Value.int .i64 1) := (hx.cell _ _ (by first | omega | (simp; done) | (simp; omega))).trans (by go_simp)
    have f8_4 : ∀ o, x8.frozen? ⟨x4.heap.size, o, none⟩ = false := fun o => (hx.frozen _ _ (by first | omega | (simp; done) | (simp; omega))).trans (by go_simp)
    have hz8_5 : x5.heap.size < x8.heap.size := by omega
    have c8_5_0 : x8.cell? ⟨x5.heap.size, 0, none⟩ = some (Value.int .i64 ab) := (hx.cell _ _ (by first | omega | (simp; done) | (simp; omega))).trans (by go_simp)
    have c8_5_1 : x8.cell? ⟨x5.heap.size, 1, none⟩ = some (Value.int .i64 1) := (hx.cell _ _ (by first | omega | (simp; done) | (simp; omega))).trans (by go_simp)
    have f8_5 : ∀ o, x8.frozen? ⟨x5.heap.size, o, none⟩ = false := fun o => (hx.frozen _ _ (by first | omega | (simp; done) | (simp; omega))).trans (by go_simp)
    have hz8_6 : x6.heap.size < x8.heap.size := by omega
    have c8_6_0 : x8.cell? ⟨x6.heap.size, 0, none⟩ = some (Value.int .i64 xy) := (hx.cell _ _ (by first | omega | (simp; done) | (simp; omega))).trans (by go_simp)
    have c8_6_1 : x8.cell? ⟨x6.heap.size, 1, none⟩ = some (Value.int .i64 1) := (hx.cell _ _ (by first | omega | (simp; done) | (simp; omega))).trans (by go_simp)
    have f8_6 : ∀ o, x8.frozen? ⟨x6.heap.size, o, none⟩ = false := fun o => (hx.frozen _ _ (by first | omega | (simp; done) | (simp; omega))).trans (by go_simp)
    have hz8_7 : x7.heap.size < x8.heap.size := by omega
    have c8_7_0 : x8.cell? ⟨x7.heap.size, 0, none⟩ = some (Value.int .i64 xy) := (hx.cell _ _ (by first | omega | (simp; done) | (simp; omega))).trans (by go_simp)
    have c8_7_1 : x8.cell? ⟨x7.heap.size, 1, none⟩ = some (Value.int .i64 1) := (hx.cell _ _ (by first | omega | (simp; done) | (simp; omega))).trans (by go_simp)
    have f8_7 : ∀ o, x8.frozen? ⟨x7.heap.size, o, none⟩ = false := fun o => (hx.frozen _ _ (by first | omega | (simp; done) | (simp; omega))).trans (by go_simp)
    replace HU := Lib.hid (Up.trans (by repeat (first | exact HU.out | refine Up.setCell ?_ (by first | omega | (simp; done) | (simp; omega)) _ | refine Up.alloc ?_ _)) hx : Up w x8)
    clear c7_0_0 c7_0_1 c7_0_2 c7_0_3 c7_0_4 f7_0 c7_1_0 c7_1_1 f7_1 c7_2_0 c7_2_1 f7_2 c7_3_0 c7_3_1 f7_3 c7_4_0 c7_4_1 f7_4 c7_5_0 c7_5_1 f7_5 c7_6_0 c7_6_1 f7_6
    clear hx hsz
    go_wp2
    go_ret
    exact ⟨rfl, (by repeat (first | exact HU.out | refine Up.drewN _ ?_ | refine Up.setCell ?_ (by first | omega | (simp; done) | (simp; omega)) _ | refine Up.alloc ?_ _))⟩
  obtain rfl : o = 2 := by omega
  obtain ⟨lf, hlf⟩ : ∃ x, fitN (ab + n3) b 2 = x := ⟨_, rfl⟩
  obtain ⟨bc, hbc⟩ : ∃ x, fitN (n2 + n3) b 2 = x := ⟨_, rfl⟩
  have hvbc : vV b bc 1 = true := by rw [← hbc]; exact vV_fit _ _ _ s1 s2 HO.out
  have A5 : Hid (chkE 2 b f r 2 [(n1, 1), (bc, 1)] = 0) := Lib.hid (chk _ _ h1 hvbc)
  have B6 := Lib.hid hlf
  have B7 := Lib.hid hbc
  have B8 : Hid (fitN (n1 + bc) b 2 = lf) := Lib.hid (by
    rw [← hlf, ← hab, ← hbc, Int.add_comm n1, fit_fit _ _ _ s1 s2, fit_fit _ _ _ s1 s2]
    congr 1; omega)
  have B9 : Hid (fitN (ab - n2) b 2 = n1) := Lib.hid (by
    have hp := of_decide_eq_true h1
    rw [← hab, Int.sub_eq_add_neg, fit_fit _ _ _ s1 s2, show n1 + n2 + -n2 = n1 by omega]
    exact fit_in s1 s2 HO.out hp.2.1 hp.2.2)
  clear hT hT2 h1 h2 h3 chk hab hdv hq hxy hvab hMo s7 hlf hbc hvbc ho
  go_enter Try.func7, Try.ntmps7
  go_wp2_with fail
  refine (ref03_Valid _ _ _ _ _ n1 1 true H1.out _).mono ?_
  rintro e1 x1 ⟨rfl, hx⟩
  have hsz := hx.size
  try simp at hsz
  have hz1_0 : w.heap.size < x1.heap.size := by omega
  have c1_0_0 : x1.cell? ⟨w.heap.size, 0, none⟩ = some (Value.int .i64 2) := (hx.cell _ _ (by first | omega | (simp; done) | (simp; omega))).trans (by go_simp)
  have c1_0_1 : x1.cell? ⟨w.heap.size, 1, none⟩ = some (Value.int .i64 b) := (hx.cell _ _ (by first | omega | (simp; done) | (simp; omega))).trans (by go_simp)
  have c1_0_2 : x1.cell? ⟨w.heap.size, 2, none⟩ = some (Value.int .i64 f) := (hx.cell _ _ (by first | omega | (simp; done) | (simp; omega))).trans (by go_simp)
  have c1_0_3 : x1.cell? ⟨w.heap.size, 3, none⟩ = some (Value.int .i64 r) := (hx.cell _ _ (by first | omega | (simp; done) | (simp; omega))).trans (by go_simp)
  have c1_0_4 : x1.cell? ⟨w.heap.size, 4, none⟩ = some (Value.int .i64 2) := (hx.cell _ _ (by first | omega | (simp; done) | (simp; omega))).trans (by go_simp)
  have f1_0 : ∀ o, x1.frozen? ⟨w.heap.size, o, none⟩ = false := fun o => (hx.frozen _ _ (by first | omega | (simp; done) | (simp; omega))).trans (by go_simp)
  have hz1_1 : w.heap.size + 1 < x1.heap.size := by omega
  have c1_1_0 : x1.cell? ⟨w.heap.size + 1, 0, none⟩ = some (Value.int .i64 n1) := (hx.cell _ _ (by first | omega | (simp; done) | (simp; omega))).trans (by go_simp)
  have c1_1_1 : x1.cell? ⟨w.heap.size + 1, 1, none⟩ = some (Value.int .i64 1) := (hx.cell _ _ (by first | omega | (simp; done) | (simp; omega))).trans (by go_simp)
  have f1_1 : ∀ o, x1.frozen? ⟨w.heap.size + 1, o, none⟩ = false := fun o => (hx.frozen _ _ (by first | omega | (simp; done) | (simp; omega))).trans (by go_simp)
  have hz1_2 : w.heap.size + 1 + 1 < x1.heap.size := by omega
  have c1_2_0 : x1.cell? ⟨w.heap.size + 1 + 1, 0, none⟩ = some (Value.int .i64 n2) := (hx.cell _ _ (by first | omega | (simp; done) | (simp; omega))).trans (by go_simp)
  have c1_2_1 : x1.cell? ⟨w.heap.size + 1 + 1, 1, none⟩ = some (Value.int .i64 1) := (hx.cell _ _ (by first | omega | (simp; done) | (simp; omega))).trans (by go_simp)
  have f1_2 : ∀ o, x1.frozen? ⟨w.heap.size + 1 + 1, o, none⟩ = false := fun o => (hx.frozen _ _ (by first | omega | (simp; done) | (simp; omega))).trans (by go_simp)
  have hz1_3 : w.heap.size + 1 + 1 + 1 < x1.heap.size := by omega
  have c1_3_0 : x1.cell? ⟨w.heap.size + 1 + 1 + 1, 0, none⟩ = some (Value.int .i64 n3) := (hx.cell _ _ (by first | omega | (simp; done) | (simp; omega))).trans (by go_simp)
  have c1_3_1 : x1.cell? ⟨w.heap.size + 1 + 1 + 1, 1, none⟩ = some (Value.int .i64 1) := (hx.cell _ _ (by first | omega | (simp; done) | (simp; omega))).trans (by go_simp)
  have f1_3 : ∀ o, x1.frozen? ⟨w.heap.size + 1 + 1 + 1, o, none⟩ = false := fun o => (hx.frozen _ _ (by first | omega | (simp; done) | (simp; omega))).trans (by go_simp)
  have HU := Lib.hid (Up.trans (by repeat (first | exact Up.refl _ | refine Up.alloc ?_ _)) hx : Up w x1)
  clear hx hsz
  go_wp2_with fail
  refine (ref03_Valid _ _ _ _ _ n2 1 true H2.out _).mono ?_
  rintro e2 x2 ⟨rfl, hx⟩
  have hsz := hx.size
  try simp at hsz
  have hz2_0 : w.heap.size < x2.heap.size := by omega
  have c2_0_0 : x2.cell? ⟨w.heap.size, 0, none⟩ = some (Value.int .i64 2) := (hx.cell _ _ (by first | omega | (simp; done) | (simp; omega))).trans (by go_simp)
  have c2_0_1 : x2.cell? ⟨w.heap.size, 1, none⟩ = some (Value.int .i64 b) := (hx.cell _ _ (by first | omega | (simp; done) | (simp; omega))).trans (by go_simp)
  have c2_0_2 : x2.cell? ⟨w.heap.size, 2, none⟩ = some (Value.int .i64 f) := (hx.cell _ _ (by first | omega | (simp; done) | (simp; omega))).trans (by go_simp)
  have c2_0_3 : x2.cell? ⟨w.heap.size, 3, none⟩ = some (Value.int .i64 r) := (hx.cell _ _ (by first | omega | (simp; done) | (simp; omega))).trans (by go_simp)
  have c2_0_4 : x2.cell? ⟨w.heap.size, 4, none⟩ = some (Value.int .i64 2) := (hx.cell _ _ (by first | omega | (simp; done) | (simp; omega))).trans (by go_simp)
  have f2_0 : ∀ o, x2.frozen? ⟨w.heap.size, o, none⟩ = false := fun o => (hx.frozen _ _ (by first | omega | (simp; done) | (simp; omega))).trans (by go_simp)
  have hz2_1 : w.heap.size + 1 < x2.heap.size := by omega
  have c2_1_0 : x2.cell? ⟨w.heap.size + 1, 0, none⟩ = some (Value.int .i64 n1) := (hx.cell _ _ (by first | omega | (simp; done) | (simp; omega))).trans (by go_simp)
  have c2_1_1 : x2.cell? ⟨w.heap.size + 1, 1, none⟩ = some (Value.int .i64 1) := (hx.cell _ _ (by first | omega | (simp; done) | (simp; omega))).trans (by go_simp)
  have f2_1 : ∀ o, x2.frozen? ⟨w.heap.size + 1, o, none⟩ = false := fun o => (hx.frozen _ _ (by first | omega | (simp; done) | (simp; omega))).trans (by go_simp)
  have hz2_2 : w.heap.size + 1 + 1 < x2.heap.size := by omega
  have c2_2_0 : x2.cell? ⟨w.heap.size + 1 + 1, 0, none⟩ = some (Value.int .i64 n2) := (hx.cell _ _ (by first | omega | (simp; done) | (simp; omega))).trans (by go_simp)
  have c2_2_1 : x2.cell? ⟨w.heap.size + 1 + 1, 1, none⟩ = some (Value.int .i64 1) := (hx.cell _ _ (by first | omega | (simp; done) | (simp; omega))).trans (by go_simp)
  have f2_2 : ∀ o, x2.frozen? ⟨w.heap.size + 1 + 1, o, none⟩ = false := fun o => (hx.frozen _ _ (by first | omega | (simp; done) | (simp; omega))).trans (by go_simp)
  have hz2_3 : w.heap.size + 1 + 1 + 1 < x2.heap.size := by omega
  have c2_3_0 : x2.cell? ⟨w.heap.size + 1 + 1 + 1, 0, none⟩ = some (Value.int .i64 n3) := (hx.cell _ _ (by first | omega | (simp; done) | (simp; omega))).trans (by go_simp)
  have c2_3_1 : x2.cell? ⟨w.heap.size + 1 + 1 + 1, 1, none⟩ = some (Value.int .i64 1) := (hx.cell _ _ (by first | omega | (simp; done) | (simp; omega))).trans (by go_simp)
  have f2_3 : ∀ o, x2.frozen? ⟨w.heap.size + 1 + 1 + 1, o, none⟩ = false := fun o => (hx.frozen _ _ (by first | omega | (simp; done) | (simp; omega))).trans (by go_simp)
  replace HU := Lib.hid (Up.trans (by repeat (first | exact HU.out | refine Up.setCell ?_ (by first | omega | (simp; done) | (simp; omega)) _ | refine Up.alloc ?_ _)) hx : Up w x2)
  clear c1_0_0 c1_0_1 c1_0_2 c1_0_3 c1_0_4 f1_0 c1_1_0 c1_1_1 f1_1 c1_2_0 c1_2_1 f1_2 c1_3_0 c1_3_1 f1_3
  clear hx hsz
  go_wp2_with fail
  refine (ref03_Valid _ _ _ _ _ n3 1 true H3.out _).mono ?_
  rintro e3 x3 ⟨rfl, hx⟩
  have hsz := hx.size
  try simp at hsz
  have hz3_0 : w.heap.size < x3.heap.size := by omega
  have c3_0_0 : x3.cell? ⟨w.heap.size, 0, none⟩ = some (Value.int .i64 2) := (hx.cell _ _ (by first | omega | (simp; done) | (simp; omega))).trans (by go_simp)
  have c3_0_1 : x3.cell? ⟨w.heap.size, 1, none⟩ = some (Value.int .i64 b) := (hx.cell _ _ (by first | omega | (simp; done) | (simp; omega))).trans (by go_simp)
  have c3_0_2 : x3.cell? ⟨w.heap.size, 2, none⟩ = some (Value.int .i64 f) := (hx.cell _ _ (by first | omega | (simp; done) | (simp; omega))).trans (by go_simp)
  have c3_0_3 : x3.cell? ⟨w.heap.size, 3, none⟩ = some (Value.int .i64 r) := (hx.cell _ _ (by first | omega | (simp; done) | (simp; omega))).trans (by go_simp)
  have c3_0_4 : x3.cell? ⟨w.heap.size, 4, none⟩ = some (Value.int .i64 2) := (hx.cell _ _ (by first | omega | (simp; done) | (simp; omega))).trans (by go_simp)
  have f3_0 : ∀ o, x3.frozen? ⟨w.heap.size, o, none⟩ = false := fun o => (hx.frozen _ _ (by first | omega | (simp; done) | (simp; omega))).trans (by go_simp)
  have hz3_1 : w.heap.size + 1 < x3.heap.size := by omega
  have c3_1_0 : x3.cell? ⟨w.heap.size + 1, 0, none⟩ = some (Value.int .i64 n1) := (hx.cell _ _ (by first | omega | (simp; done) | (simp; omega))).trans (by go_simp)
  have c3_1_1 : x3.cell? ⟨w.heap.size + 1, 1, none⟩ = some (Value.int .i64 1) := (hx.cell _ _ (by first | omega | (simp; done) | (simp; omega))).trans (by go_simp)
  have f3_1 : ∀ o, x3.frozen? ⟨w.heap.size + 1, o, none⟩ = false := fun o => (hx.frozen _ _ (by first | omega | (simp; done) | (simp; omega))).trans (by go_simp)
  have hz3_2 : w.heap.size + 1 + 1 < x3.heap.size := by omega
  have c3_2_0 : x3.cell? ⟨w.heap.size + 1 + 1, 0, none⟩ = some (Value.int .i64 n2) := (hx.cell _ _ (by first | omega | (simp; done) | (simp; omega))).trans (by go_simp)
  have c3_2_1 : x3.cell? ⟨w.heap.size + 1 + 1, 1, none⟩ = some (Value.int .i64 1) := (hx.cell _ _ (by first | omega | (simp; done) | (simp; omega))).trans (by go_simp)
  have f3_2 : ∀ o, x3.frozen? ⟨w.heap.size + 1 + 1, o, none⟩ = false := fun o => (hx.frozen _ _ (by first | omega | (simp; done) | (simp; omega))).trans (by go_simp)
  have hz3_3 : w.heap.size + 1 + 1 + 1 < x3.heap.size := by omega
  have c3_3_0 : x3.cell? ⟨w.heap.size + 1 + 1 + 1, 0, none⟩ = some (Value.int .i64 n3) := (hx.cell _ _ (by first | omega | (simp; done) | (simp; omega))).trans (by go_simp)
  have c3_3_1 : x3.cell? ⟨w.heap.size + 1 + 1 + 1, 1, none⟩ = some (Value.int .i64 1) := (hx.cell _ _ (by first | omega | (simp; done) | (simp; omega))).trans (by go_simp)
  have f3_3 : ∀ o, x3.frozen? ⟨w.heap.size + 1 + 1 + 1, o, none⟩ = false := fun o => (hx.frozen _ _ (by first | omega | (simp; done) | (simp; omega))).trans (by go_simp)
  replace HU := Lib.hid (Up.trans (by repeat (first | exact HU.out | refine Up.setCell ?_ (by first | omega | (simp; done) | (simp; omega)) _ | refine Up.alloc ?_ _)) hx : Up w x3)
  clear c2_0_0 c2_0_1 c2_0_2 c2_0_3 c2_0_4 f2_0 c2_1_0 c2_1_1 f2_1 c2_2_0 c2_2_1 f2_2 c2_3_0 c2_3_1 f2_3
  clear hx hsz
  go_wp2_with fail
  refine (add_ok _ _ _ _ _ _ _ _ _ _ A1.out B1.out _).mono ?_
  rintro e4 x4 ⟨rfl, hx⟩
  have hsz := hx.size
  try simp at hsz
  have hz4_0 : w.heap.size < x4.heap.size := by omega
  have c4_0_0 : x4.cell? ⟨w.heap.size, 0, none⟩ = some (Value.int .i64 2) := (hx.cell _ _ (by first | omega | (simp; done) | (simp; omega))).trans (by go_simp)
  have c4_0_1 : x4.cell? ⟨w.heap.size, 1, none⟩ = some (Value.int .i64 b) := (hx.cell _ _ (by first | omega | (simp; done) | (simp; omega))).trans (by go_simp)
  have c4_0_2 : x4.cell? ⟨w.heap.size, 2, none⟩ = some (Value.int .i64 f) := (hx.cell _ _ (by first | omega | (simp; done) | (simp; omega))).trans (by go_simp)
  have c4_0_3 : x4.cell? ⟨w.heap.size, 3, none⟩ = some (Value.int .i64 r) := (hx.cell _ _ (by first | omega | (simp; done) | (simp; omega))).trans (by go_simp)
  have c4_0_4 : x4.cell? ⟨w.heap.size, 4, none⟩ = some (Value.int .i64 2) := (hx.cell _ _ (by first | omega | (simp; done) | (simp; omega))).trans (by go_simp)
  have f4_0 : ∀ o, x4.frozen? ⟨w.heap.size, o, none⟩ = false := fun o => (hx.frozen _ _ (by first | omega | (simp; done) | (simp; omega))).trans (by go_simp)
  have hz4_1 : w.heap.size + 1 < x4.heap.size := by omega
  have c4_1_0 : x4.cell? ⟨w.heap.size + 1, 0, none⟩ = some (Value.int .i64 n1) := (hx.cell _ _ (by first | omega | (simp; done) | (simp; omega))).trans (by go_simp)
  have c4_1_1 : x4.cell? ⟨w.heap.size + 1, 1, none⟩ = some (Value.int .i64 1) := (hx.cell _ _ (by first | omega | (simp; done) | (simp; omega))).trans (by go_simp)
  have f4_1 : ∀ o, x4.frozen? ⟨w.heap.size + 1, o, none⟩ = false := fun o => (hx.frozen _ _ (by first | omega | (simp; done) | (simp; omega))).trans (by go_simp)
  have hz4_2 : w.heap.size + 1 + 1 < x4.heap.size := by omega
  have c4_2_0 : x4.cell? ⟨w.heap.size + 1 + 1, 0, none⟩ = some (Value.int .i64 n2) := (hx.cell _ _ (by first | omega | (simp; done) | (simp; omega))).trans (by go_simp)
  have c4_2_1 : x4.cell? ⟨w.heap.size + 1 + 1, 1, none⟩ = some (Value.int .i64 1) := (hx.cell _ _ (by first | omega | (simp; done) | (simp; omega))).trans (by go_simp)
  have f4_2 : ∀ o, x4.frozen? ⟨w.heap.size + 1 + 1, o, none⟩ = false := fun o => (hx.frozen _ _ (by first | omega | (simp; done) | (simp; omega))).trans (by go_simp)
  have hz4_3 : w.heap.size + 1 + 1 + 1 < x4.heap.size := by omega
  have c4_3_0 : x4.cell? ⟨w.heap.size + 1 + 1 + 1, 0, none⟩ = some (Value.int .i64 n3) := (hx.cell _ _ (by first | omega | (simp; done) | (simp; omega))).trans (by go_simp)
  have c4_3_1 : x4.cell? ⟨w.heap.size + 1 + 1 + 1, 1, none⟩ = some (Value.int .i64 1) := (hx.cell _ _ (by first | omega | (simp; done) | (simp; omega))).trans (by go_simp)
  have f4_3 : ∀ o, x4.frozen? ⟨w.heap.size + 1 + 1 + 1, o, none⟩ = false := fun o => (hx.frozen _ _ (by first | omega | (simp; done) | (simp; omega))).trans (by go_simp)
  replace HU := Lib.hid (Up.trans (by repeat (first | exact HU.out | refine Up.setCell ?_ (by first | omega | (simp; done) | (simp; omega)) _ | refine Up.alloc ?_ _)) hx : Up w x4)
  clear c3_0_0 c3_0_1 c3_0_2 c3_0_3 c3_0_4 f3_0 c3_1_0 c3_1_1 f3_1 c3_2_0 c3_2_1 f3_2 c3_3_0 c3_3_1 f3_3
  clear hx hsz
  have hne4_0 : (w.heap.size = x4.heap.size) = False := by simp; omega
  have hnf4_0 : (x4.heap.size = w.heap.size) = False := by simp; omega
  have hne4_1 : (w.heap.size + 1 = x4.heap.size) = False := by simp; omega
  have hnf4_1 : (x4.heap.size = w.heap.size + 1) = False := by simp; omega
  have hne4_2 : (w.heap.size + 1 + 1 = x4.heap.size) = False := by simp; omega
  have hnf4_2 : (x4.heap.size = w.heap.size + 1 + 1) = False := by simp; omega
  have hne4_3 : (w.heap.size + 1 + 1 + 1 = x4.heap.size) = False := by simp; omega
  have hnf4_3 : (x4.heap.size = w.heap.size + 1 + 1 + 1) = False := by simp; omega
  go_wp2_with fail
  refine (add_ok _ _ _ _ _ _ _ _ _ _ A2.out B2.out _).mono ?_
  rintro e5 x5 ⟨rfl, hx⟩
  have hsz := hx.size
  try simp at hsz
  have hz5_0 : w.heap.size < x5.heap.size := by omega
  have c5_0_0 : x5.cell? ⟨w.heap.size, 0, none⟩ = some (Value.int .i64 2) := (hx.cell _ _ (by first | omega | (simp; done) | (simp; omega))).trans (by go_simp)
  have c5_0_1 : x5.cell? ⟨w.heap.size, 1, none⟩ = some (Value.int .i64 b) := (hx.cell _ _ (by first | omega | (simp; done) | (simp; omega))).trans (by go_simp)
  have c5_0_2 : x5.cell? ⟨w.heap.size, 2, none⟩ = some (Value.int .i64 f) := (hx.cell _ _ (by first | omega | (simp; done) | (simp; omega))).trans (by go_simp)
  have c5_0_3 : x5.cell? ⟨w.heap.size, 3, none⟩ = some (Value.int .i64 r) := (hx.cell _ _ (by first | omega | (simp; done) | (simp; omega))).trans (by go_simp)
  have c5_0_4 : x5.cell? ⟨w.heap.size, 4, none⟩ = some (Value.int .i64 2) := (hx.cell _ _ (by first | omega | (simp; done) | (simp; omega))).trans (by go_simp)
  have f5_0 : ∀ o, x5.frozen? ⟨w.heap.size, o, none⟩ = false := fun o => (hx.frozen _ _ (by first | omega | (simp; done) | (simp; omega))).trans (by go_simp)
  have hz5_1 : w.heap.size + 1 < x5.heap.size := by omega
  have c5_1_0 : x5.cell? ⟨w.heap.size + 1, 0, none⟩ = some (Value.int .i64 n1) := (hx.cell _ _ (by first | omega | (simp; done) | (simp; omega))).trans (by go_simp)
  have c5_1_1 : x5.cell? ⟨w.heap.size + 1, 1, none⟩ = some (Value.int .i64 1) := (hx.cell _ _ (by first | omega | (simp; done) | (simp; omega))).trans (by go_simp)
  have f5_1 : ∀ o, x5.frozen? ⟨w.heap.size + 1, o, none⟩ = false := fun o => (hx.frozen _ _ (by first | omega | (simp; done) | (simp; omega))).trans (by go_simp)
  have hz5_2 : w.heap.size + 1 + 1 < x5.heap.size := by omega
  have c5_2_0 : x5.cell? ⟨w.heap.size + 1 + 1, 0, none⟩ = some (Value.int .i64 n2) := (hx.cell _ _ (by first | omega | (simp; done) | (simp; omega))).trans (by go_simp)
  have c5_2_1 : x5.cell? ⟨w.heap.size + 1 + 1, 1, none⟩ = some (Value.int .i64 1) := (hx.cell _ _ (by first | omega | (simp; done) | (simp; omega))).trans (by go_simp)
  have f5_2 : ∀ o, x5.frozen? ⟨w.heap.size + 1 + 1, o, none⟩ = false := fun o => (hx.frozen _ _ (by first | omega | (simp; done) | (simp; omega))).trans (by go_simp)
  have hz5_3 : w.heap.size + 1 + 1 + 1 < x5.heap.size := by omega
  have c5_3_0 : x5.cell? ⟨w.heap.size + 1 + 1 + 1, 0, none⟩ = some (Value.int .i64 n3) := (hx.cell _ _ (by first | omega | (simp; done) | (simp; omega))).trans (by go_simp)
  have c5_3_1 : x5.cell? ⟨w.heap.size + 1 + 1 + 1, 1, none⟩ = some (Value.int .i64 1) := (hx.cell _ _ (by first | omega | (simp; done) | (simp; omega))).trans (by go_simp)
  have f5_3 : ∀ o, x5.frozen? ⟨w.heap.size + 1 + 1 + 1, o, none⟩ = false := fun o => (hx.frozen _ _ (by first | omega | (simp; done) | (simp; omega))).trans (by go_simp)
  have hz5_4 : x4.heap.size < x5.heap.size := by omega
  have c5_4_0 : x5.cell? ⟨x4.heap.size, 0, none⟩ = some (Value.int .i64 ab) := (hx.cell _ _ (by first | omega | (simp; done) | (simp; omega))).trans (by go_simp)
  have c5_4_1 : x5.cell? ⟨x4.heap.size, 1, none⟩ = some (Value.int .i64 1) := (hx.cell _ _ (by first | omega | (simp; done) | (simp; omega))).trans (by go_simp)
  have f5_4 : ∀ o, x5.frozen? ⟨x4.heap.size, o, none⟩ = false := fun o => (hx.frozen _ _ (by first | omega | (simp; done) | (simp; omega))).trans (by go_simp)
  replace HU := Lib.hid (Up.trans (by repeat (first | exact HU.out | refine Up.setCell ?_ (by first | omega | (simp; done) | (simp; omega)) _ | refine Up.alloc ?_ _)) hx : Up w x5)
  clear c4_0_0 c4_0_1 c4_0_2 c4_0_3 c4_0_4 f4_0 c4_1_0 c4_1_1 f4_1 c4_2_0 c4_2_1 f4_2 c4_3_0 c4_3_1 f4_3
  clear hx hsz
  have hne5_0 : (w.heap.size = x5.heap.size) = False := by simp; omega
  have hnf5_0 : (x5.heap.size = w.heap.size) = False := by simp; omega
  have hne5_1 : (w.heap.size + 1 = x5.heap.size) = False := by simp; omega
  have hnf5_1 : (x5.heap.size = w.heap.size + 1) = False := by simp; omega
  have hne5_2 : (w.heap.size + 1 + 1 = x5.heap.size) = False := by simp; omega
  have hnf5_2 : (x5.heap.size = w.heap.size + 1 + 1) = False := by simp; omega
  have hne5_3 : (w.heap.size + 1 + 1 + 1 = x5.heap.size) = False := by simp; omega
  have hnf5_3 : (x5.heap.size = w.heap.size + 1 + 1 + 1) = False := by simp; omega
  have hne5_4 : (x4.heap.size = x5.heap.size) = False := by simp; omega
  have hnf5_4 : (x5.heap.size = x4.heap.size) = False := by simp; omega
  go_wp2_with fail
  refine (mul_ok _ _ _ _ _ _ _ _ _ _ _ A1.out B3.out B5.out _).mono ?_
  rintro e6 x6 ⟨rfl, hx⟩
  have hsz := hx.size
  try simp at hsz
  have hz6_0 : w.heap.size < x6.heap.size := by omega
  have c6_0_0 : x6.cell? ⟨w.heap.size, 0, none⟩ = some (Value.int .i64 2) := (hx.cell _ _ (by first | omega | (simp; done) | (simp; omega))).trans (by go_simp)
  have c6_0_1 : x6.cell? ⟨w.heap.size, 1, none⟩ = some (Value.int .i64 b) := (hx.cell _ _ (by first | omega | (simp; done) | (simp; omega))).trans (by go_simp)
  have c6_0_2 : x6.cell? ⟨w.heap.size, 2, none⟩ = some (Value.int .i64 f) := (hx.cell _ _ (by first | omega | (simp; done) | (simp; omega))).trans (by go_simp)
  have c6_0_3 : x6.cell? ⟨w.heap.size, 3, none⟩ = some (Value.int .i64 r) := (hx.cell _ _ (by first | omega | (simp; done) | (simp; omega))).trans (by go_simp)
  have c6_0_4 : x6.cell? ⟨w.heap.size, 4, none⟩ = some (Value.int .i64 2) := (hx.cell _ _ (by first | omega | (simp; done) | (simp; omega))).trans (by go_simp)
  have f6_0 : ∀ o, x6.frozen? ⟨w.heap.size, o, none⟩ = false := fun o => (hx.frozen _ _ (by first | omega | (simp; done) | (simp; omega))).trans (by go_simp)
  have hz6_1 : w.heap.size + 1 < x6.heap.size := by omega
  have c6_1_0 : x6.cell? ⟨w.heap.size + 1, 0, none⟩ = some (Value.int .i64 n1) := (hx.cell _ _ (by first | omega | (simp; done) | (simp; omega))).trans (by go_simp)
  have c6_1_1 : x6.cell? ⟨w.heap.size + 1, 1, none⟩ = some (Value.int .i64 1) := (hx.cell _ _ (by first | omega | (simp; done) | (simp; omega))).trans (by go_simp)
  have f6_1 : ∀ o, x6.frozen? ⟨w.heap.size + 1, o, none⟩ = false := fun o => (hx.frozen _ _ (by first | omega | (simp; done) | (simp; omega))).trans (by go_simp)
  have hz6_2 : w.heap.size + 1 + 1 < x6.heap.size := by omega
  have c6_2_0 : x6.cell? ⟨w.heap.size + 1 + 1, 0, none⟩ = some (Value.int .i64 n2) := (hx.cell _ _ (by first | omega | (simp; done) | (simp; omega))).trans (by go_simp)
  have c6_2_1 : x6.cell? ⟨w.heap.size + 1 + 1, 1, none⟩ = some (Value.int .i64 1) := (hx.cell _ _ (by first | omega | (simp; done) | (simp; omega))).trans (by go_simp)
  have f6_2 : ∀ o, x6.frozen? ⟨w.heap.size + 1 + 1, o, none⟩ = false := fun o => (hx.frozen _ _ (by first | omega | (simp; done) | (simp; omega))).trans (by go_simp)
  have hz6_3 : w.heap.size + 1 + 1 + 1 < x6.heap.size := by omega
  have c6_3_0 : x6.cell? ⟨w.heap.size + 1 + 1 + 1, 0, none⟩ = some (Value.int .i64 n3) := (hx.cell _ _ (by first | omega | (simp; done) | (simp; omega))).trans (by go_simp)
  have c6_3_1 : x6.cell? ⟨w.heap.size + 1 + 1 + 1, 1, none⟩ = some (Value.int .i64 1) := (hx.cell _ _ (by first | omega | (simp; done) | (simp; omega))).trans (by go_simp)
  have f6_3 : ∀ o, x6.frozen? ⟨w.heap.size + 1 + 1 + 1, o, none⟩ = false := fun o => (hx.frozen _ _ (by first | omega | (simp; done) | (simp; omega))).trans (by go_simp)
  have hz6_4 : x4.heap.size < x6.heap.size := by omega
  have c6_4_0 : x6.cell? ⟨x4.heap.size, 0, none⟩ = some (Value.int .i64 ab) := (hx.cell _ _ (by first | omega | (simp; done) | (simp; omega))).trans (by go_simp)
  have c6_4_1 : x6.cell? ⟨x4.heap.size, 1, none⟩ = some (Value.int .i64 1) := (hx.cell _ _ (by first | omega | (simp; done) | (simp; omega))).trans (by go_simp)
  have f6_4 : ∀ o, x6.frozen? ⟨x4.heap.size, o, none⟩ = false := fun o => (hx.frozen _ _ (by first | omega | (simp; done) | (simp; omega))).trans (by go_simp)
  have hz6_5 : x5.heap.size < x6.heap.size := by omega
  have c6_5_0 : x6.cell? ⟨x5.heap.size, 0, none⟩ = some (Value.int .i64 ab) := (hx.cell _ _ (by first | omega | (simp; done) | (simp; omega))).trans (by go_simp)
  have c6_5_1 : x6.cell? ⟨x5.heap.size, 1, none⟩ = some (Value.int .i64 1) := (hx.cell _ _ (by first | omega | (simp; done) | (simp; omega))).trans (by go_simp)
  have f6_5 : ∀ o, x6.frozen? ⟨x5.heap.size, o, none⟩ = false := fun o => (hx.frozen _ _ (by first | omega | (simp; done) | (simp; omega))).trans (by go_simp)
  replace HU := Lib.hid (Up.trans (by repeat (first | exact HU.out | refine Up.setCell ?_ (by first | omega | (simp; done) | (simp; omega)) _ | refine Up.alloc ?_ _)) hx : Up w x6)
  clear c5_0_0 c5_0_1 c5_0_2 c5_0_3 c5_0_4 f5_0 c5_1_0 c5_1_1 f5_1 c5_2_0 c5_2_1 f5_2 c5_3_0 c5_3_1 f5_3 c5_4_0 c5_4_1 f5_4
  clear hx hsz
  have hne6_0 : (w.heap.size = x6.heap.size) = False := by simp; omega
  have hnf6_0 : (x6.heap.size = w.heap.size) = False := by simp; omega
  have hne6_1 : (w.heap.size + 1 = x6.heap.size) = False := by simp; omega
  have hnf6_1 : (x6.heap.size = w.heap.size + 1) = False := by simp; omega
  have hne6_2 : (w.heap.size + 1 + 1 = x6.heap.size) = False := by simp; omega
  have hnf6_2 : (x6.heap.size = w.heap.size + 1 + 1) = False := by simp; omega
  have hne6_3 : (w.heap.size + 1 + 1 + 1 = x6.heap.size) = False := by simp; omega
  have hnf6_3 : (x6.heap.size = w.heap.size + 1 + 1 + 1) = False := by simp; omega
  have hne6_4 : (x4.heap.size = x6.heap.size) = False := by simp; omega
  have hnf6_4 : (x6.heap.size = x4.heap.size) = False := by simp; omega
  have hne6_5 : (x5.heap.size = x6.heap.size) = False := by simp; omega
  have hnf6_5 : (x6.heap.size = x5.heap.size) = False := by simp; omega
  go_wp2_with fail
  refine (mul_ok _ _ _ _ _ _ _ _ _ _ _ A2.out B4.out B5.out _).mono ?_
  rintro e7 x7 ⟨rfl, hx⟩
  have hsz := hx.size
  try simp at hsz
  have hz7_0 : w.heap.size < x7.heap.size := by omega
  have c7_0_0 : x7.cell? ⟨w.heap.size, 0, none⟩ = some (Value.int .i64 2) := (hx.cell _ _ (by first | omega | (simp; done) | (simp; omega))).trans (by go_simp)
  have c7_0_1 : x7.cell? ⟨w.heap.size, 1, none⟩ = some (Value.int .i64 b) := (hx.cell _ _ (by first | omega | (simp; done) | (simp; omega))).trans (by go_simp)
  have c7_0_2 : x7.cell? ⟨w.heap.size, 2, none⟩ = some (Value.int .i64 f) := (hx.cell _ _ (by first | omega | (simp; done) | (simp; omega))).trans (by go_simp)
  have c7_0_3 : x7.cell? ⟨w.heap.size, 3, none⟩ = some (Value.int .i64 r) := (hx.cell _ _ (by first | omega | (simp; done) | (simp; omega))).trans (by go_simp)
  have c7_0_4 : x7.cell? ⟨w.heap.size, 4, none⟩ = some (Value.int .i64 2) := (hx.cell _ _ (by first | omega | (simp; done) | (simp; omega))).trans (by go_simp)
  have f7_0 : ∀ o, x7.frozen? ⟨w.heap.size, o, none⟩ = false := fun o => (hx.frozen _ _ (by first | omega | (simp; done) | (simp; omega))).trans (by go_simp)
  have hz7_1 : w.heap.size + 1 < x7.heap.size := by omega
  have c7_1_0 : x7.cell? ⟨w.heap.size + 1, 0, none⟩ = some (Value.int .i64 n1) := (hx.cell _ _ (by first | omega | (simp; done) | (simp; omega))).trans (by go_simp)
  have c7_1_1 : x7.cell? ⟨w.heap.size + 1, 1, none⟩ = some (Value.int .i64 1) := (hx.cell _ _ (by first | omega | (simp; done) | (simp; omega))).trans (by go_simp)
  have f7_1 : ∀ o, x7.frozen? ⟨w.heap.size + 1, o, none⟩ = false := fun o => (hx.frozen _ _ (by first | omega | (simp; done) | (simp; omega))).trans (by go_simp)
  have hz7_2 : w.heap.size + 1 + 1 < x7.heap.size := by omega
  have c7_2_0 : x7.cell? ⟨w.heap.size + 1 + 1, 0, none⟩ = some (Value.int .i64 n2) := (hx.cell _ _ (by first | omega | (simp; done) | (simp; omega))).trans (by go_simp)
  have c7_2_1 : x7.cell? ⟨w.heap.size + 1 + 1, 1, none⟩ = some (Value.int .i64 1) := (hx.cell _ _ (by first | omega | (simp; done) | (simp; omega))).trans (by go_simp)
  have f7_2 : ∀ o, x7.frozen? ⟨w.heap.size + 1 + 1, o, none⟩ = false := fun o => (hx.frozen _ _ (by first | omega | (simp; done) | (simp; omega))).trans (by go_simp)
  have hz7_3 : w.heap.size + 1 + 1 + 1 < x7.heap.size := by omega
  have c7_3_0 : x7.cell? ⟨w.heap.size + 1 + 1 + 1, 0, none⟩ = some (Value.int .i64 n3) := (hx.cell _ _ (by first | omega | (simp; done) | (simp; omega))).trans (by go_simp)
  have c7_3_1 : x7.cell? ⟨w.heap.size + 1 + 1 + 1, 1, none⟩ = some (Value.int .i64 1) := (hx.cell _ _ (by first | omega | (simp; done) | (simp; omega))).trans (by go_simp)
  have f7_3 : ∀ o, x7.frozen? ⟨w.heap.size + 1 + 1 + 1, o, none⟩ = false := fun o => (hx.frozen _ _ (by first | omega | (simp; done) | (simp; omega))).trans (by go_simp)
  have hz7_4 : x4.heap.size < x7.heap.size := by omega
  have c7_4_0 : x7.cell? ⟨x4.heap.size, 0, none⟩ = some (Value.int .i64 ab) := (hx.cell _ _ (by first | omega | (simp; done) | (simp; omega))).trans (by go_simp)
  have c7_4_1 : x7.cell? ⟨x4.heap.size, 1, none⟩ = some (Value.int .i64 1) := (hx.cell _ _ (by first | omega | (simp; done) | (simp; omega))).trans (by go_simp)
  have f7_4 : ∀ o, x7.frozen? ⟨x4.heap.size, o, none⟩ = false := fun o => (hx.frozen _ _ (by first | omega | (simp; done) | (simp; omega))).trans (by go_simp)
  have hz7_5 : x5.heap.size < x7.heap.size := by omega
  have c7_5_0 : x7.cell? ⟨x5.heap.size, 0, none⟩ = some (Value.int .i64 ab) := (hx.cell _ _ (by first | omega | (simp; done) | (simp; omega))).trans (by go_simp)
  have c7_5_1 : x7.cell? ⟨x5.heap.size, 1, none⟩ = some (Value.int .i64 1) := (hx.cell _ _ (by first | omega | (simp; done) | (simp; omega))).trans (by go_simp)
  have f7_5 : ∀ o, x7.frozen? ⟨x5.heap.size, o, none⟩ = false := fun o => (hx.frozen _ _ (by first | omega | (simp; done) | (simp; omega))).trans (by go_simp)
  have hz7_6 : x6.heap.size < x7.heap.size := by omega
  have c7_6_0 : x7.cell? ⟨x6.heap.size, 0, none⟩ = some (Value.int .i64 xy) := (hx.cell _ _ (by first | omega | (simp; done) | (simp; omega))).trans (by go_simp)
  have c7_6_1 : x7.cell? ⟨x6.heap.size, 1, none⟩ = some (Value.int .i64 1) := (hx.cell _ _ (by first | omega | (simp; done) | (simp; omega))).trans (by go_simp)
  have f7_6 : ∀ o, x7.frozen? ⟨x6.heap.size, o, none⟩ = false := fun o => (hx.frozen _ _ (by first | omega | (simp; done) | (simp; omega))).trans (by go_simp)
  replace HU := Lib.hid (Up.trans (by repeat (first | exact HU.out | refine Up.setCell ?_ (by first | omega | (simp; done) | (simp; omega)) _ | refine Up.alloc ?_ _)) hx : Up w x7)
  clear c6_0_0 c6_0_1 c6_0_2 c6_0_3 c6_0_4 f6_0 c6_1_0 c6_1_1 f6_1 c6_2_0 c6_2_1 f6_2 c6_3_0 c6_3_1 f6_3 c6_4_0 c6_4_1 f6_4 c6_5_0 c6_5_1 f6_5
  clear hx hsz
  have hne7_0 : (w.heap.size = x7.heap.size) = False := by simp; omega
  have hnf7_0 : (x7.heap.size = w.heap.size) = False := by simp; omega
  have hne7_1 : (w.heap.size + 1 = x7.heap.size) = False := by simp; omega
  have hnf7_1 : (x7.heap.size = w.heap.size + 1) = False := by simp; omega
  have hne7_2 : (w.heap.size + 1 + 1 = x7.heap.size) = False := by simp; omega
  have hnf7_2 : (x7.heap.size = w.heap.size + 1 + 1) = False := by simp; omega
  have hne7_3 : (w.heap.size + 1 + 1 + 1 = x7.heap.size) = False := by simp; omega
  have hnf7_3 : (x7.heap.size = w.heap.size + 1 + 1 + 1) = False := by simp; omega
  have hne7_4 : (x4.heap.size = x7.heap.size) = False := by simp; omega
  have hnf7_4 : (x7.heap.size = x4.heap.size) = False := by simp; omega
  have hne7_5 : (x5.heap.size = x7.heap.size) = False := by simp; omega
  have hnf7_5 : (x7.heap.size = x5.heap.size) = False := by simp; omega
  have hne7_6 : (x6.heap.size = x7.heap.size) = False := by simp; omega
  have hnf7_6 : (x7.heap.size = x6.heap.size) = False := by simp; omega
  go_wp2_with fail
  refine (add_ok _ _ _ _ _ _ _ _ _ _ A3.out B6.out _).mono ?_
  rintro e8 x8 ⟨rfl, hx⟩
  have hsz := hx.size
  try simp at hsz
  have hz8_0 : w.heap.size < x8.heap.size := by omega
  have c8_0_0 : x8.cell? ⟨w.heap.size, 0, none⟩ = some (Value.int .i64 2) := (hx.cell _ _ (by first | omega | (simp; done) | (simp; omega))).trans (by go_simp)
  have c8_0_1 : x8.cell? ⟨w.heap.size, 1, none⟩ = some (Value.int .i64 b) := (hx.cell _ _ (by first | omega | (simp; done) | (simp; omega))).trans (by go_simp)
  have c8_0_2 : x8.cell? ⟨w.heap.size, 2, none⟩ = some (Value.int .i64 f) := (hx.cell _ _ (by first | omega | (simp; done) | (simp; omega))).trans (by go_simp)
  have c8_0_3 : x8.cell? ⟨w.heap.size, 3, none⟩ = some (Value.int .i64 r) := (hx.cell _ _ (by first | omega | (simp; done) | (simp; omega))).trans (by go_simp)
  have c8_0_4 : x8.cell? ⟨w.heap.size, 4, none⟩ = some (Value.int .i64 2) := (hx.cell _ _ (by first | omega | (simp; done) | (simp; omega))).trans (by go_simp)
  have f8_0 : ∀ o, x8.frozen? ⟨w.heap.size, o, none⟩ = false := fun o => (hx.frozen _ _ (by first | omega | (simp; done) | (simp; omega))).trans (by go_simp)
  have hz8_1 : w.heap.size + 1 < x8.heap.size := by omega
  have c8_1_0 : x8.cell? ⟨w.heap.size + 1, 0, none⟩ = some (Value.int .i64 n1) := (hx.cell _ _ (by first | omega | (simp; done) | (simp; omega))).trans (by go_simp)
  have c8_1_1 : x8.cell? ⟨w.heap.size + 1, 1, none⟩ = some (Value.int .i64 1) := (hx.cell _ _ (by first | omega | (simp; done) | (simp; omega))).trans (by go_simp)
  have f8_1 : ∀ o, x8.frozen? ⟨w.heap.size + 1, o, none⟩ = false := fun o => (hx.frozen _ _ (by first | omega | (simp; done) | (simp; omega))).trans (by go_simp)
  have hz8_2 : w.heap.size + 1 + 1 < x8.heap.size := by omega
  have c8_2_0 : x8.cell? ⟨w.heap.size + 1 + 1, 0, none⟩ = some (Value.int .i64 n2) := (hx.cell _ _ (by first | omega | (simp; done) | (simp; omega))).trans (by go_simp)
  have c8_2_1 : x8.cell? ⟨w.heap.size + 1 + 1, 1, none⟩ = some (Value.int .i64 1) := (hx.cell _ _ (by first | omega | (simp; done) | (simp; omega))).trans (by go_simp)
  have f8_2 : ∀ o, x8.frozen? ⟨w.heap.size + 1 + 1, o, none⟩ = false := fun o => (hx.frozen _ _ (by first | omega | (simp; done) | (simp; omega))).trans (by go_simp)
  have hz8_3 : w.heap.size + 1 + 1 + 1 < x8.heap.size := by omega
  have c8_3_0 : x8.cell? ⟨w.heap.size + 1 + 1 + 1, 0, none⟩ = some (Value.int .i64 n3) := (hx.cell _ _ (by first | omega | (simp; done) | (simp; omega))).trans (by go_simp)
  have c8_3_1 : x8.cell? ⟨w.heap.size + 1 + 1 + 1, 1, none⟩ = some (Value.int .i64 1) := (hx.cell _ _ (by first | omega | (simp; done) | (simp; omega))).trans (by go_simp)
  have f8_3 : ∀ o, x8.frozen? ⟨w.heap.size + 1 + 1 + 1, o, none⟩ = false := fun o => (hx.frozen _ _ (by first | omega | (simp; done) | (simp; omega))).trans (by go_simp)
  have hz8_4 : x4.heap.size < x8.heap.size := by omega
  have c8_4_0 : x8.cell? ⟨x4.heap.size, 0, none⟩ = some (Value.int .i64 ab) := (hx.cell _ _ (by first | omega | (simp; done) | (simp; omega))).trans (by go_simp)
  have c8_4_1 : x8.cell? ⟨x4.heap.size, 1, none⟩ = some (Value.int .i64 1) := (hx.cell _ _ (by first | omega | (simp; done) | (simp; omega))).trans (by go_simp)
  have f8_4 : ∀ o, x8.frozen? ⟨x4.heap.size, o, none⟩ = false := fun o => (hx.frozen _ _ (by first | omega | (simp; done) | (simp; omega))).trans (by go_simp)
  have hz8_5 : x5.heap.size < x8.heap.size := by omega
  have c8_5_0 : x8.cell? ⟨x5.heap.size, 0, none⟩ = some (Value.int .i64 ab) := (hx.cell _ _ (by first | omega | (simp; done) | (simp; omega))).trans (by go_simp)
  have c8_5_1 : x8.cell? ⟨x5.heap.size, 1, none⟩ = some (Value.int .i64 1) := (hx.cell _ _ (by first | omega | (simp; done) | (simp; omega))).trans (by go_simp)
  have f8_5 : ∀ o, x8.frozen? ⟨x5.heap.size, o, none⟩ = false := fun o => (hx.frozen _ _ (by first | omega | (simp; done) | (simp; omega))).trans (by go_simp)
  have hz8_6 : x6.heap.size < x8.heap.size := by omega
  have c8_6_0 : x8.cell? ⟨x6.heap.size, 0, none⟩ = some (Value.int .i64 xy) := (hx.cell _ _ (by first | omega | (simp; done) | (simp; omega))).trans (by go_simp)
  have c8_6_1 : x8.cell? ⟨x6.heap.size, 1, none⟩ = some (Value.int .i64 1) := (hx.cell _ _ (by first | omega | (simp; done) | (simp; omega))).trans (by go_simp)
  have f8_6 : ∀ o, x8.frozen? ⟨x6.heap.size, o, none⟩ = false := fun o => (hx.frozen _ _ (by first | omega | (simp; done) | (simp; omega))).trans (by go_simp)
  have hz8_7 : x7.heap.size < x8.heap.size := by omega
  have c8_7_0 : x8.cell? ⟨x7.heap.size, 0, none⟩ = some (Value.int .i64 xy) := (hx.cell _ _ (by first | omega | (simp; done) | (simp; omega))).trans (by go_simp)
  have c8_7_1 : x8.cell? ⟨x7.heap.size, 1, none⟩ = some (Value.int .i64 1) := (hx.cell _ _ (by first | omega | (simp; done) | (simp; omega))).trans (by go_simp)
  have f8_7 : ∀ o, x8.frozen? ⟨x7.heap.size, o, none⟩ = false := fun o => (hx.frozen _ _ (by first | omega | (simp; done) | (simp; omega))).trans (by go_simp)
  replace HU := Lib.hid (Up.trans (by repeat (first | exact HU.out | refine Up.setCell ?_ (by first | omega | (simp; done) | (simp; omega)) _ | refine Up.alloc ?_ _)) hx : Up w x8)
  clear c7_0_0 c7_0_1 c7_0_2 c7_0_3 c7_0_4 f7_0 c7_1_0 c7_1_1 f7_1 c7_2_0 c7_2_1 f7_2 c7_3_0 c7_3_1 f7_3 c7_4_0 c7_4_1 f7_4 c7_5_0 c7_5_1 f7_5 c7_6_0 c7_6_1 f7_6
  clear hx hsz
  have hne8_0 : (w.heap.size = x8.heap.size) = False := by simp; omega
  have hnf8_0 : (x8.heap.size = w.heap.size) = False := by simp; omega
  have hne8_1 : (w.heap.size + 1 = x8.heap.size) = False := by simp; omega
  have hnf8_1 : (x8.heap.size = w.heap.size + 1) = False := by simp; omega
  have hne8_2 : (w.heap.size + 1 + 1 = x8.heap.size) = False := by simp; omega
  have hnf8_2 : (x8.heap.size = w.heap.size + 1 + 1) = False := by simp; omega
  have hne8_3 : (w.heap.size + 1 + 1 + 1 = x8.heap.size) = False := by simp; omega
  have hnf8_3 : (x8.heap.size = w.heap.size + 1 + 1 + 1) = False := by simp; omega
  have hne8_4 : (x4.heap.size = x8.heap.size) = False := by simp; omega
  have hnf8_4 : (x8.heap.size = x4.heap.size) = False := by simp; omega
  have hne8_5 : (x5.heap.size = x8.heap.size) = False := by simp; omega
  have hnf8_5 : (x8.heap.size = x5.heap.size) = False := by simp; omega
  have hne8_6 : (x6.heap.size = x8.heap.size) = False := by simp; omega
  have hnf8_6 : (x8.heap.size = x6.heap.size) = False := by simp; omega
  have hne8_7 : (x7.heap.size = x8.heap.size) = False := by simp; omega
  have hnf8_7 : (x8.heap.size = x7.heap.size) = False := by simp; omega
  go_wp2_with fail
  refine (add_ok _ _ _ _ _ _ _ _ _ _ A4.out B7.out _).mono ?_
  rintro e9 x9 ⟨rfl, hx⟩
  have hsz := hx.size
  try simp at hsz
  have hz9_0 : w.heap.size < x9.heap.size := by omega
  have c9_0_0 : x9.cell? ⟨w.heap.size, 0, none⟩ = some (Value.int .i64 2) := (hx.cell _ _ (by first | omega | (simp; done) | (simp; omega))).trans (by go_simp)
  have c9_0_1 : x9.cell? ⟨w.heap.size, 1, none⟩ = some (Value.int .i64 b) := (hx.cell _ _ (by first | omega | (simp; done) | (simp; omega))).trans (by go_simp)
  have c9_0_2 : x9.cell? ⟨w.heap.size, 2, none⟩ = some (Value.int .i64 f) := (hx.cell _ _ (by first | omega | (simp; done) | (simp; omega))).trans (by go_simp)
  have c9_0_3 : x9.cell? ⟨w.heap.size, 3, none⟩ = some (Value.int .i64 r) := (hx.cell _ _ (by first | omega | (simp; done) | (simp; omega))).trans (by go_simp)
  have c9_0_4 : x9.cell? ⟨w.heap.size, 4, none⟩ = some (Value.int .i64 2) := (hx.cell _ _ (by first | omega | (simp; done) | (simp; omega))).trans (by go_simp)
  have f9_0 : ∀ o, x9.frozen? ⟨w.heap.size, o, none⟩ = false := fun o => (hx.frozen _ _ (by first | omega | (simp; done) | (simp; omega))).trans (by go_simp)
  have hz9_1 : w.heap.size + 1 < x9.heap.size := by omega
  have c9_1_0 : x9.cell? ⟨w.heap.size + 1, 0, none⟩ = some (Value.int .i64 n1) := (hx.cell _ _ (by first | omega | (simp; done) | (simp; omega))).trans (by go_simp)
  have c9_1_1 : x9.cell? ⟨w.heap.size + 1, 1, none⟩ = some (Value.int .i64 1) := (hx.cell _ _ (by first | omega | (simp; done) | (simp; omega))).trans (by go_simp)
  have f9_1 : ∀ o, x9.frozen? ⟨w.heap.size + 1, o, none⟩ = false := fun o => (hx.frozen _ _ (by first | omega | (simp; done) | (simp; omega))).trans (by go_simp)
  have hz9_2 : w.heap.size + 1 + 1 < x9.heap.size := by omega
  have c9_2_0 : x9.cell? ⟨w.heap.size + 1 + 1, 0, none⟩ = some (Value.int .i64 n2) := (hx.cell _ _ (by first | omega | (simp; done) | (simp; omega))).trans (by go_simp)
  have c9_2_1 : x9.cell? ⟨w.heap.size + 1 + 1, 1, none⟩ = some (Value.int .i64 1) := (hx.cell _ _ (by first | omega | (simp; done) | (simp; omega))).trans (by go_simp)
  have f9_2 : ∀ o, x9.frozen? ⟨w.heap.size + 1 + 1, o, none⟩ = false := fun o => (hx.frozen _ _ (by first | omega | (simp; done) | (simp; omega))).trans (by go_simp)
  have hz9_3 : w.heap.size + 1 + 1 + 1 < x9.heap.size := by omega
  have c9_3_0 : x9.cell? ⟨w.heap.size + 1 + 1 + 1, 0, none⟩ = some (Value.int .i64 n3) := (hx.cell _ _ (by first | omega | (simp; done) | (simp; omega))).trans (by go_simp)
  have c9_3_1 : x9.cell? ⟨w.heap.size + 1 + 1 + 1, 1, none⟩ = some (Value.int .i64 1) := (hx.cell _ _ (by first | omega | (simp; done) | (simp; omega))).trans (by go_simp)
  have f9_3 : ∀ o, x9.frozen? ⟨w.heap.size + 1 + 1 + 1, o, none⟩ = false := fun o => (hx.frozen _ _ (by first | omega | (simp; done) | (simp; omega))).trans (by go_simp)
  have hz9_4 : x4.heap.size < x9.heap.size := by omega
  have c9_4_0 : x9.cell? ⟨x4.heap.size, 0, none⟩ = some (Value.int .i64 ab) := (hx.cell _ _ (by first | omega | (simp; done) | (simp; omega))).trans (by go_simp)
  have c9_4_1 : x9.cell? ⟨x4.heap.size, 1, none⟩ = some (Value.int .i64 1) := (hx.cell _ _ (by first | omega | (simp; done) | (simp; omega))).trans (by go_simp)
  have f9_4 : ∀ o, x9.frozen? ⟨x4.heap.size, o, none⟩ = false := fun o => (hx.frozen _ _ (by first | omega | (simp; done) | (simp; omega))).trans (by go_simp)
  have hz9_5 : x5.heap.size < x9.heap.size := by omega
  have c9_5_0 : x9.cell? ⟨x5.heap.size, 0, none⟩ = some (Value.int .i64 ab) := (hx.cell _ _ (by first | omega | (simp; done) | (simp; omega))).trans (by go_simp)
  have c9_5_1 : x9.cell? ⟨x5.heap.size, 1, none⟩ = some (Value.int .i64 1) := (hx.cell _ _ (by first | omega | (simp; done) | (simp; omega))).trans (by go_simp)
  have f9_5 : ∀ o, x9.frozen? ⟨x5.heap.size, o, none⟩ = false := fun o => (hx.frozen _ _ (by first | omega | (simp; done) | (simp; omega))).trans (by go_simp)
  have hz9_6 : x6.heap.size < x9.heap.size := by omega
  have c9_6_0 : x9.cell? ⟨x6.heap.size, 0, none⟩ = some (Value.int .i64 xy) := (hx.cell _ _ (by first | omega | (simp; done) | (simp; omega))).trans (by go_simp)
  have c9_6_1 : x9.cell? ⟨x6.heap.size, 1, none⟩ = some (Value.int .i64 1) := (hx.cell _ _ (by first | omega | (simp; done) | (simp; omega))).trans (by go_simp)
  have f9_6 : ∀ o, x9.frozen? ⟨x6.heap.size, o, none⟩ = false := fun o => (hx.frozen _ _ (by first | omega | (simp; done) | (simp; omega))).trans (by go_simp)
  have hz9_7 : x7.heap.size < x9.heap.size := by omega
  have c9_7_0 : x9.cell? ⟨x7.heap.size, 0, none⟩ = some (Value.int .i64 xy) := (hx.cell _ _ (by first | omega | (simp; done) | (simp; omega))).trans (by go_simp)
  have c9_7_1 : x9.cell? ⟨x7.heap.size, 1, none⟩ = some (Value.int .i64 1) := (hx.cell _ _ (by first | omega | (simp; done) | (simp; omega))).trans (by go_simp)
  have f9_7 : ∀ o, x9.frozen? ⟨x7.heap.size, o, none⟩ = false := fun o => (hx.frozen _ _ (by first | omega | (simp; done) | (simp; omega))).trans (by go_simp)
  have hz9_8 : x8.heap.size < x9.heap.size := by omega
  have c9_8_0 : x9.cell? ⟨x8.heap.size, 0, none⟩ = some (Value.int .i64 lf) := (hx.cell _ _ (by first | omega | (simp; done) | (simp; omega))).trans (by go_simp)
  have c9_8_1 : x9.cell? ⟨x8.heap.size, 1, none⟩ = some (Value.int .i64 1) := (hx.cell _ _ (by first | omega | (simp; done) | (simp; omega))).trans (by go_simp)
  have f9_8 : ∀ o, x9.frozen? ⟨x8.heap.size, o, none⟩ = false := fun o => (hx.frozen _ _ (by first | omega | (simp; done) | (simp; omega))).trans (by go_simp)
  replace HU := Lib.hid (Up.trans (by repeat (first | exact HU.out | refine Up.setCell ?_ (by first | omega | (simp; done) | (simp; omega)) _ | refine Up.alloc ?_ _)) hx : Up w x9)
  clear c8_0_0 c8_0_1 c8_0_2 c8_0_3 c8_0_4 f8_0 c8_1_0 c8_1_1 f8_1 c8_2_0 c8_2_1 f8_2 c8_3_0 c8_3_1 f8_3 c8_4_0 c8_4_1 f8_4 c8_5_0 c8_5_1 f8_5 c8_6_0 c8_6_1 f8_6 c8_7_0 c8_7_1 f8_7
  clear hx hsz
  have hne9_0 : (w.heap.size = x9.heap.size) = False := by simp; omega
  have hnf9_0 : (x9.heap.size = w.heap.size) = False := by simp; omega
  have hne9_1 : (w.heap.size + 1 = x9.heap.size) = False := by simp; omega
  have hnf9_1 : (x9.heap.size = w.heap.size + 1) = False := by simp; omega
  have hne9_2 : (w.heap.size + 1 + 1 = x9.heap.size) = False := by simp; omega
  have hnf9_2 : (x9.heap.size = w.heap.size + 1 + 1) = False := by simp; omega
  have hne9_3 : (w.heap.size + 1 + 1 + 1 = x9.heap.size) = False := by simp; omega
  have hnf9_3 : (x9.heap.size = w.heap.size + 1 + 1 + 1) = False := by simp; omega
  have hne9_4 : (x4.heap.size = x9.heap.size) = False := by simp; omega
  have hnf9_4 : (x9.heap.size = x4.heap.size) = False := by simp; omega
  have hne9_5 : (x5.heap.size = x9.heap.size) = False := by simp; omega
  have hnf9_5 : (x9.heap.size = x5.heap.size) = False := by simp; omega
  have hne9_6 : (x6.heap.size = x9.heap.size) = False := by simp; omega
  have hnf9_6 : (x9.heap.size = x6.heap.size) = False := by simp; omega
  have hne9_7 : (x7.heap.size = x9.heap.size) = False := by simp; omega
  have hnf9_7 : (x9.heap.size = x7.heap.size) = False := by simp; omega
  have hne9_8 : (x8.heap.size = x9.heap.size) = False := by simp; omega
  have hnf9_8 : (x9.heap.size = x8.heap.size) = False := by simp; omega
  go_wp2_with fail
  refine (add_ok _ _ _ _ _ _ _ _ _ _ A5.out B8.out _).mono ?_
  rintro e10 x10 ⟨rfl, hx⟩
  have hsz := hx.size
  try simp at hsz
  have hz10_0 : w.heap.size < x10.heap.size := by omega
  have c10_0_0 : x10.cell? ⟨w.heap.size, 0, none⟩ = some (Value.int .i64 2) := (hx.cell _ _ (by first | omega | (simp; done) | (simp; omega))).trans (by go_simp)
  have c10_0_1 : x10.cell? ⟨w.heap.size, 1, none⟩ = some (Value.int .i64 b) := (hx.cell _ _ (by first | omega | (simp; done) | (simp; omega))).trans (by go_simp)
  have c10_0_2 : x10.cell? ⟨w.heap.size, 2, none⟩ = some (Value.int .i64 f) := (hx.cell _ _ (by first | omega | (simp; done) | (simp; omega))).trans (by go_simp)
  have c10_0_3 : x10.cell? ⟨w.heap.size, 3, none⟩ = some (Value.int .i64 r) := (hx.cell _ _ (by first | omega | (simp; done) | (simp; omega))).trans (by go_simp)
  have c10_0_4 : x10.cell? ⟨w.heap.size, 4, none⟩ = some (Value.int .i64 2) := (hx.cell _ _ (by first | omega | (simp; done) | (simp; omega))).trans (by go_simp)
  have f10_0 : ∀ o, x10.frozen? ⟨w.heap.size, o, none⟩ = false := fun o => (hx.frozen _ _ (by first | omega | (simp; done) | (simp; omega))).trans (by go_simp)
  have hz10_1 : w.heap.size + 1 < x10.heap.size := by omega
  have c10_1_0 : x10.cell? ⟨w.heap.size + 1, 0, none⟩ = some (Value.int .i64 n1) := (hx.cell _ _ (by first | omega | (simp; done) | (simp; omega))).trans (by go_simp)
  have c10_1_1 : x10.cell? ⟨w.heap.size + 1, 1, none⟩ = some (Value.int .i64 1) := (hx.cell _ _ (by first | omega | (simp; done) | (simp; omega))).trans (by go_simp)
  have f10_1 : ∀ o, x10.frozen? ⟨w.heap.size + 1, o, none⟩ = false := fun o => (hx.frozen _ _ (by first | omega | (simp; done) | (simp; omega))).trans (by go_simp)
  have hz10_2 : w.heap.size + 1 + 1 < x10.heap.size := by omega
  have c10_2_0 : x10.cell? ⟨w.heap.size + 1 + 1, 0, none⟩ = some (Value.int .i64 n2) := (hx.cell _ _ (by first | omega | (simp; done) | (simp; omega))).trans (by go_simp)
  have c10_2_1 : x10.cell? ⟨w.heap.size + 1 + 1, 1, none⟩ = some (Value.int .i64 1) := (hx.cell _ _ (by first | omega | (simp; done) | (simp; omega))).trans (by go_simp)
  have f10_2 : ∀ o, x10.frozen? ⟨w.heap.size + 1 + 1, o, none⟩ = false := fun o => (hx.frozen _ _ (by first | omega | (simp; done) | (simp; omega))).trans (by go_simp)
  have hz10_3 : w.heap.size + 1 + 1 + 1 < x10.heap.size := by omega
  have c10_3_0 : x10.cell? ⟨w.heap.size + 1 + 1 + 1, 0, none⟩ = some (Value.int .i64 n3) := (hx.cell _ _ (by first | omega | (simp; done) | (simp; omega))).trans (by go_simp)
  have c10_3_1 : x10.cell? ⟨w.heap.size + 1 + 1 + 1, 1, none⟩ = some (Value.int .i64 1) := (hx.cell _ _ (by first | omega | (simp; done) | (simp; omega))).trans (by go_simp)
  have f10_3 : ∀ o, x10.frozen? ⟨w.heap.size + 1 + 1 + 1, o, none⟩ = false := fun o => (hx.frozen _ _ (by first | omega | (simp; done) | (simp; omega))).trans (by go_simp)
  have hz10_4 : x4.heap.size < x10.heap.size := by omega
  have c10_4_0 : x10.cell? ⟨x4.heap.size, 0, none⟩ = some (Value.int .i64 ab) := (hx.cell _ _ (by first | omega | (simp; done) | (simp; omega))).trans (by go_simp)
  have c10_4_1 : x10.cell? ⟨x4.heap.size, 1, none⟩ = some (Value.int .i64 1) := (hx.cell _ _ (by first | omega | (simp; done) | (simp; omega))).trans (by go_simp)
  have f10_4 : ∀ o, x10.frozen? ⟨x4.heap.size, o, none⟩ = false := fun o => (hx.frozen _ _ (by first | omega | (simp; done) | (simp; omega))).trans (by go_simp)
  have hz10_5 : x5.heap.size < x10.heap.size := by omega
  have c10_5_0 : x10.cell? ⟨x5.heap.size, 0, none⟩ = some (Value.int .i64 ab) := (hx.cell _ _ (by first | omega | (simp; done) | (simp; omega))).trans (by go_simp)
  have c10_5_1 : x10.cell? ⟨x5.heap.size, 1, none⟩ = some (Value.int .i64 1) := (hx.cell _ _ (by first | omega | (simp; done) | (simp; omega))).trans (by go_simp)
  have f10_5 : ∀ o, x10.frozen? ⟨x5.heap.size, o, none⟩ = false := fun o => (hx.frozen _ _ (by first | omega | (simp; done) | (simp; omega))).trans (by go_simp)
  have hz10_6 : x6.heap.size < x10.heap.size := by omega
  have c10_6_0 : x10.cell? ⟨x6.heap.size, 0, none⟩ = some (Value.int .i64 xy) := (hx.cell _ _ (by first | omega | (simp; done) | (simp; omega))).trans (by go_simp)
  have c10_6_1 : x10.cell? ⟨x6.heap.size, 1, none⟩ = some (Value.int .i64 1) := (hx.cell _ _ (by first | omega | (simp; done) | (simp; omega))).trans (by go_simp)
  have f10_6 : ∀ o, x10.frozen? ⟨x6.heap.size, o, none⟩ = false := fun o => (hx.frozen _ _ (by first | omega | (simp; done) | (simp; omega))).trans (by go_simp)
  have hz10_7 : x7.heap.size < x10.heap.size := by omega
  have c10_7_0 : x10.cell? ⟨x7.heap.size, 0, none⟩ = some (Value.int .i64 xy) := (hx.cell _ _ (by first | omega | (simp; done) | (simp; omega))).trans (by go_simp)
  have c10_7_1 : x10.cell? ⟨x7.heap.size, 1, none⟩ = some (Value.int .i64 1) := (hx.cell _ _ (by first | omega | (simp; done) | (simp; omega))).trans (by go_simp)
  have f10_7 : ∀ o, x10.frozen? ⟨x7.heap.size, o, none⟩ = false := fun o => (hx.frozen _ _ (by first | omega | (simp; done) | (simp; omega))).trans (by go_simp)
  have hz10_8 : x8.heap.size < x10.heap.size := by omega
  have c10_8_0 : x10.cell? ⟨x8.heap.size, 0, none⟩ = some (Value.int .i64 lf) := (hx.cell _ _ (by first | omega | (simp; done) | (simp; omega))).trans (by go_simp)
  have c10_8_1 : x10.cell? ⟨x8.heap.size, 1, none⟩ = some (Value.int .i64 1) := (hx.cell _ _ (by first | omega | (simp; done) | (simp; omega))).trans (by go_simp)
  have f10_8 : ∀ o, x10.frozen? ⟨x8.heap.size, o, none⟩ = false := fun o => (hx.frozen _ _ (by first | omega | (simp; done) | (simp; omega))).trans (by go_simp)
  have hz10_9 : x9.heap.size < x10.heap.size := by omega
  have c10_9_0 : x10.cell? ⟨x9.heap.size, 0, none⟩ = some (Value.int .i64 bc) := (hx.cell _ _ (by first | omega | (simp; done) | (simp; omega))).trans (by go_simp)
  have c10_9_1 : x10.cell? ⟨x9.heap.size, 1, none⟩ = some (Value.int .i64 1) := (hx.cell _ _ (by first | omega | (simp; done) | (simp; omega))).trans (by go_simp)
  have f10_9 : ∀ o, x10.frozen? ⟨x9.heap.size, o, none⟩ = false := fun o => (hx.frozen _ _ (by first | omega | (simp; done) | (simp; omega))).trans (by go_simp)
  replace HU := Lib.hid (Up.trans (by repeat (first | exact HU.out | refine Up.setCell ?_ (by first | omega | (simp; done) | (simp; omega)) _ | refine Up.alloc ?_ _)) hx : Up w x10)
  clear c9_0_0 c9_0_1 c9_0_2 c9_0_3 c9_0_4 f9_0 c9_1_0 c9_1_1 f9_1 c9_2_0 c9_2_1 f9_2 c9_3_0 c9_3_1 f9_3 c9_4_0 c9_4_1 f9_4 c9_5_0 c9_5_1 f9_5 c9_6_0 c9_6_1 f9_6 c9_7_0 c9_7_1 f9_7 c9_8_0 c9_8_1 f9_8
  clear hx hsz
  have hne10_0 : (w.heap.size = x10.heap.size) = False := by simp; omega
  have hnf10_0 : (x10.heap.size = w.heap.size) = False := by simp; omega
  have hne10_1 : (w.heap.size + 1 = x10.heap.size) = False := by simp; omega
  have hnf10_1 : (x10.heap.size = w.heap.size + 1) = False := by simp; omega
  have hne10_2 : (w.heap.size + 1 + 1 = x10.heap.size) = False := by simp; omega
  have hnf10_2 : (x10.heap.size = w.heap.size + 1 + 1) = False := by simp; omega
  have hne10_3 : (w.heap.size + 1 + 1 + 1 = x10.heap.size) = False := by simp; omega
  have hnf10_3 : (x10.heap.size = w.heap.size + 1 + 1 + 1) = False := by simp; omega
  have hne10_4 : (x4.heap.size = x10.heap.size) = False := by simp; omega
  have hnf10_4 : (x10.heap.size = x4.heap.size) = False := by simp; omega
  have hne10_5 : (x5.heap.size = x10.heap.size) = False := by simp; omega
  have hnf10_5 : (x10.heap.size = x5.heap.size) = False := by simp; omega
  have hne10_6 : (x6.heap.size = x10.heap.size) = False := by simp; omega
  have hnf10_6 : (x10.heap.size = x6.heap.size) = False := by simp; omega
  have hne10_7 : (x7.heap.size = x10.heap.size) = False := by simp; omega
  have hnf10_7 : (x10.heap.size = x7.heap.size) = False := by simp; omega
  have hne10_8 : (x8.heap.size = x10.heap.size) = False := by simp; omega
  have hnf10_8 : (x10.heap.size = x8.heap.size) = False := by simp; omega
  have hne10_9 : (x9.heap.size = x10.heap.size) = False := by simp; omega
  have hnf10_9 : (x10.heap.size = x9.heap.size) = False := by simp; omega
  go_wp2_with fail
  refine (sub_ok _ _ _ _ _ _ _ _ _ _ A6.out B9.out _).mono ?_
  rintro e11 x11 ⟨rfl, hx⟩
  have hsz := hx.size
  try simp at hsz
  have hz11_0 : w.heap.size < x11.heap.size := by omega
  have c11_0_0 : x11.cell? ⟨w.heap.size, 0, none⟩ = some (Value.int .i64 2) := (hx.cell _ _ (by first | omega | (simp; done) | (simp; omega))).trans (by go_simp)
  have c11_0_1 : x11.cell? ⟨w.heap.size, 1, none⟩ = some (Value.int .i64 b) := (hx.cell _ _ (by first | omega | (simp; done) | (simp; omega))).trans (by go_simp)
  have c11_0_2 : x11.cell? ⟨w.heap.size, 2, none⟩ = some (Value.int .i64 f) := (hx.cell _ _ (by first | omega | (simp; done) | (simp; omega))).trans (by go_simp)
  have c11_0_3 : x11.cell? ⟨w.heap.size, 3, none⟩ = some (Value.int .i64 r) := (hx.cell _ _ (by first | omega | (simp; done) | (simp; omega))).trans (by go_simp)
  have c11_0_4 : x11.cell? ⟨w.heap.size, 4, none⟩ = some (Value.int .i64 2) := (hx.cell _ _ (by first | omega | (simp; done) | (simp; omega))).trans (by go_simp)
  have f11_0 : ∀ o, x11.frozen? ⟨w.heap.size, o, none⟩ = false := fun o => (hx.frozen _ _ (by first | omega | (simp; done) | (simp; omega))).trans (by go_simp)
  have hz11_1 : w.heap.size + 1 < x11.heap.size := by omega
  have c11_1_0 : x11.cell? ⟨w.heap.size + 1, 0, none⟩ = some (Value.int .i64 n1) := (hx.cell _ _ (by first | omega | (simp; done) | (simp; omega))).trans (by go_simp)
  have c11_1_1 : x11.cell? ⟨w.heap.size + 1, 1, none⟩ = some (Value.int .i64 1) := (hx.cell _ _ (by first | omega | (simp; done) | (simp; omega))).trans (by go_simp)
  have f11_1 : ∀ o, x11.frozen? ⟨w.heap.size + 1, o, none⟩ = false := fun o => (hx.frozen _ _ (by first | omega | (simp; done) | (simp; omega))).trans (by go_simp)
  have hz11_2 : w.heap.size + 1 + 1 < x11.heap.size := by omega
  have c11_2_0 : x11.cell? ⟨w.heap.size + 1 + 1, 0, none⟩ = some (Value.int .i64 n2) := (hx.cell _ _ (by first | omega | (simp; done) | (simp; omega))).trans (by go_simp)
  have c11_2_1 : x11.cell? ⟨w.heap.size + 1 + 1, 1, none⟩ = some (Value.int .i64 1) := (hx.cell _ _ (by first | omega | (simp; done) | (simp; omega))).trans (by go_simp)
  have f11_2 : ∀ o, x11.frozen? ⟨w.heap.size + 1 + 1, o, none⟩ = false := fun o => (hx.frozen _ _ (by first | omega | (simp; done) | (simp; omega))).trans (by go_simp)
  have hz11_3 : w.heap.size + 1 + 1 + 1 < x11.heap.size := by omega
  have c11_3_0 : x11.cell? ⟨w.heap.size + 1 + 1 + 1, 0, none⟩ = some (Value.int .i64 n3) := (hx.cell _ _ (by first | omega | (simp; done) | (simp; omega))).trans (by go_simp)
  have c11_3_1 : x11.cell? ⟨w.heap.size + 1 + 1 + 1, 1, none⟩ = some (Value.int .i64 1) := (hx.cell _ _ (by first | omega | (simp; done) | (simp; omega))).trans (by go_simp)
  have f11_3 : ∀ o, x11.frozen? ⟨w.heap.size + 1 + 1 + 1, o, none⟩ = false := fun o => (hx.frozen _ _ (by first | omega | (simp; done) | (simp; omega))).trans (by go_simp)
  have hz11_4 : x4.heap.size < x11.heap.size := by omega
  have c11_4_0 : x11.cell? ⟨x4.heap.size, 0, none⟩ = some (Value.int .i64 ab) := (hx.cell _ _ (by first | omega | (simp; done) | (simp; omega))).trans (by go_simp)
  have c11_4_1 : x11.cell? ⟨x4.heap.size, 1, none⟩ = some (Value.int .i64 1) := (hx.cell _ _ (by first | omega | (simp; done) | (simp; omega))).trans (by go_simp)
  have f11_4 : ∀ o, x11.frozen? ⟨x4.heap.size, o, none⟩ = false := fun o => (hx.frozen _ _ (by first | omega | (simp; done) | (simp; omega))).trans (by go_simp)
  have hz11_5 : x5.heap.size < x11.heap.size := by omega
  have c11_5_0 : x11.cell? ⟨x5.heap.size, 0, none⟩ = some (Value.int .i64 ab) := (hx.cell _ _ (by first | omega | (simp; done) | (simp; omega))).trans (by go_simp)
  have c11_5_1 : x11.cell? ⟨x5.heap.size, 1, none⟩ = some (Value.int .i64 1) := (hx.cell _ _ (by first | omega | (simp; done) | (simp; omega))).trans (by go_simp)
  have f11_5 : ∀ o, x11.frozen? ⟨x5.heap.size, o, none⟩ = false := fun o => (hx.frozen _ _ (by first | omega | (simp; done) | (simp; omega))).trans (by go_simp)
  have hz11_6 : x6.heap.size < x11.heap.size := by omega
  have c11_6_0 : x11.cell? ⟨x6.heap.size, 0, none⟩ = some (Value.int .i64 xy) := (hx.cell _ _ (by first | omega | (simp; done) | (simp; omega))).trans (by go_simp)
  have c11_6_1 : x11.cell? ⟨x6.heap.size, 1, none⟩ = some (Value.int .i64 1) := (hx.cell _ _ (by first | omega | (simp; done) | (simp; omega))).trans (by go_simp)
  have f11_6 : ∀ o, x11.frozen? ⟨x6.heap.size, o, none⟩ = false := fun o => (hx.frozen _ _ (by first | omega | (simp; done) | (simp; omega))).trans (by go_simp)
  have hz11_7 : x7.heap.size < x11.heap.size := by omega
  have c11_7_0 : x11.cell? ⟨x7.heap.size, 0, none⟩ = some (Value.int .i64 xy) := (hx.cell _ _ (by first | omega | (simp; done) | (simp; omega))).trans (by go_simp)
  have c11_7_1 : x11.cell? ⟨x7.heap.size, 1, none⟩ = some (Value.int .i64 1) := (hx.cell _ _ (by first | omega | (simp; done) | (simp; omega))).trans (by go_simp)
  have f11_7 : ∀ o, x11.frozen? ⟨x7.heap.size, o, none⟩ = false := fun o => (hx.frozen _ _ (by first | omega | (simp; done) | (simp; omega))).trans (by go_simp)
  have hz11_8 : x8.heap.size < x11.heap.size := by omega
  have c11_8_0 : x11.cell? ⟨x8.heap.size, 0, none⟩ = some (Value.int .i64 lf) := (hx.cell _ _ (by first | omega | (simp; done) | (simp; omega))).trans (by go_simp)
  have c11_8_1 : x11.cell? ⟨x8.heap.size, 1, none⟩ = some (Value.int .i64 1) := (hx.cell _ _ (by first | omega | (simp; done) | (simp; omega))).trans (by go_simp)
  have f11_8 : ∀ o, x11.frozen? ⟨x8.heap.size, o, none⟩ = false := fun o => (hx.frozen _ _ (by first | omega | (simp; done) | (simp; omega))).trans (by go_simp)
  have hz11_9 : x9.heap.size < x11.heap.size := by omega
  have c11_9_0 : x11.cell? ⟨x9.heap.size, 0, none⟩ = some (Value.int .i64 bc) := (hx.cell _ _ (by first | omega | (simp; done) | (simp; omega))).trans (by go_simp)
  have c11_9_1 : x11.cell? ⟨x9.heap.size, 1, none⟩ = some (Value.int .i64 1) := (hx.cell _ _ (by first | omega | (simp; done) | (simp; omega))).trans (by go_simp)
  have f11_9 : ∀ o, x11.frozen? ⟨x9.heap.size, o, none⟩ = false := fun o => (hx.frozen _ _ (by first | omega | (simp; done) | (simp; omega))).trans (by go_simp)
  have hz11_10 : x10.heap.size < x11.heap.size := by omega
  have c11_10_0 : x11.cell? ⟨x10.heap.size, 0, none⟩ = some (Value.int .i64 lf) := (hx.cell _ _ (by first | omega | (simp; done) | (simp; omega))).trans (by go_simp)
  have c11_10_1 : x11.cell? ⟨x10.heap.size, 1, none⟩ = some (Value.int .i64 1) := (hx.cell _ _ (by first | omega | (simp; done) | (simp; omega))).trans (by go_simp)
  have f11_10 : ∀ o, x11.frozen? ⟨x10.heap.size, o, none⟩ = false := fun o => (hx.frozen _ _ (by first | omega | (simp; done) | (simp; omega))).trans (by go_simp)
  replace HU := Lib.hid (Up.trans (by repeat (first | exact HU.out | refine Up.setCell ?_ (by first | omega | (simp; done) | (simp; omega)) _ | refine Up.alloc ?_ _)) hx : Up w x11)
  clear c10_0_0 c10_0_1 c10_0_2 c10_0_3 c10_0_4 f10_0 c10_1_0 c10_1_1 f10_1 c10_2_0 c10_2_1 f10_2 c10_3_0 c10_3_1 f10_3 c10_4_0 c10_4_1 f10_4 c10_5_0 c10_5_1 f10_5 c10_6_0 c10_6_1 f10_6 c10_7_0 c10_7_1 f10_7 c10_8_0 c10_8_1 f10_8 c10_9_0 c10_9_1 f10_9
  clear hx hsz
  have hne11_0 : (w.heap.size = x11.heap.size) = False := by simp; omega
  have hnf11_0 : (x11.heap.size = w.heap.size) = False := by simp; omega
  have hne11_1 : (w.heap.size + 1 = x11.heap.size) = False := by simp; omega
  have hnf11_1 : (x11.heap.size = w.heap.size + 1) = False := by simp; omega
  have hne11_2 : (w.heap.size + 1 + 1 = x11.heap.size) = False := by simp; omega
  have hnf11_2 : (x11.heap.size = w.heap.size + 1 + 1) = False := by simp; omega
  have hne11_3 : (w.heap.size + 1 + 1 + 1 = x11.heap.size) = False := by simp; omega
  have hnf11_3 : (x11.heap.size = w.heap.size + 1 + 1 + 1) = False := by simp; omega
  have hne11_4 : (x4.heap.size = x11.heap.size) = False := by simp; omega
  have hnf11_4 : (x11.heap.size = x4.heap.size) = False := by simp; omega
  have hne11_5 : (x5.heap.size = x11.heap.size) = False := by simp; omega
  have hnf11_5 : (x11.heap.size = x5.heap.size) = False := by simp; omega
  have hne11_6 : (x6.heap.size = x11.heap.size) = False := by simp; omega
  have hnf11_6 : (x11.heap.size = x6.heap.size) = False := by simp; omega
  have hne11_7 : (x7.heap.size = x11.heap.size) = False := by simp; omega
  have hnf11_7 : (x11.heap.size = x7.heap.size) = False := by simp; omega
  have hne11_8 : (x8.heap.size = x11.heap.size) = False := by simp; omega
  have hnf11_8 : (x11.heap.size = x8.heap.size) = False := by simp; omega
  have hne11_9 : (x9.heap.size = x11.heap.size) = False := by simp; omega
  have hnf11_9 : (x11.heap.size = x9.heap.size) = False := by simp; omega
  have hne11_10 : (x10.heap.size = x11.heap.size) = False := by simp; omega
  have hnf11_10 : (x11.heap.size = x10.heap.size) = False := by simp; omega
  go_wp2_with fail
  refine (law03_examples _).mono ?_
  rintro e12 x12 ⟨rfl, hx⟩
  have hsz := hx.size
  try simp at hsz
  have hz12_0 : w.heap.size < x12.heap.size := by omega
  have c12_0_0 : x12.cell? ⟨w.heap.size, 0, none⟩ = some (Value.int .i64 2) := (hx.cell _ _ (by first | omega | (simp; done) | (simp; omega))).trans (by go_simp)
  have c12_0_1 : x12.cell? ⟨w.heap.size, 1, none⟩ = some (Value.int .i64 b) := (hx.cell _ _ (by first | omega | (simp; done) | (simp; omega))).trans (by go_simp)
  have c12_0_2 : x12.cell? ⟨w.heap.size, 2, none⟩ = some (Value.int .i64 f) := (hx.cell _ _ (by first | omega | (simp; done) | (simp; omega))).trans (by go_simp)
  have c12_0_3 : x12.cell? ⟨w.heap.size, 3, none⟩ = some (Value.int .i64 r) := (hx.cell _ _ (by first | omega | (simp; done) | (simp; omega))).trans (by go_simp)
  have c12_0_4 : x12.cell? ⟨w.heap.size, 4, none⟩ = some (Value.int .i64 2) := (hx.cell _ _ (by first | omega | (simp; done) | (simp; omega))).trans (by go_simp)
  have f12_0 : ∀ o, x12.frozen? ⟨w.heap.size, o, none⟩ = false := fun o => (hx.frozen _ _ (by first | omega | (simp; done) | (simp; omega))).trans (by go_simp)
  have hz12_1 : w.heap.size + 1 < x12.heap.size := by omega
  have c12_1_0 : x12.cell? ⟨w.heap.size + 1, 0, none⟩ = some (Value.int .i64 n1) := (hx.cell _ _ (by first | omega | (simp; done) | (simp; omega))).trans (by go_simp)
  have c12_1_1 : x12.cell? ⟨w.heap.size + 1, 1, none⟩ = some (Value.int .i64 1) := (hx.cell _ _ (by first | omega | (simp; done) | (simp; omega))).trans (by go_simp)
  have f12_1 : ∀ o, x12.frozen? ⟨w.heap.size + 1, o, none⟩ = false := fun o => (hx.frozen _ _ (by first | omega | (simp; done) | (simp; omega))).trans (by go_simp)
  have hz12_2 : w.heap.size + 1 + 1 < x12.heap.size := by omega
  have c12_2_0 : x12.cell? ⟨w.heap.size + 1 + 1, 0, none⟩ = some (Value.int .i64 n2) := (hx.cell _ _ (by first | omega | (simp; done) | (simp; omega))).trans (by go_simp)
  have c12_2_1 : x12.cell? ⟨w.heap.size + 1 + 1, 1, none⟩ = some (Value.int .i64 1) := (hx.cell _ _ (by first | omega | (simp; done) | (simp; omega))).trans (by go_simp)
  have f12_2 : ∀ o, x12.frozen? ⟨w.heap.size + 1 + 1, o, none⟩ = false := fun o => (hx.frozen _ _ (by first | omega | (simp; done) | (simp; omega))).trans (by go_simp)
  have hz12_3 : w.heap.size + 1 + 1 + 1 < x12.heap.size := by omega
  have c12_3_0 : x12.cell? ⟨w.heap.size + 1 + 1 + 1, 0, none⟩ = some (Value.int .i64 n3) := (hx.cell _ _ (by first | omega | (simp; done) | (simp; omega))).trans (by go_simp)
  have c12_3_1 : x12.cell? ⟨w.heap.size + 1 + 1 + 1, 1, none⟩ = some (Value.int .i64 1) := (hx.cell _ _ (by first | omega | (simp; done) | (simp; omega))).trans (by go_simp)
  have f12_3 : ∀ o, x12.frozen? ⟨w.heap.size + 1 + 1 + 1, o, none⟩ = false := fun o => (hx.frozen _ _ (by first | omega | (simp; done) | (simp; omega))).trans (by go_simp)
  have hz12_4 : x4.heap.size < x12.heap.size := by omega
  have c12_4_0 : x12.cell? ⟨x4.heap.size, 0, none⟩ = some (Value.int .i64 ab) := (hx.cell _ _ (by first | omega | (simp; done) | (simp; omega))).trans (by go_simp)
  have c12_4_1 : x12.cell? ⟨x4.heap.size, 1, none⟩ = some (Value.int .i64 1) := (hx.cell _ _ (by first | omega | (simp; done) | (simp; omega))).trans (by go_simp)
  have f12_4 : ∀ o, x12.frozen? ⟨x4.heap.size, o, none⟩ = false := fun o => (hx.frozen _ _ (by first | omega | (simp; done) | (simp; omega))).trans (by go_simp)
  have hz12_5 : x5.heap.size < x12.heap.size := by omega
  have c12_5_0 : x12.cell? ⟨x5.heap.size, 0, none⟩ = some (Value.int .i64 ab) := (hx.cell _ _ (by first | omega | (simp; done) | (simp; omega))).trans (by go_simp)
  have c12_5_1 : x12.cell? ⟨x5.heap.size, 1, none⟩ = some (Value.int .i64 1) := (hx.cell _ _ (by first | omega | (simp; done) | (simp; omega))).trans (by go_simp)
  have f12_5 : ∀ o, x12.frozen? ⟨x5.heap.size, o, none⟩ = false := fun o => (hx.frozen _ _ (by first | omega | (simp; done) | (simp; omega))).trans (by go_simp)
  have hz12_6 : x6.heap.size < x12.heap.size := by omega
  have c12_6_0 : x12.cell? ⟨x6.heap.size, 0, none⟩ = some (Value.int .i64 xy) := (hx.cell _ _ (by first | omega | (simp; done) | (simp; omega))).trans (by go_simp)
  have c12_6_1 : x12.cell? ⟨x6.heap.size, 1, none⟩ = some (Value.int .i64 1) := (hx.cell _ _ (by first | omega | (simp; done) | (simp; omega))).trans (by go_simp)
  have f12_6 : ∀ o, x12.frozen? ⟨x6.heap.size, o, none⟩ = false := fun o => (hx.frozen _ _ (by first | omega | (simp; done) | (simp; omega))).trans (by go_simp)
  have hz12_7 : x7.heap.size < x12.heap.size := by omega
  have c12_7_0 : x12.cell? ⟨x7.heap.size, 0, none⟩ = some (Value.int .i64 xy) := (hx.cell _ _ (by first | omega | (simp; done) | (simp; omega))).trans (by go_simp)
  have c12_7_1 : x12.cell? ⟨x7.heap.size, 1, none⟩ = some (Value.int .i64 1) := (hx.cell _ _ (by first | omega | (simp; done) | (simp; omega))).trans (by go_simp)
  have f12_7 : ∀ o, x12.frozen? ⟨x7.heap.size, o, none⟩ = false := fun o => (hx.frozen _ _ (by first | omega | (simp; done) | (simp; omega))).trans (by go_simp)
  have hz12_8 : x8.heap.size < x12.heap.size := by omega
  have c12_8_0 : x12.cell? ⟨x8.heap.size, 0, none⟩ = some (Value.int .i64 lf) := (hx.cell _ _ (by first | omega | (simp; done) | (simp; omega))).trans (by go_simp)
  have c12_8_1 : x12.cell? ⟨x8.heap.size, 1, none⟩ = some (Value.int .i64 1) := (hx.cell _ _ (by first | omega | (simp; done) | (simp; omega))).trans (by go_simp)
  have f12_8 : ∀ o, x12.frozen? ⟨x8.heap.size, o, none⟩ = false := fun o => (hx.frozen _ _ (by first | omega | (simp; done) | (simp; omega))).trans (by go_simp)
  have hz12_9 : x9.heap.size < x12.heap.size := by omega
  have c12_9_0 : x12.cell? ⟨x9.heap.size, 0, none⟩ = some (Value.int .i64 bc) := (hx.cell _ _ (by first | omega | (simp; done) | (simp; omega))).trans (by go_simp)
  have c12_9_1 : x12.cell? ⟨x9.heap.size, 1, none⟩ = some (Value.int .i64 1) := (hx.cell _ _ (by first | omega | (simp; done) | (simp; omega))).trans (by go_simp)
  have f12_9 : ∀ o, x12.frozen? ⟨x9.heap.size, o, none⟩ = false := fun o => (hx.frozen _ _ (by first | omega | (simp; done) | (simp; omega))).trans (by go_simp)
  have hz12_10 : x10.heap.size < x12.heap.size := by omega
  have c12_10_0 : x12.cell? ⟨x10.heap.size, 0, none⟩ = some (Value.int .i64 lf) := (hx.cell _ _ (by first | omega | (simp; done) | (simp; omega))).trans (by go_simp)
  have c12_10_1 : x12.cell? ⟨x10.heap.size, 1, none⟩ = some (Value.int .i64 1) := (hx.cell _ _ (by first | omega | (simp; done) | (simp; omega))).trans (by go_simp)
  have f12_10 : ∀ o, x12.frozen? ⟨x10.heap.size, o, none⟩ = false := fun o => (hx.frozen _ _ (by first | omega | (simp; done) | (simp; omega))).trans (by go_simp)
  have hz12_11 : x11.heap.size < x12.heap.size := by omega
  have c12_11_0 : x12.cell? ⟨x11.heap.size, 0, none⟩ = some (Value.int .i64 n1) := (hx.cell _ _ (by first | omega | (simp; done) | (simp; omega))).trans (by go_simp)
  have c12_11_1 : x12.cell? ⟨x11.heap.size, 1, none⟩ = some (Value.int .i64 1) := (hx.cell _ _ (by first | omega | (simp; done) | (simp; omega))).trans (by go_simp)
  have f12_11 : ∀ o, x12.frozen? ⟨x11.heap.size, o, none⟩ = false := fun o => (hx.frozen _ _ (by first | omega | (simp; done) | (simp; omega))).trans (by go_simp)
  replace HU := Lib.hid (Up.trans (by repeat (first | exact HU.out | refine Up.setCell ?_ (by first | omega | (simp; done) | (simp; omega)) _ | refine Up.alloc ?_ _)) hx : Up w x12)
  clear c11_0_0 c11_0_1 c11_0_2 c11_0_3 c11_0_4 f11_0 c11_1_0 c11_1_1 f11_1 c11_2_0 c11_2_1 f11_2 c11_3_0 c11_3_1 f11_3 c11_4_0 c11_4_1 f11_4 c11_5_0 c11_5_1 f11_5 c11_6_0 c11_6_1 f11_6 c11_7_0 c11_7_1 f11_7 c11_8_0 c11_8_1 f11_8 c11_9_0 c11_9_1 f11_9 c11_10_0 c11_10_1 f11_10
  clear hx hsz
  go_wp2
  go_ret
  exact ⟨rfl, (by repeat (first | exact HU.out | refine Up.drewN _ ?_ | refine Up.setCell ?_ (by first | omega | (simp; done) | (simp; omega)) _ | refine Up.alloc ?_ _))⟩

end Go.Proofs.Ytknojjmbhbbcmaa.fixedGroup
