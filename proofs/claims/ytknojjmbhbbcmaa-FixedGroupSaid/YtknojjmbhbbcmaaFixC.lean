/-
  Contracts of chapter 3: conversion from fractions, on both sides. Printed by mk03c.py.
-/
import Derived.Test.YtknojjmbhbbcmaaFixB
import Derived.Test.YtknojjmbhbbcmaaM2
import Derived.Test.YtknojjmbhbbcmaaQTail
namespace Go.Proofs.Ytknojjmbhbbcmaa
open Go.ChangeShapes Go.WideShapes Go.ChangeAt Go.RowKit
set_option linter.unusedVariables false
set_option linter.unusedSimpArgs false

/-- What FromFrac returns. -/
def fromR (k b f r o n d : Int) : Int × Int × Int :=
  if vT k b f r o = false then (0, 0, 10)
  else if validF n d = false then (0, 0, 1)
  else (fitN (n * 2 ^ f.toNat / d + rcorr (n * 2 ^ f.toNat) d r) b o, 1, 0)

theorem quantR_ok {n d f r : Int} (hv : validF n d = true) (h1 : 0 ≤ f) (h2 : f ≤ 30) (h3 : 1 ≤ r) (h4 : r ≤ 4) : quantR n d f r = (n * 2 ^ f.toNat / d + rcorr (n * 2 ^ f.toNat) d r, 0) ∧ -2305843008139952128 ≤ n * 2 ^ f.toNat ∧ n * 2 ^ f.toNat ≤ 2305843008139952128 ∧ 1 ≤ d ∧ d ≤ 2147483647 ∧ -4611686018427387904 ≤ n * 2 ^ f.toNat / d + rcorr (n * 2 ^ f.toNat) d r ∧ n * 2 ^ f.toNat / d + rcorr (n * 2 ^ f.toNat) d r ≤ 4611686018427387904 := by
  obtain ⟨v1, v2, v3, v4, v5⟩ := validF_spec hv
  have hp := pow30 f h1 h2
  have hm := mul_bd n (2 ^ f.toNat) 2147483647 1073741824 (by omega) v4 (by omega) (by omega) (by omega)
  have hM : isMode r = true := by simp [isMode]; omega
  have hq : quantR n d f r = divR (n * 2 ^ f.toNat) d r := by
    rw [quantR, if_neg]
    rw [hv, hM]; simp; omega
  refine ⟨by rw [hq, divR_pos _ _ _ hM v1 (by omega) (by omega)], by omega, by omega, v1, v2, ?_⟩
  generalize n * 2 ^ f.toNat = N at hm ⊢
  have hr : 0 ≤ rcorr N d r ∧ rcorr N d r ≤ 1 := by unfold rcorr; repeat' split <;> omega
  have a1 : -2305843008139952128 ≤ N / d := Int.le_ediv_of_mul_le (by omega) (by
    have : (2305843008139952128 : Int) * 1 ≤ 2305843008139952128 * d := Int.mul_le_mul_of_nonneg_left v1 (by omega)
    rw [Int.neg_mul]; omega)
  have a2 : N / d ≤ 2305843008139952128 := Int.ediv_le_of_le_mul (by omega) (by
    have : (2305843008139952128 : Int) * 1 ≤ 2305843008139952128 * d := Int.mul_le_mul_of_nonneg_left v1 (by omega)
    omega)
  omega

theorem fit_bd (n b o : Int) (hb : 2 ≤ b) (hb2 : b ≤ 31) : -1073741824 ≤ fitN n b o ∧ fitN n b o ≤ 1073741824 := by
  have hp := pow_bd b hb hb2
  have ht := pow_twice b hb
  rw [fitN, narrowW]
  have h1 := Int.emod_nonneg (n + 2 ^ (b.toNat - 1)) (show (2 : Int) ^ b.toNat ≠ 0 by omega)
  have h2 := Int.emod_lt_of_pos (n + 2 ^ (b.toNat - 1)) (show (0 : Int) < 2 ^ b.toNat by omega)
  repeat' split
  all_goals simp only []
  all_goals omega

theorem trip {a b c x y z : Int} (h : (a, b, c) = (x, y, z)) : x = a ∧ y = b ∧ z = c := by
  simp only [Prod.mk.injEq] at h
  omega

theorem quantEq (n d bits how q e : Int) (h : quantR n d bits how = (q, e)) (w1 : -9223372036854775808 ≤ n) (w2 : n ≤ 9223372036854775807) (w : World) :
    Calls Try.prog 38 #[.agg #[.int .i64 n, .int .i64 d], .int .i64 bits, .int .i64 how] w fun e' w' => e' = .returned (.tuple #[.int .i64 q, .int .i64 e]) ∧ Up w w' := by
  have := round_Quantize n d bits how w1 w2 w
  rw [h] at this
  exact this

set_option maxHeartbeats 2000000 in
theorem fixed_FromFrac (k b f r o n d x y e : Int) (hr : fromR k b f r o n d = (x, y, e)) (w1 : -9223372036854775808 ≤ n) (w2 : n ≤ 9223372036854775807) (w : World) :
    Calls Try.prog 17 #[.agg #[.int .i64 k, .int .i64 b, .int .i64 f, .int .i64 r, .int .i64 o], .agg #[.int .i64 n, .int .i64 d]] w fun e' w' => e' = .returned (.tuple #[.agg #[.int .i64 x, .int .i64 y], .int .i64 e]) ∧ Up w w' := by
  have HR := Lib.hid hr
  clear hr
  obtain ⟨v, hv⟩ : ∃ v, vT k b f r o = v := ⟨_, rfl⟩
  have HV := Lib.hid hv
  clear hv
  cases v
  · have HE : Hid (eT k b f r o = 10) := Lib.hid (by rw [eT, HV.out]; rfl)
    obtain ⟨rfl, rfl, rfl⟩ : x = 0 ∧ y = 0 ∧ e = 10 := by
      have := HR.out; rw [fromR, if_pos HV.out] at this; exact trip this
    clear HR
    go_enter Try.func17, Try.ntmps17
    go_wp2_with fail
    refine (fixed_ValidateType _ _ _ _ _ _ HE.out _).mono ?_
    rintro e1 x1 ⟨rfl, hW⟩
    obtain ⟨hc, hf⟩ := hW.both
    have HW := Lib.hid hW
    clear hW
    go_wp2
    exact bodyPost_ret (v := .tuple #[.agg #[.int .i64 0, .int .i64 0], .int .i64 10]) (by simp [results, Try.results17, go_sem, *]) rfl ⟨rfl, (by repeat (first | exact Up.trans (by repeat (first | exact Up.refl _ | refine Up.alloc ?_ _)) HW.out | refine Up.setCell ?_ (by first | omega | (simp; done) | (simp; omega)) _ | refine Up.alloc ?_ _))⟩
  · have HE : Hid (eT k b f r o = 0) := Lib.hid (eT_zero.2 HV.out)
    obtain ⟨rfl, s1, s2, s3, s4, s5, s6, s7⟩ := vT_spec HV.out
    obtain ⟨u, hu⟩ : ∃ u, validF n d = u := ⟨_, rfl⟩
    cases u
    · have HQ : Hid (quantR n d f r = (0, 1)) := Lib.hid (by rw [quantR, if_pos (Or.inl hu)])
      have HF := Lib.hid hu
      obtain ⟨rfl, rfl, rfl⟩ : x = 0 ∧ y = 0 ∧ e = 1 := by
        have := HR.out; rw [fromR, if_neg (by rw [HV.out]; simp), if_pos hu] at this; exact trip this
      clear HR hu s7
      go_enter Try.func17, Try.ntmps17
      go_wp2_with fail
      refine (fixed_ValidateType _ _ _ _ _ _ HE.out _).mono ?_
      rintro e1 x1 ⟨rfl, hW⟩
      obtain ⟨hc, hf⟩ := hW.both
      have HW := Lib.hid hW
      clear hW
      go_wp2_with fail
      refine (quantEq n d f r _ _ HQ.out w1 w2 _).mono ?_
      rintro e2 x2 ⟨rfl, hx⟩
      replace HW := Lib.hid (HW.out.trans hx)
      clear hc hf hx
      obtain ⟨hc, hf⟩ := HW.out.both
      go_wp2
      exact bodyPost_ret (v := .tuple #[.agg #[.int .i64 0, .int .i64 0], .int .i64 1]) (by simp [results, Try.results17, go_sem, *]) rfl ⟨rfl, (by repeat (first | exact Up.trans (by repeat (first | exact Up.refl _ | refine Up.alloc ?_ _)) HW.out | refine Up.setCell ?_ (by first | omega | (simp; done) | (simp; omega)) _ | refine Up.alloc ?_ _))⟩
    · obtain ⟨q0, q1, q2, q3, q4, q5, q6⟩ := quantR_ok hu s3 s4 s5 s6
      obtain ⟨q, hq⟩ : ∃ q, n * 2 ^ f.toNat / d + rcorr (n * 2 ^ f.toNat) d r = q := ⟨_, rfl⟩
      rw [hq] at q0 q5 q6
      have HQ := Lib.hid q0
      have HF := Lib.hid hu
      have HD := Lib.hid hq
      obtain ⟨m, hm⟩ : ∃ m, fitN q b o = m := ⟨_, rfl⟩
      obtain ⟨rfl, rfl, rfl⟩ : x = m ∧ y = 1 ∧ e = 0 := by
        have := HR.out; rw [fromR, if_neg (by rw [HV.out]; simp), if_neg (by rw [hu]; simp), hq, hm] at this; exact trip this
      have HM := Lib.hid hm
      have HO := Lib.hid s7
      have hMo : Hid (isMode r = true) := Lib.hid (by simp [isMode]; omega)
      obtain ⟨p1, p2⟩ := pow30 f s3 s4
      clear HR hu q0 hq hm s7
      go_enter Try.func17, Try.ntmps17
      go_wp2_with fail
      refine (fixed_ValidateType _ _ _ _ _ _ HE.out _).mono ?_
      rintro e1 x1 ⟨rfl, hW⟩
      obtain ⟨hc, hf⟩ := hW.both
      have HW := Lib.hid hW
      clear hW
      go_wp2_with fail
      refine (quantEq n d f r _ _ HQ.out w1 w2 _).mono ?_
      rintro e2 x2 ⟨rfl, hx⟩
      replace HW := Lib.hid (HW.out.trans hx)
      clear hc hf hx
      obtain ⟨hc, hf⟩ := HW.out.both
      go_wp2_with fail
      refine (frac_Valid n d true HF.out w1 w2 _).mono ?_
      rintro e3 x3 ⟨rfl, hx⟩
      replace HW := Lib.hid (HW.out.trans hx)
      clear hc hf hx
      obtain ⟨hc, hf⟩ := HW.out.both
      go_wp2_with fail
      refine (fixed_narrow _ _ _ _ _ _ _ HM.out (by omega) (by omega) _).mono ?_
      rintro e4 x4 ⟨rfl, hx⟩
      replace HW := Lib.hid (HW.out.trans hx)
      clear hc hf hx
      obtain ⟨hc, hf⟩ := HW.out.both
      go_wp2
      exact bodyPost_ret (v := .tuple #[.agg #[.int .i64 x, .int .i64 1], .int .i64 0]) (by simp [results, Try.results17, go_sem, *]) rfl ⟨rfl, (by repeat (first | exact Up.trans (by repeat (first | exact Up.refl _ | refine Up.alloc ?_ _)) HW.out | refine Up.setCell ?_ (by first | omega | (simp; done) | (simp; omega)) _ | refine Up.alloc ?_ _))⟩

set_option maxHeartbeats 2000000 in
theorem ref03_FromFrac (k b f r o n d x y e : Int) (hr : fromR k b f r o n d = (x, y, e)) (w1 : -9223372036854775808 ≤ n) (w2 : n ≤ 9223372036854775807) (w : World) :
    Calls Try.prog 18 #[.agg #[.int .i64 k, .int .i64 b, .int .i64 f, .int .i64 r, .int .i64 o], .agg #[.int .i64 n, .int .i64 d]] w fun e' w' => e' = .returned (.tuple #[.agg #[.int .i64 x, .int .i64 y], .int .i64 e]) ∧ Up w w' := by
  have HR := Lib.hid hr
  clear hr
  obtain ⟨v, hv⟩ : ∃ v, vT k b f r o = v := ⟨_, rfl⟩
  have HV := Lib.hid hv
  clear hv
  cases v
  · have HE : Hid (eT k b f r o = 10) := Lib.hid (by rw [eT, HV.out]; rfl)
    obtain ⟨rfl, rfl, rfl⟩ : x = 0 ∧ y = 0 ∧ e = 10 := by
      have := HR.out; rw [fromR, if_pos HV.out] at this; exact trip this
    clear HR
    go_enter Try.func18, Try.ntmps18
    go_wp2_with fail
    refine (ref03_ValidateType _ _ _ _ _ _ HE.out _).mono ?_
    rintro e1 x1 ⟨rfl, hW⟩
    obtain ⟨hc, hf⟩ := hW.both
    have HW := Lib.hid hW
    clear hW
    go_wp2
    exact bodyPost_ret (v := .tuple #[.agg #[.int .i64 0, .int .i64 0], .int .i64 10]) (by simp [results, Try.results18, go_sem, *]) rfl ⟨rfl, (by repeat (first | exact Up.trans (by repeat (first | exact Up.refl _ | refine Up.alloc ?_ _)) HW.out | refine Up.setCell ?_ (by first | omega | (simp; done) | (simp; omega)) _ | refine Up.alloc ?_ _))⟩
  · have HE : Hid (eT k b f r o = 0) := Lib.hid (eT_zero.2 HV.out)
    obtain ⟨rfl, s1, s2, s3, s4, s5, s6, s7⟩ := vT_spec HV.out
    obtain ⟨u, hu⟩ : ∃ u, validF n d = u := ⟨_, rfl⟩
    cases u
    · have HQ : Hid (quantR n d f r = (0, 1)) := Lib.hid (by rw [quantR, if_pos (Or.inl hu)])
      have HF := Lib.hid hu
      obtain ⟨rfl, rfl, rfl⟩ : x = 0 ∧ y = 0 ∧ e = 1 := by
        have := HR.out; rw [fromR, if_neg (by rw [HV.out]; simp), if_pos hu] at this; exact trip this
      clear HR hu s7
      go_enter Try.func18, Try.ntmps18
      go_wp2_with fail
      refine (ref03_ValidateType _ _ _ _ _ _ HE.out _).mono ?_
      rintro e1 x1 ⟨rfl, hW⟩
      obtain ⟨hc, hf⟩ := hW.both
      have HW := Lib.hid hW
      clear hW
      go_wp2_with fail
      refine (base_Val_frac _ _ _ _ _ n d false HF.out rfl rfl w1 w2 _).mono ?_
      rintro e2 x2 ⟨rfl, hx⟩
      replace HW := Lib.hid (HW.out.trans hx)
      clear hc hf hx
      obtain ⟨hc, hf⟩ := HW.out.both
      go_wp2
      exact bodyPost_ret (v := .tuple #[.agg #[.int .i64 0, .int .i64 0], .int .i64 1]) (by simp [results, Try.results18, go_sem, *]) rfl ⟨rfl, (by repeat (first | exact Up.trans (by repeat (first | exact Up.refl _ | refine Up.alloc ?_ _)) HW.out | refine Up.setCell ?_ (by first | omega | (simp; done) | (simp; omega)) _ | refine Up.alloc ?_ _))⟩
    · obtain ⟨q0, q1, q2, q3, q4, q5, q6⟩ := quantR_ok hu s3 s4 s5 s6
      obtain ⟨q, hq⟩ : ∃ q, n * 2 ^ f.toNat / d + rcorr (n * 2 ^ f.toNat) d r = q := ⟨_, rfl⟩
      rw [hq] at q0 q5 q6
      have HQ := Lib.hid q0
      have HF := Lib.hid hu
      have HD := Lib.hid hq
      obtain ⟨m, hm⟩ : ∃ m, fitN q b o = m := ⟨_, rfl⟩
      obtain ⟨rfl, rfl, rfl⟩ : x = m ∧ y = 1 ∧ e = 0 := by
        have := HR.out; rw [fromR, if_neg (by rw [HV.out]; simp), if_neg (by rw [hu]; simp), hq, hm] at this; exact trip this
      have HM := Lib.hid hm
      have HO := Lib.hid s7
      have hMo : Hid (isMode r = true) := Lib.hid (by simp [isMode]; omega)
      obtain ⟨p1, p2⟩ := pow30 f s3 s4
      clear HR hu q0 hq hm s7
      go_enter Try.func18, Try.ntmps18
      go_wp2_with fail
      refine (ref03_ValidateType _ _ _ _ _ _ HE.out _).mono ?_
      rintro e1 x1 ⟨rfl, hW⟩
      obtain ⟨hc, hf⟩ := hW.both
      have HW := Lib.hid hW
      clear hW
      go_wp2_with fail
      refine (base_Val_frac _ _ _ _ _ n d true HF.out rfl rfl w1 w2 _).mono ?_
      rintro e2 x2 ⟨rfl, hx⟩
      replace HW := Lib.hid (HW.out.trans hx)
      clear hc hf hx
      obtain ⟨hc, hf⟩ := HW.out.both
      go_wp2_with fail
      have hz0 : w.heap.size < x2.heap.size := by have := HW.out.size; simp at this; omega
      have hz1 : w.heap.size + 1 < x2.heap.size := by have := HW.out.size; simp at this; omega
      have hz2 : w.heap.size + 1 + 1 < x2.heap.size := by have := HW.out.size; simp at this; omega
      refine wp_region_ext_tail 12 (by kernel_rfl) (by kernel_rfl) ?_
      simp only [List.take_succ_cons, List.take_zero, List.drop_succ_cons, List.drop_zero]
      repeat (go_big_quiet_step (first | (go_at_call 20; exact Calls.ext_of (ref03_Divide _ _ _ _ q3 (by omega) (by omega) (by omega) hMo.out HD.out _)) | (go_at_call 41; exact Calls.ext_of (ref03_fit _ _ _ _ _ _ _ s1 s2 HO.out HM.out (by omega) (by omega) _))))
      refine wpQuiet_nil ?_
      intro x3 hx
      replace HW := Lib.hid (HW.out.trans hx)
      clear hc hf hx
      obtain ⟨hc, hf⟩ := HW.out.both
      go_wp2
      exact bodyPost_ret (v := .tuple #[.agg #[.int .i64 x, .int .i64 1], .int .i64 0]) (by simp [results, Try.results18, go_sem, *]) rfl ⟨rfl, (by repeat (first | exact Up.trans (by repeat (first | exact Up.refl _ | refine Up.alloc ?_ _)) HW.out | refine Up.setCell ?_ (by first | omega | (simp; done) | (simp; omega)) _ | refine Up.alloc ?_ _))⟩

end Go.Proofs.Ytknojjmbhbbcmaa
