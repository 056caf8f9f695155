/-
  Contracts of chapter 3: conversion to fractions, the step of a type. Printed by mk03g.py.
-/
import Derived.Test.YtknojjmbhbbcmaaFixE
import Derived.Test.YtknojjmbhbbcmaaBox
namespace Go.Proofs.Ytknojjmbhbbcmaa
open Go.ChangeShapes Go.WideShapes Go.ChangeAt Go.RowKit
set_option linter.unusedVariables false
set_option linter.unusedSimpArgs false

def halve : Nat → Int → Int × Int
  | 0, n => (n, 1)
  | j + 1, n => if n % 2 = 0 then halve j (n / 2) else (n, 2 ^ (j + 1))

theorem newF_twice (a b : Int) (hb : 1 ≤ b) : newF (2 * a) (2 * b) = newF a b := by
  have hg : (Int.gcd (2 * a) (2 * b) : Int) = 2 * (Int.gcd a b : Int) := by rw [Int.gcd_mul_left]; simp
  have m1 : mag (2 * a) = 2 * mag a := by unfold mag; split <;> split <;> omega
  have m2 : mag (2 * b) = 2 * mag b := by unfold mag; split <;> split <;> omega
  have hg0 : 1 ≤ (Int.gcd a b : Int) := by have := Int.gcd_pos_of_ne_zero_right a (show b ≠ 0 by omega); omega
  have e1 : decide (2 * a < 0) = decide (a < 0) := by rw [Bool.eq_iff_iff]; simp; omega
  have e2 : decide (2 * b < 0) = decide (b < 0) := by rw [Bool.eq_iff_iff]; simp; omega
  unfold newF
  rw [hg, m1, m2, e1, e2, Int.mul_ediv_mul_of_pos _ _ (by omega), Int.mul_ediv_mul_of_pos _ _ (by omega), if_neg (show ¬ 2 * b = 0 by omega), if_neg (show ¬ b = 0 by omega)]

theorem newF_cop (n d : Int) (hg : Int.gcd n d = 1) (hd : 1 ≤ d) (h1 : d ≤ 2147483647) (h2 : -2147483647 ≤ n) (h3 : n ≤ 2147483647) : newF n d = (n, d, 0) := by
  unfold newF
  rw [hg, if_neg (by omega)]
  have hm : mag n ≤ 2147483647 := by unfold mag; split <;> omega
  have hm2 : mag d = d := by unfold mag; rw [if_neg (by omega)]
  have hd0 : decide (d < 0) = false := by simp; omega
  rw [hm2, hd0]
  simp only [Int.natCast_one, Int.ediv_one]
  rw [if_neg (by omega)]
  by_cases hn : n < 0
  · simp [hn, mag]
  · simp [hn, mag]

theorem gcd_odd (n : Int) (h : n % 2 ≠ 0) (j : Nat) : Int.gcd n (2 ^ j) = 1 := by
  have h2 : Nat.Coprime n.natAbs 2 := by
    have : n.natAbs % 2 = 1 := by omega
    show Nat.gcd n.natAbs 2 = 1
    rw [Nat.gcd_comm, Nat.gcd_rec, this]; rfl
  have := Nat.Coprime.pow_right j h2
  show Nat.gcd n.natAbs ((2 : Int) ^ j).natAbs = 1
  rw [Int.natAbs_pow]; exact this

theorem halve_new : ∀ (j : Nat) (n : Int), j ≤ 30 → -1073741824 ≤ n → n ≤ 1073741824 → newF n (2 ^ j) = ((halve j n).1, (halve j n).2, 0)
  | 0, n, _, h1, h2 => by
    rw [newF_cop n (2 ^ 0) (by simp) (by simp) (by simp) (by omega) (by omega)]; simp [halve]
  | j + 1, n, hj, h1, h2 => by
    have hp := pow30 ((j + 1 : Nat) : Int) (by omega) (by omega)
    rw [Int.toNat_natCast] at hp
    unfold halve
    by_cases h : n % 2 = 0
    · rw [if_pos h, ← halve_new j (n / 2) (by omega) (by omega) (by omega), ← newF_twice (n / 2) (2 ^ j) (by have := pow30 (j : Int) (by omega) (by omega); rw [Int.toNat_natCast] at this; omega)]
      rw [show 2 * (n / 2) = n by omega, Int.pow_succ, Int.mul_comm (2 ^ j) 2]
    · rw [if_neg h, newF_cop n _ (gcd_odd n h _) (by omega) (by omega) (by omega) (by omega)]

/-- What ToFrac returns. -/
def toR (k b f r o n d : Int) : Int × Int × Int :=
  if chkE k b f r o [(n, d)] ≠ 0 then (0, 0, chkE k b f r o [(n, d)]) else ((halve f.toNat n).1, (halve f.toNat n).2, 0)

theorem chk_two (k b f r o n d : Int) : chkE k b f r o [(n, d), (n, d)] = chkE k b f r o [(n, d)] := by simp [chkE]

theorem newEq (n d x y e : Int) (h : newF n d = (x, y, e)) (w1 : -9223372036854775808 ≤ n) (w2 : n ≤ 9223372036854775807) (w3 : -9223372036854775808 ≤ d) (w4 : d ≤ 9223372036854775807) (w : World) :
    Calls Try.prog 33 #[.int .i64 n, .int .i64 d] w fun e' w' => e' = .returned (.tuple #[.agg #[.int .i64 x, .int .i64 y], .int .i64 e]) ∧ Up w w' := by
  have := frac_New n d w1 w2 w3 w4 w
  rw [h] at this
  exact this

set_option maxHeartbeats 2000000 in
theorem fixed_ToFrac (k b f r o n d x y e : Int) (hr : toR k b f r o n d = (x, y, e)) (w : World) :
    Calls Try.prog 24 #[.agg #[.int .i64 k, .int .i64 b, .int .i64 f, .int .i64 r, .int .i64 o], .agg #[.int .i64 n, .int .i64 d]] w fun e' w' => e' = .returned (.tuple #[.agg #[.int .i64 x, .int .i64 y], .int .i64 e]) ∧ Up w w' := by
  obtain ⟨c, hc⟩ : ∃ c, chkE k b f r o [(n, d)] = c := ⟨_, rfl⟩
  rw [toR, hc] at hr
  have HC := Lib.hid hc
  by_cases h0 : c = 0
  · rw [if_neg (by omega)] at hr
    subst h0
    obtain ⟨ht, hv⟩ := chk_zero hc
    obtain ⟨rfl, s1, s2, s3, s4, s5, s6, s7⟩ := vT_spec ht
    obtain ⟨rfl, a1, a2⟩ := vV_spec s1 s2 (hv (n, d) (by simp))
    have hn := halve_new f.toNat n (by omega) (by omega) (by omega)
    have hN : newF n (2 ^ f.toNat) = (x, y, e) := by rw [hn]; exact hr
    have HN := Lib.hid hN
    obtain ⟨p1, p2⟩ := pow30 f s3 s4
    clear hr hc ht hv hn hN s7
    go_enter Try.func24, Try.ntmps24
    go_wp2_with fail
    refine (fixed_check _ _ _ _ _ _ _ _ HC.out (by simp) _ (one_val _ _ _ _ _ (by simp))).mono ?_
    rintro e1 x1 ⟨rfl, hW⟩
    obtain ⟨hc, hf⟩ := hW.both
    have HW := Lib.hid hW
    clear hW
    go_wp2_with fail
    have hz0 : w.heap.size < x1.heap.size := by have := HW.out.size; simp at this; omega
    have hz1 : w.heap.size + 1 < x1.heap.size := by have := HW.out.size; simp at this; omega
    have hz2 : w.heap.size + 1 + 1 < x1.heap.size := by have := HW.out.size; simp at this; omega
    refine wp_region_ext_tail 8 (by kernel_rfl) (by kernel_rfl) ?_
    simp only [List.take_succ_cons, List.take_zero, List.drop_succ_cons, List.drop_zero]
    repeat (go_big_quiet_step (((go_at_call 33; exact Calls.ext_of (newEq _ _ _ _ _ HN.out (by omega) (by omega) (by omega) (by omega) _)))))
    refine wpQuiet_nil ?_
    intro x2 hx
    replace HW := Lib.hid (HW.out.trans hx)
    clear hc hf hx
    obtain ⟨hc, hf⟩ := HW.out.both
    go_wp2
    exact bodyPost_ret (v := .tuple #[.agg #[.int .i64 x, .int .i64 y], .int .i64 e]) (by simp [results, Try.results24, go_sem, *]) rfl ⟨rfl, (by repeat (first | exact Up.trans (by repeat (first | exact Up.refl _ | refine Up.alloc ?_ _)) HW.out | refine Up.setCell ?_ (by first | omega | (simp; done) | (simp; omega)) _ | refine Up.alloc ?_ _))⟩
  · rw [if_pos h0] at hr
    obtain ⟨rfl, rfl, rfl⟩ := trip hr
    have he1 : (e == 0) = false := by simpa using h0
    have he2 : (e != 0) = true := by simpa using h0
    clear hr hc
    go_enter Try.func24, Try.ntmps24
    go_wp2_with fail
    refine (fixed_check _ _ _ _ _ _ _ _ HC.out (by simp) _ (one_val _ _ _ _ _ (by simp))).mono ?_
    rintro e1 x1 ⟨rfl, hW⟩
    obtain ⟨hc, hf⟩ := hW.both
    have HW := Lib.hid hW
    clear hW
    go_wp2
    exact bodyPost_ret (v := .tuple #[.agg #[.int .i64 0, .int .i64 0], .int .i64 e]) (by simp [results, Try.results24, go_sem, *]) rfl ⟨rfl, (by repeat (first | exact Up.trans (by repeat (first | exact Up.refl _ | refine Up.alloc ?_ _)) HW.out | refine Up.setCell ?_ (by first | omega | (simp; done) | (simp; omega)) _ | refine Up.alloc ?_ _))⟩

set_option maxHeartbeats 2000000 in
theorem fixed_Resolution (k b f r o x y e : Int) (hr : (if vT k b f r o = false then (0, 0, 10) else (1, 2 ^ f.toNat, 0)) = (x, y, e)) (w : World) :
    Calls Try.prog 10 #[.agg #[.int .i64 k, .int .i64 b, .int .i64 f, .int .i64 r, .int .i64 o]] w fun e' w' => e' = .returned (.tuple #[.agg #[.int .i64 x, .int .i64 y], .int .i64 e]) ∧ Up w w' := by
  obtain ⟨v, hv⟩ : ∃ v, vT k b f r o = v := ⟨_, rfl⟩
  have HV := Lib.hid hv
  rw [hv] at hr
  clear hv
  cases v
  · have HE : Hid (eT k b f r o = 10) := Lib.hid (by rw [eT, HV.out]; rfl)
    rw [if_pos rfl] at hr
    obtain ⟨rfl, rfl, rfl⟩ := trip hr
    clear hr
    go_enter Try.func10, Try.ntmps10
    go_wp2_with fail
    refine (fixed_ValidateType _ _ _ _ _ _ HE.out _).mono ?_
    rintro e1 x1 ⟨rfl, hW⟩
    obtain ⟨hc, hf⟩ := hW.both
    have HW := Lib.hid hW
    clear hW
    go_wp2
    exact bodyPost_ret (v := .tuple #[.agg #[.int .i64 0, .int .i64 0], .int .i64 10]) (by simp [results, Try.results10, go_sem, *]) rfl ⟨rfl, (by repeat (first | exact Up.trans (by repeat (first | exact Up.refl _ | refine Up.alloc ?_ _)) HW.out | refine Up.setCell ?_ (by first | omega | (simp; done) | (simp; omega)) _ | refine Up.alloc ?_ _))⟩
  · have HE : Hid (eT k b f r o = 0) := Lib.hid (eT_zero.2 HV.out)
    obtain ⟨rfl, s1, s2, s3, s4, s5, s6, s7⟩ := vT_spec HV.out
    rw [if_neg (by simp)] at hr
    obtain ⟨rfl, h2, rfl⟩ := trip hr
    have h4 : newF 1 (2 ^ f.toNat) = (1, y, 0) := by
      have hp := pow30 f s3 s4
      rw [newF_cop 1 (2 ^ f.toNat) (by simp) (by omega) (by omega) (by omega) (by omega), h2]
    have HN := Lib.hid h4
    obtain ⟨p1, p2⟩ := pow30 f s3 s4
    have HY := Lib.hid h2
    clear hr h4 h2 s7
    go_enter Try.func10, Try.ntmps10
    go_wp2_with fail
    refine (fixed_ValidateType _ _ _ _ _ _ HE.out _).mono ?_
    rintro e1 x1 ⟨rfl, hW⟩
    obtain ⟨hc, hf⟩ := hW.both
    have HW := Lib.hid hW
    clear hW
    go_wp2_with fail
    refine (newEq _ _ _ _ _ HN.out (by omega) (by omega) (by omega) (by omega) _).mono ?_
    rintro e2 x2 ⟨rfl, hx⟩
    replace HW := Lib.hid (HW.out.trans hx)
    clear hc hf hx
    obtain ⟨hc, hf⟩ := HW.out.both
    go_wp2
    exact bodyPost_ret (v := .tuple #[.agg #[.int .i64 1, .int .i64 y], .int .i64 0]) (by simp [results, Try.results10, go_sem, *]) rfl ⟨rfl, (by repeat (first | exact Up.trans (by repeat (first | exact Up.refl _ | refine Up.alloc ?_ _)) HW.out | refine Up.setCell ?_ (by first | omega | (simp; done) | (simp; omega)) _ | refine Up.alloc ?_ _))⟩

set_option maxHeartbeats 2000000 in
theorem ref03_Resolution (k b f r o x y e : Int) (hr : (if vT k b f r o = false then (0, 0, 10) else (1, 2 ^ f.toNat, 0)) = (x, y, e)) (w : World) :
    Calls Try.prog 11 #[.agg #[.int .i64 k, .int .i64 b, .int .i64 f, .int .i64 r, .int .i64 o]] w fun e' w' => e' = .returned (.tuple #[.agg #[.int .i64 x, .int .i64 y], .int .i64 e]) ∧ Up w w' := by
  obtain ⟨v, hv⟩ : ∃ v, vT k b f r o = v := ⟨_, rfl⟩
  have HV := Lib.hid hv
  rw [hv] at hr
  clear hv
  cases v
  · have HE : Hid (eT k b f r o = 10) := Lib.hid (by rw [eT, HV.out]; rfl)
    rw [if_pos rfl] at hr
    obtain ⟨rfl, rfl, rfl⟩ := trip hr
    clear hr
    go_enter Try.func11, Try.ntmps11
    go_wp2_with fail
    refine (ref03_ValidateType _ _ _ _ _ _ HE.out _).mono ?_
    rintro e1 x1 ⟨rfl, hW⟩
    obtain ⟨hc, hf⟩ := hW.both
    have HW := Lib.hid hW
    clear hW
    go_wp2
    exact bodyPost_ret (v := .tuple #[.agg #[.int .i64 0, .int .i64 0], .int .i64 10]) (by simp [results, Try.results11, go_sem, *]) rfl ⟨rfl, (by repeat (first | exact Up.trans (by repeat (first | exact Up.refl _ | refine Up.alloc ?_ _)) HW.out | refine Up.setCell ?_ (by first | omega | (simp; done) | (simp; omega)) _ | refine Up.alloc ?_ _))⟩
  · have HE : Hid (eT k b f r o = 0) := Lib.hid (eT_zero.2 HV.out)
    obtain ⟨rfl, s1, s2, s3, s4, s5, s6, s7⟩ := vT_spec HV.out
    rw [if_neg (by simp)] at hr
    obtain ⟨rfl, h2, rfl⟩ := trip hr
    have h4 : newF 1 (2 ^ f.toNat) = (1, y, 0) := by
      have hp := pow30 f s3 s4
      rw [newF_cop 1 (2 ^ f.toNat) (by simp) (by omega) (by omega) (by omega) (by omega), h2]
    have HN := Lib.hid h4
    obtain ⟨p1, p2⟩ := pow30 f s3 s4
    have HY := Lib.hid h2
    clear hr h4 h2 s7
    go_enter Try.func11, Try.ntmps11
    go_wp2_with fail
    refine (ref03_ValidateType _ _ _ _ _ _ HE.out _).mono ?_
    rintro e1 x1 ⟨rfl, hW⟩
    obtain ⟨hc, hf⟩ := hW.both
    have HW := Lib.hid hW
    clear hW
    go_wp2
    exact bodyPost_ret (v := .tuple #[.agg #[.int .i64 1, .int .i64 (2 ^ f.toNat)], .int .i64 0]) (by simp [results, Try.results11, go_sem, *]) rfl ⟨by rw [HY.out], (by repeat (first | exact Up.trans (by repeat (first | exact Up.refl _ | refine Up.alloc ?_ _)) HW.out | refine Up.setCell ?_ (by first | omega | (simp; done) | (simp; omega)) _ | refine Up.alloc ?_ _))⟩

end Go.Proofs.Ytknojjmbhbbcmaa
