/-
  Contracts of chapter 3: the operations, on both sides. Printed by mk03f.py.
-/
import Derived.Test.YtknojjmbhbbcmaaFixE
namespace Go.Proofs.Ytknojjmbhbbcmaa
open Go.ChangeShapes Go.WideShapes Go.ChangeAt Go.RowKit
set_option linter.unusedVariables false
set_option linter.unusedSimpArgs false

theorem divR_bd (n d how q e : Int) (h : divR n d how = (q, e)) : -mag n ≤ q ∧ q ≤ mag n := by
  have hm := mag_nonneg n
  by_cases hd : d = 0
  · unfold divR at h
    rw [if_pos hd] at h
    split at h <;> (simp only [Prod.mk.injEq] at h; omega)
  · have hd1 : 1 ≤ mag d := by unfold mag; split <;> omega
    have := rnd_bd (mag n) (mag d) (decide (n < 0) != decide (d < 0)) how hm hd1
    unfold divR at h
    repeat' (split at h)
    all_goals (simp only [Prod.mk.injEq] at h; omega)
theorem mag_neg (n : Int) : mag (-n) = mag n := by unfold mag; split <;> split <;> omega
theorem rnd_zero (b : Int) (neg : Bool) (how : Int) : rnd 0 b neg how = 0 := by unfold rnd; simp
theorem divR_neg (n d how : Int) : divR n d how = divR (-n) (-d) how := by
  unfold divR
  rw [mag_neg, mag_neg]
  by_cases hd : d = 0
  · subst hd; simp
  · by_cases hn : n = 0
    · subst hn
      have h0 : mag 0 = 0 := rfl
      have hd2 : ¬ (-d = 0) := by omega
      simp [hd, hd2, h0, rnd_zero]
    · have hd2 : ¬ (-d = 0) := by omega
      have e1 : decide (-n < 0) = !decide (n < 0) := by rw [Bool.eq_iff_iff]; simp; omega
      have e2 : decide (-d < 0) = !decide (d < 0) := by rw [Bool.eq_iff_iff]; simp; omega
      rw [e1, e2, if_neg hd, if_neg hd2]
      simp
theorem ap_bad {c e m : Int} (h : c ≠ 0) : apX c e m = 0 ∧ apD c e = 0 ∧ apE c e = c := by simp [apX, apD, apE, h]
theorem ap_ok (m : Int) : apX 0 0 m = m ∧ apD 0 0 = 1 ∧ apE 0 0 = 0 := by simp [apX, apD, apE]
theorem ap_err {e m : Int} (h : e ≠ 0) : apX 0 e m = 0 ∧ apD 0 e = 0 ∧ apE 0 e = e := by simp [apX, apD, apE, h]
theorem ops_ok {k b f r o n1 d1 n2 d2 : Int} (h : chkE k b f r o [(n1, d1), (n2, d2)] = 0) : (k = 2 ∧ 2 ≤ b ∧ b ≤ 31 ∧ 0 ≤ f ∧ f ≤ 30 ∧ 1 ≤ r ∧ r ≤ 4 ∧ (o = 1 ∨ o = 2)) ∧ -1073741824 ≤ n1 ∧ n1 ≤ 1073741823 ∧ -1073741824 ≤ n2 ∧ n2 ≤ 1073741823 := by
  obtain ⟨ht, hv⟩ := chk_zero h
  have s := vT_spec ht
  obtain ⟨_, a1, a2⟩ := vV_spec s.2.1 s.2.2.1 (hv (n1, d1) (by simp))
  obtain ⟨_, a3, a4⟩ := vV_spec s.2.1 s.2.2.1 (hv (n2, d2) (by simp))
  exact ⟨s, a1, a2, a3, a4⟩
theorem prod_bd (n1 n2 : Int) (a1 : -1073741824 ≤ n1) (a2 : n1 ≤ 1073741824) (a3 : -1073741824 ≤ n2) (a4 : n2 ≤ 1073741824) : -1152921504606846976 ≤ n1 * n2 ∧ n1 * n2 ≤ 1152921504606846976 := by
  by_cases h : 0 ≤ n2
  · have := mul_bd n1 n2 1073741824 1073741824 a1 a2 (by omega) h a4; omega
  · have := mul_bd n1 (-n2) 1073741824 1073741824 a1 a2 (by omega) (by omega) (by omega)
    rw [Int.mul_neg] at this; omega
theorem mag_le {n M : Int} (h1 : -M ≤ n) (h2 : n ≤ M) : mag n ≤ M := by unfold mag; split <;> omega

set_option maxHeartbeats 2000000 in
theorem fixed_Add (k b f r o n1 d1 n2 d2 c q e m : Int) (hc : chkE k b f r o [(n1, d1), (n2, d2)] = c) (hq : (n1 + n2, 0) = (q, e)) (hm : fitN q b o = m) (w : World) :
    Calls Try.prog 21 #[.agg #[.int .i64 k, .int .i64 b, .int .i64 f, .int .i64 r, .int .i64 o], .agg #[.int .i64 n1, .int .i64 d1], .agg #[.int .i64 n2, .int .i64 d2]] w fun e' w' => e' = .returned (.tuple #[.agg #[.int .i64 (apX c e m), .int .i64 (apD c e)], .int .i64 (apE c e)]) ∧ Up w w' := by
  have hF : c = 0 → (∀ w, Calls Try.prog 43 #[.agg #[.int .i64 k, .int .i64 b, .int .i64 f, .int .i64 r, .int .i64 o], .int .i64 n1, .int .i64 n2] w fun e' w' => e' = .returned (.tuple #[.int .i64 q, .int .i64 e]) ∧ Up w w') ∧ -4611686018427387904 ≤ q ∧ q ≤ 4611686018427387904 := fun h0 => by
    obtain ⟨⟨_, s1, s2, s3, s4, _⟩, a1, a2, a3, a4⟩ := ops_ok (hc.trans h0)
    simp only [Prod.mk.injEq] at hq
    obtain ⟨h1, rfl⟩ := hq
    exact ⟨fun w => fixed_Add1 _ _ _ _ _ _ _ _ h1 (by omega) (by omega) (by omega) (by omega) w, by omega, by omega⟩
  have HC := Lib.hid hc
  have HF := Lib.hid hF
  have HM := Lib.hid hm
  clear hc hF hm hq
  obtain ⟨x, hx⟩ : ∃ x, apX c e m = x := ⟨_, rfl⟩
  obtain ⟨y, hy⟩ : ∃ y, apD c e = y := ⟨_, rfl⟩
  obtain ⟨z, hz⟩ : ∃ z, apE c e = z := ⟨_, rfl⟩
  rw [hx, hy, hz]
  have HA : Hid (∀ w, Calls Try.prog 42 #[.agg #[.func (.func 43) #[] #[]], .agg #[.int .i64 k, .int .i64 b, .int .i64 f, .int .i64 r, .int .i64 o], .agg #[.int .i64 n1, .int .i64 d1], .agg #[.int .i64 n2, .int .i64 d2]] w fun e' w' => e' = .returned (.tuple #[.agg #[.int .i64 x, .int .i64 y], .int .i64 z]) ∧ Up w w') := Lib.hid (fun w => by
    have := fixed_apply_Add k b f r o n1 d1 n2 d2 c q e m HC.out HF.out HM.out w
    rw [hx, hy, hz] at this
    exact this)
  clear hx hy hz
  go_enter Try.func21, Try.ntmps21
  go_wp2_with fail
  refine (HA.out _).mono ?_
  rintro e1 x1 ⟨rfl, hW⟩
  obtain ⟨hc, hf⟩ := hW.both
  have HW := Lib.hid hW
  clear hW
  go_wp2
  exact bodyPost_ret (v := .tuple #[.agg #[.int .i64 x, .int .i64 y], .int .i64 z]) (by simp [results, Try.results21, go_sem, *]) rfl ⟨rfl, (by repeat (first | exact Up.trans (by repeat (first | exact Up.refl _ | refine Up.alloc ?_ _)) HW.out | refine Up.setCell ?_ (by first | omega | (simp; done) | (simp; omega)) _ | refine Up.alloc ?_ _))⟩

set_option maxHeartbeats 4000000 in
theorem ref03_Add (k b f r o n1 d1 n2 d2 c q e m : Int) (hc : chkE k b f r o [(n1, d1), (n2, d2)] = c) (hq : (n1 + n2, 0) = (q, e)) (hm : fitN q b o = m) (w : World) :
    Calls Try.prog 26 #[.agg #[.int .i64 k, .int .i64 b, .int .i64 f, .int .i64 r, .int .i64 o], .agg #[.int .i64 n1, .int .i64 d1], .agg #[.int .i64 n2, .int .i64 d2]] w fun e' w' => e' = .returned (.tuple #[.agg #[.int .i64 (apX c e m), .int .i64 (apD c e)], .int .i64 (apE c e)]) ∧ Up w w' := by
  have HC := Lib.hid hc
  have HM := Lib.hid hm
  have HQ := Lib.hid hq
  clear hm hq
  by_cases h0 : c = 0
  · obtain ⟨⟨rfl, s1, s2, s3, s4, s5, s6, s7⟩, a1, a2, a3, a4⟩ := ops_ok (hc.trans h0)
    subst h0
    have HO := Lib.hid s7
    clear hc s7
    obtain ⟨rfl, rfl⟩ : n1 + n2 = q ∧ 0 = e := by have := HQ.out; simpa using this
    rw [(ap_ok m).1, (ap_ok m).2.1, (ap_ok m).2.2]
    go_enter Try.func26, Try.ntmps26
    go_wp2_with fail
    refine (ref03_check _ _ _ _ _ _ _ _ _ _ HC.out _).mono ?_
    rintro e1 x1 ⟨rfl, hW⟩
    obtain ⟨hc, hf⟩ := hW.both
    have HW := Lib.hid hW
    clear hW
    go_wp2_with fail
    refine (ref03_fit _ _ _ _ _ _ _ s1 s2 HO.out HM.out (by omega) (by omega) _).mono ?_
    rintro e2 x2 ⟨rfl, hx⟩
    replace HW := Lib.hid (HW.out.trans hx)
    clear hc hf hx
    obtain ⟨hc, hf⟩ := HW.out.both
    go_wp2
    exact bodyPost_ret (v := .tuple #[.agg #[.int .i64 m, .int .i64 1], .int .i64 0]) (by simp [results, Try.results26, go_sem, *]) rfl ⟨rfl, (by repeat (first | exact Up.trans (by repeat (first | exact Up.refl _ | refine Up.alloc ?_ _)) HW.out | refine Up.setCell ?_ (by first | omega | (simp; done) | (simp; omega)) _ | refine Up.alloc ?_ _))⟩
  · have he1 : (c == 0) = false := by simpa using h0
    have he2 : (c != 0) = true := by simpa using h0
    rw [(ap_bad (e := e) (m := m) h0).1, (ap_bad (e := e) (m := m) h0).2.1, (ap_bad (e := e) (m := m) h0).2.2]
    clear hc
    go_enter Try.func26, Try.ntmps26
    go_wp2_with fail
    refine (ref03_check _ _ _ _ _ _ _ _ _ _ HC.out _).mono ?_
    rintro e1 x1 ⟨rfl, hW⟩
    obtain ⟨hc, hf⟩ := hW.both
    have HW := Lib.hid hW
    clear hW
    go_wp2
    exact bodyPost_ret (v := .tuple #[.agg #[.int .i64 0, .int .i64 0], .int .i64 c]) (by simp [results, Try.results26, go_sem, *]) rfl ⟨rfl, (by repeat (first | exact Up.trans (by repeat (first | exact Up.refl _ | refine Up.alloc ?_ _)) HW.out | refine Up.setCell ?_ (by first | omega | (simp; done) | (simp; omega)) _ | refine Up.alloc ?_ _))⟩

set_option maxHeartbeats 2000000 in
theorem fixed_Sub (k b f r o n1 d1 n2 d2 c q e m : Int) (hc : chkE k b f r o [(n1, d1), (n2, d2)] = c) (hq : (n1 - n2, 0) = (q, e)) (hm : fitN q b o = m) (w : World) :
    Calls Try.prog 23 #[.agg #[.int .i64 k, .int .i64 b, .int .i64 f, .int .i64 r, .int .i64 o], .agg #[.int .i64 n1, .int .i64 d1], .agg #[.int .i64 n2, .int .i64 d2]] w fun e' w' => e' = .returned (.tuple #[.agg #[.int .i64 (apX c e m), .int .i64 (apD c e)], .int .i64 (apE c e)]) ∧ Up w w' := by
  have hF : c = 0 → (∀ w, Calls Try.prog 46 #[.agg #[.int .i64 k, .int .i64 b, .int .i64 f, .int .i64 r, .int .i64 o], .int .i64 n1, .int .i64 n2] w fun e' w' => e' = .returned (.tuple #[.int .i64 q, .int .i64 e]) ∧ Up w w') ∧ -4611686018427387904 ≤ q ∧ q ≤ 4611686018427387904 := fun h0 => by
    obtain ⟨⟨_, s1, s2, s3, s4, _⟩, a1, a2, a3, a4⟩ := ops_ok (hc.trans h0)
    simp only [Prod.mk.injEq] at hq
    obtain ⟨h1, rfl⟩ := hq
    exact ⟨fun w => fixed_Sub1 _ _ _ _ _ _ _ _ h1 (by omega) (by omega) (by omega) (by omega) w, by omega, by omega⟩
  have HC := Lib.hid hc
  have HF := Lib.hid hF
  have HM := Lib.hid hm
  clear hc hF hm hq
  obtain ⟨x, hx⟩ : ∃ x, apX c e m = x := ⟨_, rfl⟩
  obtain ⟨y, hy⟩ : ∃ y, apD c e = y := ⟨_, rfl⟩
  obtain ⟨z, hz⟩ : ∃ z, apE c e = z := ⟨_, rfl⟩
  rw [hx, hy, hz]
  have HA : Hid (∀ w, Calls Try.prog 42 #[.agg #[.func (.func 46) #[] #[]], .agg #[.int .i64 k, .int .i64 b, .int .i64 f, .int .i64 r, .int .i64 o], .agg #[.int .i64 n1, .int .i64 d1], .agg #[.int .i64 n2, .int .i64 d2]] w fun e' w' => e' = .returned (.tuple #[.agg #[.int .i64 x, .int .i64 y], .int .i64 z]) ∧ Up w w') := Lib.hid (fun w => by
    have := fixed_apply_Sub k b f r o n1 d1 n2 d2 c q e m HC.out HF.out HM.out w
    rw [hx, hy, hz] at this
    exact this)
  clear hx hy hz
  go_enter Try.func23, Try.ntmps23
  go_wp2_with fail
  refine (HA.out _).mono ?_
  rintro e1 x1 ⟨rfl, hW⟩
  obtain ⟨hc, hf⟩ := hW.both
  have HW := Lib.hid hW
  clear hW
  go_wp2
  exact bodyPost_ret (v := .tuple #[.agg #[.int .i64 x, .int .i64 y], .int .i64 z]) (by simp [results, Try.results23, go_sem, *]) rfl ⟨rfl, (by repeat (first | exact Up.trans (by repeat (first | exact Up.refl _ | refine Up.alloc ?_ _)) HW.out | refine Up.setCell ?_ (by first | omega | (simp; done) | (simp; omega)) _ | refine Up.alloc ?_ _))⟩

set_option maxHeartbeats 4000000 in
theorem ref03_Sub (k b f r o n1 d1 n2 d2 c q e m : Int) (hc : chkE k b f r o [(n1, d1), (n2, d2)] = c) (hq : (n1 - n2, 0) = (q, e)) (hm : fitN q b o = m) (w : World) :
    Calls Try.prog 27 #[.agg #[.int .i64 k, .int .i64 b, .int .i64 f, .int .i64 r, .int .i64 o], .agg #[.int .i64 n1, .int .i64 d1], .agg #[.int .i64 n2, .int .i64 d2]] w fun e' w' => e' = .returned (.tuple #[.agg #[.int .i64 (apX c e m), .int .i64 (apD c e)], .int .i64 (apE c e)]) ∧ Up w w' := by
  have HC := Lib.hid hc
  have HM := Lib.hid hm
  have HQ := Lib.hid hq
  clear hm hq
  by_cases h0 : c = 0
  · obtain ⟨⟨rfl, s1, s2, s3, s4, s5, s6, s7⟩, a1, a2, a3, a4⟩ := ops_ok (hc.trans h0)
    subst h0
    have HO := Lib.hid s7
    clear hc s7
    obtain ⟨rfl, rfl⟩ : n1 - n2 = q ∧ 0 = e := by have := HQ.out; simpa using this
    rw [(ap_ok m).1, (ap_ok m).2.1, (ap_ok m).2.2]
    go_enter Try.func27, Try.ntmps27
    go_wp2_with fail
    refine (ref03_check _ _ _ _ _ _ _ _ _ _ HC.out _).mono ?_
    rintro e1 x1 ⟨rfl, hW⟩
    obtain ⟨hc, hf⟩ := hW.both
    have HW := Lib.hid hW
    clear hW
    go_wp2_with fail
    refine (ref03_fit _ _ _ _ _ _ _ s1 s2 HO.out HM.out (by omega) (by omega) _).mono ?_
    rintro e2 x2 ⟨rfl, hx⟩
    replace HW := Lib.hid (HW.out.trans hx)
    clear hc hf hx
    obtain ⟨hc, hf⟩ := HW.out.both
    go_wp2
    exact bodyPost_ret (v := .tuple #[.agg #[.int .i64 m, .int .i64 1], .int .i64 0]) (by simp [results, Try.results27, go_sem, *]) rfl ⟨rfl, (by repeat (first | exact Up.trans (by repeat (first | exact Up.refl _ | refine Up.alloc ?_ _)) HW.out | refine Up.setCell ?_ (by first | omega | (simp; done) | (simp; omega)) _ | refine Up.alloc ?_ _))⟩
  · have he1 : (c == 0) = false := by simpa using h0
    have he2 : (c != 0) = true := by simpa using h0
    rw [(ap_bad (e := e) (m := m) h0).1, (ap_bad (e := e) (m := m) h0).2.1, (ap_bad (e := e) (m := m) h0).2.2]
    clear hc
    go_enter Try.func27, Try.ntmps27
    go_wp2_with fail
    refine (ref03_check _ _ _ _ _ _ _ _ _ _ HC.out _).mono ?_
    rintro e1 x1 ⟨rfl, hW⟩
    obtain ⟨hc, hf⟩ := hW.both
    have HW := Lib.hid hW
    clear hW
    go_wp2
    exact bodyPost_ret (v := .tuple #[.agg #[.int .i64 0, .int .i64 0], .int .i64 c]) (by simp [results, Try.results27, go_sem, *]) rfl ⟨rfl, (by repeat (first | exact Up.trans (by repeat (first | exact Up.refl _ | refine Up.alloc ?_ _)) HW.out | refine Up.setCell ?_ (by first | omega | (simp; done) | (simp; omega)) _ | refine Up.alloc ?_ _))⟩

set_option maxHeartbeats 2000000 in
theorem fixed_Neg (k b f r o n1 d1 c q e m : Int) (hc : chkE k b f r o [(n1, d1), (n1, d1)] = c) (hq : (-n1, 0) = (q, e)) (hm : fitN q b o = m) (w : World) :
    Calls Try.prog 31 #[.agg #[.int .i64 k, .int .i64 b, .int .i64 f, .int .i64 r, .int .i64 o], .agg #[.int .i64 n1, .int .i64 d1]] w fun e' w' => e' = .returned (.tuple #[.agg #[.int .i64 (apX c e m), .int .i64 (apD c e)], .int .i64 (apE c e)]) ∧ Up w w' := by
  have hF : c = 0 → (∀ w, Calls Try.prog 50 #[.agg #[.int .i64 k, .int .i64 b, .int .i64 f, .int .i64 r, .int .i64 o], .int .i64 n1, .int .i64 n1] w fun e' w' => e' = .returned (.tuple #[.int .i64 q, .int .i64 e]) ∧ Up w w') ∧ -4611686018427387904 ≤ q ∧ q ≤ 4611686018427387904 := fun h0 => by
    obtain ⟨⟨_, s1, s2, s3, s4, _⟩, a1, a2, a3, a4⟩ := ops_ok (hc.trans h0)
    simp only [Prod.mk.injEq] at hq
    obtain ⟨h1, rfl⟩ := hq
    exact ⟨fun w => fixed_Neg1 _ _ _ _ _ _ _ _ h1 (by omega) (by omega) (by omega) (by omega) w, by omega, by omega⟩
  have HC := Lib.hid hc
  have HF := Lib.hid hF
  have HM := Lib.hid hm
  clear hc hF hm hq
  obtain ⟨x, hx⟩ : ∃ x, apX c e m = x := ⟨_, rfl⟩
  obtain ⟨y, hy⟩ : ∃ y, apD c e = y := ⟨_, rfl⟩
  obtain ⟨z, hz⟩ : ∃ z, apE c e = z := ⟨_, rfl⟩
  rw [hx, hy, hz]
  have HA : Hid (∀ w, Calls Try.prog 42 #[.agg #[.func (.func 50) #[] #[]], .agg #[.int .i64 k, .int .i64 b, .int .i64 f, .int .i64 r, .int .i64 o], .agg #[.int .i64 n1, .int .i64 d1], .agg #[.int .i64 n1, .int .i64 d1]] w fun e' w' => e' = .returned (.tuple #[.agg #[.int .i64 x, .int .i64 y], .int .i64 z]) ∧ Up w w') := Lib.hid (fun w => by
    have := fixed_apply_Neg k b f r o n1 d1 n1 d1 c q e m HC.out HF.out HM.out w
    rw [hx, hy, hz] at this
    exact this)
  clear hx hy hz
  go_enter Try.func31, Try.ntmps31
  go_wp2_with fail
  refine (HA.out _).mono ?_
  rintro e1 x1 ⟨rfl, hW⟩
  obtain ⟨hc, hf⟩ := hW.both
  have HW := Lib.hid hW
  clear hW
  go_wp2
  exact bodyPost_ret (v := .tuple #[.agg #[.int .i64 x, .int .i64 y], .int .i64 z]) (by simp [results, Try.results31, go_sem, *]) rfl ⟨rfl, (by repeat (first | exact Up.trans (by repeat (first | exact Up.refl _ | refine Up.alloc ?_ _)) HW.out | refine Up.setCell ?_ (by first | omega | (simp; done) | (simp; omega)) _ | refine Up.alloc ?_ _))⟩

set_option maxHeartbeats 4000000 in
theorem ref03_Neg (k b f r o n1 d1 c q e m : Int) (hc : chkE k b f r o [(n1, d1), (n1, d1)] = c) (hq : (-n1, 0) = (q, e)) (hm : fitN q b o = m) (w : World) :
    Calls Try.prog 32 #[.agg #[.int .i64 k, .int .i64 b, .int .i64 f, .int .i64 r, .int .i64 o], .agg #[.int .i64 n1, .int .i64 d1]] w fun e' w' => e' = .returned (.tuple #[.agg #[.int .i64 (apX c e m), .int .i64 (apD c e)], .int .i64 (apE c e)]) ∧ Up w w' := by
  have HC := Lib.hid hc
  have HM := Lib.hid hm
  have HQ := Lib.hid hq
  clear hm hq
  by_cases h0 : c = 0
  · obtain ⟨⟨rfl, s1, s2, s3, s4, s5, s6, s7⟩, a1, a2, a3, a4⟩ := ops_ok (hc.trans h0)
    subst h0
    have HO := Lib.hid s7
    clear hc s7
    obtain ⟨rfl, rfl⟩ : -n1 = q ∧ 0 = e := by have := HQ.out; simpa using this
    rw [(ap_ok m).1, (ap_ok m).2.1, (ap_ok m).2.2]
    go_enter Try.func32, Try.ntmps32
    go_wp2_with fail
    refine (ref03_check _ _ _ _ _ _ _ _ _ _ HC.out _).mono ?_
    rintro e1 x1 ⟨rfl, hW⟩
    obtain ⟨hc, hf⟩ := hW.both
    have HW := Lib.hid hW
    clear hW
    go_wp2_with fail
    refine (ref03_fit _ _ _ _ _ _ _ s1 s2 HO.out HM.out (by omega) (by omega) _).mono ?_
    rintro e2 x2 ⟨rfl, hx⟩
    replace HW := Lib.hid (HW.out.trans hx)
    clear hc hf hx
    obtain ⟨hc, hf⟩ := HW.out.both
    go_wp2
    exact bodyPost_ret (v := .tuple #[.agg #[.int .i64 m, .int .i64 1], .int .i64 0]) (by simp [results, Try.results32, go_sem, *]) rfl ⟨rfl, (by repeat (first | exact Up.trans (by repeat (first | exact Up.refl _ | refine Up.alloc ?_ _)) HW.out | refine Up.setCell ?_ (by first | omega | (simp; done) | (simp; omega)) _ | refine Up.alloc ?_ _))⟩
  · have he1 : (c == 0) = false := by simpa using h0
    have he2 : (c != 0) = true := by simpa using h0
    rw [(ap_bad (e := e) (m := m) h0).1, (ap_bad (e := e) (m := m) h0).2.1, (ap_bad (e := e) (m := m) h0).2.2]
    clear hc
    go_enter Try.func32, Try.ntmps32
    go_wp2_with fail
    refine (ref03_check _ _ _ _ _ _ _ _ _ _ HC.out _).mono ?_
    rintro e1 x1 ⟨rfl, hW⟩
    obtain ⟨hc, hf⟩ := hW.both
    have HW := Lib.hid hW
    clear hW
    go_wp2
    exact bodyPost_ret (v := .tuple #[.agg #[.int .i64 0, .int .i64 0], .int .i64 c]) (by simp [results, Try.results32, go_sem, *]) rfl ⟨rfl, (by repeat (first | exact Up.trans (by repeat (first | exact Up.refl _ | refine Up.alloc ?_ _)) HW.out | refine Up.setCell ?_ (by first | omega | (simp; done) | (simp; omega)) _ | refine Up.alloc ?_ _))⟩

set_option maxHeartbeats 2000000 in
theorem fixed_Mul (k b f r o n1 d1 n2 d2 c q e m : Int) (hc : chkE k b f r o [(n1, d1), (n2, d2)] = c) (hq : divR (n1 * n2) (2 ^ f.toNat) r = (q, e)) (hm : fitN q b o = m) (w : World) :
    Calls Try.prog 22 #[.agg #[.int .i64 k, .int .i64 b, .int .i64 f, .int .i64 r, .int .i64 o], .agg #[.int .i64 n1, .int .i64 d1], .agg #[.int .i64 n2, .int .i64 d2]] w fun e' w' => e' = .returned (.tuple #[.agg #[.int .i64 (apX c e m), .int .i64 (apD c e)], .int .i64 (apE c e)]) ∧ Up w w' := by
  have hF : c = 0 → (∀ w, Calls Try.prog 44 #[.agg #[.int .i64 k, .int .i64 b, .int .i64 f, .int .i64 r, .int .i64 o], .int .i64 n1, .int .i64 n2] w fun e' w' => e' = .returned (.tuple #[.int .i64 q, .int .i64 e]) ∧ Up w w') ∧ -4611686018427387904 ≤ q ∧ q ≤ 4611686018427387904 := fun h0 => by
    obtain ⟨⟨_, s1, s2, s3, s4, _⟩, a1, a2, a3, a4⟩ := ops_ok (hc.trans h0)
    have hp := pow30 f s3 s4
    have hb := prod_bd n1 n2 (by omega) (by omega) (by omega) (by omega)
    have hb2 := divR_bd _ _ _ _ _ hq
    have hb3 := mag_le hb.1 hb.2
    exact ⟨fun w => fixed_Mul1 _ _ _ _ _ _ _ _ _ s3 s4 hq (by omega) (by omega) (by omega) (by omega) w, by omega, by omega⟩
  have HC := Lib.hid hc
  have HF := Lib.hid hF
  have HM := Lib.hid hm
  clear hc hF hm hq
  obtain ⟨x, hx⟩ : ∃ x, apX c e m = x := ⟨_, rfl⟩
  obtain ⟨y, hy⟩ : ∃ y, apD c e = y := ⟨_, rfl⟩
  obtain ⟨z, hz⟩ : ∃ z, apE c e = z := ⟨_, rfl⟩
  rw [hx, hy, hz]
  have HA : Hid (∀ w, Calls Try.prog 42 #[.agg #[.func (.func 44) #[] #[]], .agg #[.int .i64 k, .int .i64 b, .int .i64 f, .int .i64 r, .int .i64 o], .agg #[.int .i64 n1, .int .i64 d1], .agg #[.int .i64 n2, .int .i64 d2]] w fun e' w' => e' = .returned (.tuple #[.agg #[.int .i64 x, .int .i64 y], .int .i64 z]) ∧ Up w w') := Lib.hid (fun w => by
    have := fixed_apply_Mul k b f r o n1 d1 n2 d2 c q e m HC.out HF.out HM.out w
    rw [hx, hy, hz] at this
    exact this)
  clear hx hy hz
  go_enter Try.func22, Try.ntmps22
  go_wp2_with fail
  refine (HA.out _).mono ?_
  rintro e1 x1 ⟨rfl, hW⟩
  obtain ⟨hc, hf⟩ := hW.both
  have HW := Lib.hid hW
  clear hW
  go_wp2
  exact bodyPost_ret (v := .tuple #[.agg #[.int .i64 x, .int .i64 y], .int .i64 z]) (by simp [results, Try.results22, go_sem, *]) rfl ⟨rfl, (by repeat (first | exact Up.trans (by repeat (first | exact Up.refl _ | refine Up.alloc ?_ _)) HW.out | refine Up.setCell ?_ (by first | omega | (simp; done) | (simp; omega)) _ | refine Up.alloc ?_ _))⟩

set_option maxHeartbeats 4000000 in
theorem ref03_Mul (k b f r o n1 d1 n2 d2 c q e m : Int) (hc : chkE k b f r o [(n1, d1), (n2, d2)] = c) (hq : divR (n1 * n2) (2 ^ f.toNat) r = (q, e)) (hm : fitN q b o = m) (w : World) :
    Calls Try.prog 28 #[.agg #[.int .i64 k, .int .i64 b, .int .i64 f, .int .i64 r, .int .i64 o], .agg #[.int .i64 n1, .int .i64 d1], .agg #[.int .i64 n2, .int .i64 d2]] w fun e' w' => e' = .returned (.tuple #[.agg #[.int .i64 (apX c e m), .int .i64 (apD c e)], .int .i64 (apE c e)]) ∧ Up w w' := by
  have HC := Lib.hid hc
  have HM := Lib.hid hm
  have HQ := Lib.hid hq
  clear hm hq
  by_cases h0 : c = 0
  · obtain ⟨⟨rfl, s1, s2, s3, s4, s5, s6, s7⟩, a1, a2, a3, a4⟩ := ops_ok (hc.trans h0)
    subst h0
    have HO := Lib.hid s7
    clear hc s7
    obtain ⟨p1, p2⟩ := pow30 f s3 s4
    obtain ⟨m1, m2⟩ := prod_bd n1 n2 (by omega) (by omega) (by omega) (by omega)
    have hMo : isMode r = true := by simp [isMode]; omega
    have HMo := Lib.hid hMo
    have hd := divR_pos (n1 * n2) (2 ^ f.toNat) r hMo (by omega) (by omega) (by omega)
    have hq2 := HQ.out
    rw [hd] at hq2
    simp only [Prod.mk.injEq] at hq2
    obtain ⟨hq3, rfl⟩ := hq2
    have hb := divR_bd _ _ _ _ _ hd
    have hb3 := mag_le (M := 1152921504606846976) (n := n1 * n2) (by omega) (by omega)
    have hq4 : -1152921504606846976 ≤ q := by omega
    have hq5 : q ≤ 1152921504606846976 := by omega
    have HD := Lib.hid hq3
    clear hd HQ hq3 hb hb3 hMo
    rw [(ap_ok m).1, (ap_ok m).2.1, (ap_ok m).2.2]
    go_enter Try.func28, Try.ntmps28
    go_wp2_with fail
    refine (ref03_check _ _ _ _ _ _ _ _ _ _ HC.out _).mono ?_
    rintro e1 x1 ⟨rfl, hW⟩
    obtain ⟨hc, hf⟩ := hW.both
    have HW := Lib.hid hW
    clear hW
    go_wp2_with fail
    have hz0 : w.heap.size < x1.heap.size := by have := HW.out.size; simp at this; omega
    have hz1 : w.heap.size + 1 < x1.heap.size := by have := HW.out.size; simp at this; omega
    have hz2 : w.heap.size + 1 + 1 < x1.heap.size := by have := HW.out.size; simp at this; omega
    have hz3 : w.heap.size + 1 + 1 + 1 < x1.heap.size := by have := HW.out.size; simp at this; omega
    refine wp_region_ext_tail 13 (by kernel_rfl) (by kernel_rfl) ?_
    simp only [List.take_succ_cons, List.take_zero, List.drop_succ_cons, List.drop_zero]
    repeat (go_big_quiet_step (first | (go_at_call 20; exact Calls.ext_of (ref03_Divide (n1 * n2) (2 ^ f.toNat) _ _ (by omega) (by omega) (by omega) (by omega) HMo.out HD.out _)) | (go_at_call 41; exact Calls.ext_of (ref03_fit _ _ _ _ _ _ _ s1 s2 HO.out HM.out (by omega) (by omega) _))))
    refine wpQuiet_nil ?_
    intro x2 hx
    replace HW := Lib.hid (HW.out.trans hx)
    clear hc hf hx
    obtain ⟨hc, hf⟩ := HW.out.both
    go_wp2
    exact bodyPost_ret (v := .tuple #[.agg #[.int .i64 m, .int .i64 1], .int .i64 0]) (by simp [results, Try.results28, go_sem, *]) rfl ⟨rfl, (by repeat (first | exact Up.trans (by repeat (first | exact Up.refl _ | refine Up.alloc ?_ _)) HW.out | refine Up.setCell ?_ (by first | omega | (simp; done) | (simp; omega)) _ | refine Up.alloc ?_ _))⟩
  · have he1 : (c == 0) = false := by simpa using h0
    have he2 : (c != 0) = true := by simpa using h0
    rw [(ap_bad (e := e) (m := m) h0).1, (ap_bad (e := e) (m := m) h0).2.1, (ap_bad (e := e) (m := m) h0).2.2]
    clear hc
    go_enter Try.func28, Try.ntmps28
    go_wp2_with fail
    refine (ref03_check _ _ _ _ _ _ _ _ _ _ HC.out _).mono ?_
    rintro e1 x1 ⟨rfl, hW⟩
    obtain ⟨hc, hf⟩ := hW.both
    have HW := Lib.hid hW
    clear hW
    go_wp2
    exact bodyPost_ret (v := .tuple #[.agg #[.int .i64 0, .int .i64 0], .int .i64 c]) (by simp [results, Try.results28, go_sem, *]) rfl ⟨rfl, (by repeat (first | exact Up.trans (by repeat (first | exact Up.refl _ | refine Up.alloc ?_ _)) HW.out | refine Up.setCell ?_ (by first | omega | (simp; done) | (simp; omega)) _ | refine Up.alloc ?_ _))⟩

set_option maxHeartbeats 2000000 in
theorem fixed_Div (k b f r o n1 d1 n2 d2 c q e m : Int) (hc : chkE k b f r o [(n1, d1), (n2, d2)] = c) (hq : divR (n1 * 2 ^ f.toNat) n2 r = (q, e)) (hm : fitN q b o = m) (w : World) :
    Calls Try.prog 29 #[.agg #[.int .i64 k, .int .i64 b, .int .i64 f, .int .i64 r, .int .i64 o], .agg #[.int .i64 n1, .int .i64 d1], .agg #[.int .i64 n2, .int .i64 d2]] w fun e' w' => e' = .returned (.tuple #[.agg #[.int .i64 (apX c e m), .int .i64 (apD c e)], .int .i64 (apE c e)]) ∧ Up w w' := by
  have hF : c = 0 → (∀ w, Calls Try.prog 49 #[.agg #[.int .i64 k, .int .i64 b, .int .i64 f, .int .i64 r, .int .i64 o], .int .i64 n1, .int .i64 n2] w fun e' w' => e' = .returned (.tuple #[.int .i64 q, .int .i64 e]) ∧ Up w w') ∧ -4611686018427387904 ≤ q ∧ q ≤ 4611686018427387904 := fun h0 => by
    obtain ⟨⟨_, s1, s2, s3, s4, _⟩, a1, a2, a3, a4⟩ := ops_ok (hc.trans h0)
    have hp := pow30 f s3 s4
    have hb := prod_bd n1 (2 ^ f.toNat) (by omega) (by omega) (by omega) (by omega)
    have hb2 := divR_bd _ _ _ _ _ hq
    have hb3 := mag_le hb.1 hb.2
    exact ⟨fun w => fixed_Div1 _ _ _ _ _ _ _ _ _ s3 s4 hq (by omega) (by omega) (by omega) (by omega) w, by omega, by omega⟩
  have HC := Lib.hid hc
  have HF := Lib.hid hF
  have HM := Lib.hid hm
  clear hc hF hm hq
  obtain ⟨x, hx⟩ : ∃ x, apX c e m = x := ⟨_, rfl⟩
  obtain ⟨y, hy⟩ : ∃ y, apD c e = y := ⟨_, rfl⟩
  obtain ⟨z, hz⟩ : ∃ z, apE c e = z := ⟨_, rfl⟩
  rw [hx, hy, hz]
  have HA : Hid (∀ w, Calls Try.prog 42 #[.agg #[.func (.func 49) #[] #[]], .agg #[.int .i64 k, .int .i64 b, .int .i64 f, .int .i64 r, .int .i64 o], .agg #[.int .i64 n1, .int .i64 d1], .agg #[.int .i64 n2, .int .i64 d2]] w fun e' w' => e' = .returned (.tuple #[.agg #[.int .i64 x, .int .i64 y], .int .i64 z]) ∧ Up w w') := Lib.hid (fun w => by
    have := fixed_apply_Div k b f r o n1 d1 n2 d2 c q e m HC.out HF.out HM.out w
    rw [hx, hy, hz] at this
    exact this)
  clear hx hy hz
  go_enter Try.func29, Try.ntmps29
  go_wp2_with fail
  refine (HA.out _).mono ?_
  rintro e1 x1 ⟨rfl, hW⟩
  obtain ⟨hc, hf⟩ := hW.both
  have HW := Lib.hid hW
  clear hW
  go_wp2
  exact bodyPost_ret (v := .tuple #[.agg #[.int .i64 x, .int .i64 y], .int .i64 z]) (by simp [results, Try.results29, go_sem, *]) rfl ⟨rfl, (by repeat (first | exact Up.trans (by repeat (first | exact Up.refl _ | refine Up.alloc ?_ _)) HW.out | refine Up.setCell ?_ (by first | omega | (simp; done) | (simp; omega)) _ | refine Up.alloc ?_ _))⟩

set_option maxHeartbeats 4000000 in
theorem ref03_Div (k b f r o n1 d1 n2 d2 c q e m : Int) (hc : chkE k b f r o [(n1, d1), (n2, d2)] = c) (hq : divR (n1 * 2 ^ f.toNat) n2 r = (q, e)) (hm : fitN q b o = m) (w : World) :
    Calls Try.prog 30 #[.agg #[.int .i64 k, .int .i64 b, .int .i64 f, .int .i64 r, .int .i64 o], .agg #[.int .i64 n1, .int .i64 d1], .agg #[.int .i64 n2, .int .i64 d2]] w fun e' w' => e' = .returned (.tuple #[.agg #[.int .i64 (apX c e m), .int .i64 (apD c e)], .int .i64 (apE c e)]) ∧ Up w w' := by
  have HC := Lib.hid hc
  have HM := Lib.hid hm
  have HQ := Lib.hid hq
  clear hm hq
  by_cases h0 : c = 0
  · obtain ⟨⟨rfl, s1, s2, s3, s4, s5, s6, s7⟩, a1, a2, a3, a4⟩ := ops_ok (hc.trans h0)
    subst h0
    have HO := Lib.hid s7
    clear hc s7
    obtain ⟨p1, p2⟩ := pow30 f s3 s4
    obtain ⟨m1, m2⟩ := prod_bd n1 (2 ^ f.toNat) (by omega) (by omega) (by omega) (by omega)
    have hMo : isMode r = true := by simp [isMode]; omega
    have HMo := Lib.hid hMo
    by_cases hz : n2 = 0
    · subst hz
      have hd : divR (n1 * 2 ^ f.toNat) 0 r = (0, 4) := by unfold divR; rw [if_neg (by rw [hMo]; simp), if_pos rfl]
      have hq2 := HQ.out
      rw [hd] at hq2
      simp only [Prod.mk.injEq] at hq2
      obtain ⟨rfl, rfl⟩ := hq2
      clear hd HQ hMo
      rw [(ap_err (m := m) (e := 4) (by omega)).1, (ap_err (e := 4) (m := m) (by omega)).2.1, (ap_err (e := 4) (m := m) (by omega)).2.2]
      go_enter Try.func30, Try.ntmps30
      go_wp2_with fail
      refine (ref03_check _ _ _ _ _ _ _ _ _ _ HC.out _).mono ?_
      rintro e1 x1 ⟨rfl, hW⟩
      obtain ⟨hc, hf⟩ := hW.both
      have HW := Lib.hid hW
      clear hW
      go_wp2
      exact bodyPost_ret (v := .tuple #[.agg #[.int .i64 0, .int .i64 0], .int .i64 4]) (by simp [results, Try.results30, go_sem, *]) rfl ⟨rfl, (by repeat (first | exact Up.trans (by repeat (first | exact Up.refl _ | refine Up.alloc ?_ _)) HW.out | refine Up.setCell ?_ (by first | omega | (simp; done) | (simp; omega)) _ | refine Up.alloc ?_ _))⟩
    · have hz1 : (n2 == 0) = false := by simpa using hz
      by_cases hn : n2 < 0
      · have hd := ((divR_neg (n1 * 2 ^ f.toNat) n2 r).symm ▸ divR_pos (-(n1 * 2 ^ f.toNat)) (-n2) r hMo (by omega) (by omega) (by omega) : divR (n1 * 2 ^ f.toNat) n2 r = (-(n1 * 2 ^ f.toNat) / -n2 + rcorr (-(n1 * 2 ^ f.toNat)) (-n2) r, 0))
        have hq2 := HQ.out
        rw [hd] at hq2
        simp only [Prod.mk.injEq] at hq2
        obtain ⟨hq3, rfl⟩ := hq2
        have hb := divR_bd _ _ _ _ _ hd
        have hb3 := mag_le (M := 1152921504606846976) (n := n1 * 2 ^ f.toNat) (by omega) (by omega)
        have hq4 : -1152921504606846976 ≤ q := by omega
        have hq5 : q ≤ 1152921504606846976 := by omega
        have HD := Lib.hid hq3
        clear hd HQ hq3 hb hb3 hMo
        rw [(ap_ok m).1, (ap_ok m).2.1, (ap_ok m).2.2]
        go_enter Try.func30, Try.ntmps30
        go_wp2_with fail
        refine (ref03_check _ _ _ _ _ _ _ _ _ _ HC.out _).mono ?_
        rintro e1 x1 ⟨rfl, hW⟩
        obtain ⟨hc, hf⟩ := hW.both
        have HW := Lib.hid hW
        clear hW
        go_wp2_with fail
        have hz0 : w.heap.size < x1.heap.size := by have := HW.out.size; simp at this; omega
        have hz1 : w.heap.size + 1 < x1.heap.size := by have := HW.out.size; simp at this; omega
        have hz2 : w.heap.size + 1 + 1 < x1.heap.size := by have := HW.out.size; simp at this; omega
        have hz3 : w.heap.size + 1 + 1 + 1 < x1.heap.size := by have := HW.out.size; simp at this; omega
        refine wp_region_ext_tail 7 (by kernel_rfl) (by kernel_rfl) ?_
        simp only [List.take_succ_cons, List.take_zero, List.drop_succ_cons, List.drop_zero]
        repeat (go_big_quiet_step (first | (go_at_call 20; exact Calls.ext_of (ref03_Divide (-(n1 * 2 ^ f.toNat)) (-n2) _ _ (by omega) (by omega) (by omega) (by omega) HMo.out HD.out _)) | (go_at_call 41; exact Calls.ext_of (ref03_fit _ _ _ _ _ _ _ s1 s2 HO.out HM.out (by omega) (by omega) _))))
        refine wpQuiet_nil ?_
        intro x2 hx
        replace HW := Lib.hid (HW.out.trans hx)
        clear hc hf hx
        obtain ⟨hc, hf⟩ := HW.out.both
        go_wp2
        exact bodyPost_ret (v := .tuple #[.agg #[.int .i64 m, .int .i64 1], .int .i64 0]) (by simp [results, Try.results30, go_sem, *]) rfl ⟨rfl, (by repeat (first | exact Up.trans (by repeat (first | exact Up.refl _ | refine Up.alloc ?_ _)) HW.out | refine Up.setCell ?_ (by first | omega | (simp; done) | (simp; omega)) _ | refine Up.alloc ?_ _))⟩
      · have hn1 : 1 ≤ n2 := by omega
        have hn0 : 0 ≤ n2 := by omega
        have hd := divR_pos (n1 * 2 ^ f.toNat) n2 r hMo (by omega) (by omega) (by omega)
        have hq2 := HQ.out
        rw [hd] at hq2
        simp only [Prod.mk.injEq] at hq2
        obtain ⟨hq3, rfl⟩ := hq2
        have hb := divR_bd _ _ _ _ _ hd
        have hb3 := mag_le (M := 1152921504606846976) (n := n1 * 2 ^ f.toNat) (by omega) (by omega)
        have hq4 : -1152921504606846976 ≤ q := by omega
        have hq5 : q ≤ 1152921504606846976 := by omega
        have HD := Lib.hid hq3
        clear hd HQ hq3 hb hb3 hMo
        rw [(ap_ok m).1, (ap_ok m).2.1, (ap_ok m).2.2]
        go_enter Try.func30, Try.ntmps30
        go_wp2_with fail
        refine (ref03_check _ _ _ _ _ _ _ _ _ _ HC.out _).mono ?_
        rintro e1 x1 ⟨rfl, hW⟩
        obtain ⟨hc, hf⟩ := hW.both
        have HW := Lib.hid hW
        clear hW
        go_wp2_with fail
        have hz0 : w.heap.size < x1.heap.size := by have := HW.out.size; simp at this; omega
        have hz1 : w.heap.size + 1 < x1.heap.size := by have := HW.out.size; simp at this; omega
        have hz2 : w.heap.size + 1 + 1 < x1.heap.size := by have := HW.out.size; simp at this; omega
        have hz3 : w.heap.size + 1 + 1 + 1 < x1.heap.size := by have := HW.out.size; simp at this; omega
        refine wp_region_ext_tail 7 (by kernel_rfl) (by kernel_rfl) ?_
        simp only [List.take_succ_cons, List.take_zero, List.drop_succ_cons, List.drop_zero]
        repeat (go_big_quiet_step (first | (go_at_call 20; exact Calls.ext_of (ref03_Divide (n1 * 2 ^ f.toNat) (n2) _ _ (by omega) (by omega) (by omega) (by omega) HMo.out HD.out _)) | (go_at_call 41; exact Calls.ext_of (ref03_fit _ _ _ _ _ _ _ s1 s2 HO.out HM.out (by omega) (by omega) _))))
        refine wpQuiet_nil ?_
        intro x2 hx
        replace HW := Lib.hid (HW.out.trans hx)
        clear hc hf hx
        obtain ⟨hc, hf⟩ := HW.out.both
        go_wp2
        exact bodyPost_ret (v := .tuple #[.agg #[.int .i64 m, .int .i64 1], .int .i64 0]) (by simp [results, Try.results30, go_sem, *]) rfl ⟨rfl, (by repeat (first | exact Up.trans (by repeat (first | exact Up.refl _ | refine Up.alloc ?_ _)) HW.out | refine Up.setCell ?_ (by first | omega | (simp; done) | (simp; omega)) _ | refine Up.alloc ?_ _))⟩
  · have he1 : (c == 0) = false := by simpa using h0
    have he2 : (c != 0) = true := by simpa using h0
    rw [(ap_bad (e := e) (m := m) h0).1, (ap_bad (e := e) (m := m) h0).2.1, (ap_bad (e := e) (m := m) h0).2.2]
    clear hc
    go_enter Try.func30, Try.ntmps30
    go_wp2_with fail
    refine (ref03_check _ _ _ _ _ _ _ _ _ _ HC.out _).mono ?_
    rintro e1 x1 ⟨rfl, hW⟩
    obtain ⟨hc, hf⟩ := hW.both
    have HW := Lib.hid hW
    clear hW
    go_wp2
    exact bodyPost_ret (v := .tuple #[.agg #[.int .i64 0, .int .i64 0], .int .i64 c]) (by simp [results, Try.results30, go_sem, *]) rfl ⟨rfl, (by repeat (first | exact Up.trans (by repeat (first | exact Up.refl _ | refine Up.alloc ?_ _)) HW.out | refine Up.setCell ?_ (by first | omega | (simp; done) | (simp; omega)) _ | refine Up.alloc ?_ _))⟩

end Go.Proofs.Ytknojjmbhbbcmaa
