/-
  Contracts of chapter 3: values, narrowing, rounded division, on both sides. Printed by mk03b.py.
-/
import Derived.Test.YtknojjmbhbbcmaaFixA
namespace Go.Proofs.Ytknojjmbhbbcmaa
open Go.ChangeShapes Go.WideShapes Go.ChangeAt Go.RowKit
set_option linter.unusedVariables false
set_option linter.unusedSimpArgs false

def vTV (k b f r o n d : Int) : Bool := vT k b f r o && vV b n d

set_option maxHeartbeats 2000000 in
theorem fixed_Valid (k b f r o n d : Int) (res : Bool) (hr : vTV k b f r o n d = res) (w : World) :
    Calls Try.prog 14 #[.agg #[.int .i64 k, .int .i64 b, .int .i64 f, .int .i64 r, .int .i64 o], .agg #[.int .i64 n, .int .i64 d]] w fun e w' => e = .returned (.bool res) ∧ Up w w' := by
  have HR := Lib.hid hr
  clear hr
  have hU := ((Up.refl w).alloc (.cells #[.int .i64 k, .int .i64 b, .int .i64 f, .int .i64 r, .int .i64 o] 23)).alloc (.cells #[.int .i64 n, .int .i64 d] 25)
  obtain ⟨v, hv⟩ : ∃ v, vT k b f r o = v := ⟨_, rfl⟩
  have HV := Lib.hid hv
  clear hv
  cases v
  · have HE : Hid (eT k b f r o = 10) := Lib.hid (by rw [eT, HV.out]; rfl)
    have HN : Hid (false = res) := Lib.hid (by rw [← HR.out, vTV, HV.out]; rfl)
    clear HR
    go_enter Try.func14, Try.ntmps14
    go_wp2
    refine wp_region_ext (by kernel_rfl) (by kernel_rfl) ?_
    repeat (go_big_quiet_step (first | (go_at_call 12; exact Calls.ext_of (fixed_ValidateType _ _ _ _ _ _ HE.out _))))
    refine wpQuiet_nil ?_
    intro x hx
    go_wp2
    go_ret
    exact ⟨ret_bool HN.out, hU.trans hx⟩
  · have HE : Hid (eT k b f r o = 0) := Lib.hid (eT_zero.2 HV.out)
    obtain ⟨rfl, s1, s2, _, _, _, _, _⟩ := vT_spec HV.out
    have hp := pow_bd b s1 s2
    obtain ⟨hp1, hp2⟩ := hp
    have hMin : Hid (minW b = -(2 ^ (b.toNat - 1) : Int)) := Lib.hid (by rw [minW, if_pos ⟨s1, s2⟩])
    have hMax : Hid (maxW b = (2 ^ (b.toNat - 1) : Int) - 1) := Lib.hid (by rw [maxW, if_pos ⟨s1, s2⟩])
    obtain ⟨P, hP⟩ : ∃ P : Int, 2 ^ (b.toNat - 1) = P := ⟨_, rfl⟩
    have HN : Hid (decide (d = 1 ∧ -P ≤ n ∧ n ≤ P - 1) = res) := Lib.hid (by rw [← HR.out, vTV, HV.out, vV, hP]; rfl)
    rw [hP] at hMin hMax hp1 hp2
    clear hP HR
    by_cases h1 : d = 1
    · subst h1
      by_cases h2 : -P ≤ n
      · go_enter Try.func14, Try.ntmps14
        go_wp2
        refine wp_region_ext (by kernel_rfl) (by kernel_rfl) ?_
        repeat (go_big_quiet_step (first | (go_at_call 12; exact Calls.ext_of (fixed_ValidateType _ _ _ _ _ _ HE.out _)) | (go_at_call 35; exact Calls.ext_of (round_MinInt' _ _ hMin.out _)) | (go_at_call 36; exact Calls.ext_of (round_MaxInt' _ _ hMax.out _))))
        refine wpQuiet_nil ?_
        intro x hx
        go_wp2
        go_ret
        exact ⟨ret_bool (by rw [← HN.out]; simp <;> omega), hU.trans hx⟩
      · have h3 : decide (-P ≤ n) = false := by simpa using h2
        go_enter Try.func14, Try.ntmps14
        go_wp2
        refine wp_region_ext (by kernel_rfl) (by kernel_rfl) ?_
        repeat (go_big_quiet_step (first | (go_at_call 12; exact Calls.ext_of (fixed_ValidateType _ _ _ _ _ _ HE.out _)) | (go_at_call 35; exact Calls.ext_of (round_MinInt' _ _ hMin.out _)) | (go_at_call 36; exact Calls.ext_of (round_MaxInt' _ _ hMax.out _))))
        refine wpQuiet_nil ?_
        intro x hx
        go_wp2
        go_ret
        exact ⟨ret_bool (by rw [← HN.out]; simp <;> omega), hU.trans hx⟩
    · have h2 : (d == 1) = false := by simpa using h1
      go_enter Try.func14, Try.ntmps14
      go_wp2
      refine wp_region_ext (by kernel_rfl) (by kernel_rfl) ?_
      repeat (go_big_quiet_step (first | (go_at_call 12; exact Calls.ext_of (fixed_ValidateType _ _ _ _ _ _ HE.out _)) | (go_at_call 35; exact Calls.ext_of (round_MinInt' _ _ hMin.out _)) | (go_at_call 36; exact Calls.ext_of (round_MaxInt' _ _ hMax.out _))))
      refine wpQuiet_nil ?_
      intro x hx
      go_wp2
      go_ret
      exact ⟨ret_bool (by rw [← HN.out]; simp [h1]), hU.trans hx⟩

set_option maxHeartbeats 2000000 in
theorem base_Val_fix (b f r o n d : Int) (hb : 2 ≤ b) (hb2 : b ≤ 31) (res : Bool) (hr : vV b n d = res) (w : World) :
    Calls Try.prog 37 #[.agg #[.int .i64 2, .int .i64 b, .int .i64 f, .int .i64 r, .int .i64 o], .agg #[.int .i64 n, .int .i64 d]] w fun e w' => e = .returned (.bool res) ∧ Up w w' := by
  have hp := pow_bd b hb hb2
  rw [vV] at hr
  have HR := Lib.hid hr
  clear hr
  obtain ⟨hp1, hp2⟩ := hp
  go_enter Try.func37, Try.ntmps37
  go_wp2
  all_goals try simp only [Bool.not_eq_false', Bool.not_eq_true', bne_iff_ne, ne_eq, bne_eq_false_iff_eq, beq_iff_eq, beq_eq_false_iff_ne, decide_eq_true_eq, decide_eq_false_iff_not] at *
  all_goals
    go_ret
    exact ⟨ret_bool (by rw [← HR.out]; simp [*] <;> omega), ((Up.refl w).alloc _).alloc _⟩

set_option maxHeartbeats 2000000 in
theorem ref03_Valid (k b f r o n d : Int) (res : Bool) (hr : vTV k b f r o n d = res) (w : World) :
    Calls Try.prog 15 #[.agg #[.int .i64 k, .int .i64 b, .int .i64 f, .int .i64 r, .int .i64 o], .agg #[.int .i64 n, .int .i64 d]] w fun e w' => e = .returned (.bool res) ∧ Up w w' := by
  have HR := Lib.hid hr
  clear hr
  have hU := ((Up.refl w).alloc (.cells #[.int .i64 k, .int .i64 b, .int .i64 f, .int .i64 r, .int .i64 o] 23)).alloc (.cells #[.int .i64 n, .int .i64 d] 25)
  obtain ⟨v, hv⟩ : ∃ v, vT k b f r o = v := ⟨_, rfl⟩
  have HV := Lib.hid hv
  clear hv
  cases v
  · have HE : Hid (eT k b f r o = 10) := Lib.hid (by rw [eT, HV.out]; rfl)
    have HN : Hid (false = res) := Lib.hid (by rw [← HR.out, vTV, HV.out]; rfl)
    clear HR
    go_enter Try.func15, Try.ntmps15
    go_wp2_with (go_at_call 13; refine (ref03_ValidateType _ _ _ _ _ _ HE.out _).mono ?_; rintro e x ⟨rfl, hx⟩; obtain ⟨hc, hf⟩ := hx.both; replace hU := hU.trans hx; clear hx)
    exact bodyPost_ret (v := .bool false) (by simp [results, Try.results15, go_sem]) rfl ⟨ret_bool HN.out, hU⟩
  · have HE : Hid (eT k b f r o = 0) := Lib.hid (eT_zero.2 HV.out)
    obtain ⟨rfl, s1, s2, _, _, _, _, _⟩ := vT_spec HV.out
    have HN : Hid (vV b n d = res) := Lib.hid (by rw [← HR.out, vTV, HV.out]; rfl)
    clear HR
    go_enter Try.func15, Try.ntmps15
    go_wp2_with (first | (go_at_call 13; refine (ref03_ValidateType _ _ _ _ _ _ HE.out _).mono ?_; rintro e x ⟨rfl, hx⟩; obtain ⟨hc, hf⟩ := hx.both; replace hU := hU.trans hx; clear hx) | (go_at_call 37; refine (base_Val_fix _ _ _ _ _ _ s1 s2 _ HN.out _).mono ?_; rintro e x ⟨rfl, hx⟩; obtain ⟨hc, hf⟩ := hx.both; replace hU := hU.trans hx; clear hx))
    go_ret
    exact ⟨rfl, hU⟩

/-- The value whose raw integer is n, saturated or wrapped. -/
def fitN (n b o : Int) : Int := (narrowW n b o).1
theorem fixed_narrow (k b f r o n m : Int) (hm : fitN n b o = m) (w1 : -9223372036854775808 ≤ n) (w2 : n ≤ 9223372036854775807) (w : World) :
    Calls Try.prog 40 #[.agg #[.int .i64 k, .int .i64 b, .int .i64 f, .int .i64 r, .int .i64 o], .int .i64 n] w fun e w' => e = .returned (.agg #[.int .i64 m, .int .i64 1]) ∧ Up w w' := by
  obtain ⟨c, hc⟩ : ∃ c, narrowW n b o = (m, c) := ⟨(narrowW n b o).2, by rw [← hm]; rfl⟩
  have HC := Lib.hid hc
  clear hc hm
  have key : ∀ w, Calls Try.prog 57 #[.int .i64 n, .int .i64 b, .int .i64 o] w fun e w' => e = .returned (.tuple #[.int .i64 m, .bool c]) ∧ Up w w' := fun w => by
    have := round_Narrow n b o w1 w2 w
    rw [HC.out] at this; exact this
  have HK := Lib.hid key
  clear key
  go_enter Try.func40, Try.ntmps40
  go_wp2_with fail
  refine (HK.out _).mono ?_
  rintro e x ⟨rfl, hx⟩
  have hU : Up w x := Up.trans (by repeat (first | exact Up.refl _ | refine Up.alloc ?_ _)) hx
  obtain ⟨hc, hf⟩ := hx.both
  clear hx
  have HU := Lib.hid hU
  clear hU
  go_wp2
  exact bodyPost_ret (v := .agg #[.int .i64 m, .int .i64 1]) (by simp [results, Try.results40, go_sem, *]) rfl ⟨rfl, by repeat (first | exact HU.out | refine Up.setCell ?_ (by simp) _)⟩

theorem tdm (n d : Int) (hd : 1 ≤ d) : (0 ≤ n.tmod d → n / d = n.tdiv d ∧ n % d = n.tmod d) ∧ (n.tmod d < 0 → n / d = n.tdiv d - 1 ∧ n % d = n.tmod d + d) := by
  have h1 := Int.mul_tdiv_add_tmod n d
  have h2 := Int.mul_ediv_add_emod n d
  have h3 : n.tmod d < d := Int.tmod_lt_of_pos n (by omega)
  have h4 : -d < n.tmod d := by
    have := Int.lt_tmod_of_pos n (show 0 < d by omega); omega
  have h5 := Int.emod_nonneg n (show d ≠ 0 by omega)
  have h6 := Int.emod_lt_of_pos n (show 0 < d by omega)
  have key : ∀ x y r s : Int, d * x + r = n → d * y + s = n → -d < r - s → r - s < d → x = y := fun x y r s e1 e2 l1 l2 => by
    have : d * (y - x) = r - s := by rw [Int.mul_sub]; omega
    rcases Int.lt_trichotomy (y - x) 0 with h | h | h
    · have : d * (y - x) ≤ d * (-1) := Int.mul_le_mul_of_nonneg_left (by omega) (by omega)
      omega
    · omega
    · have : d * 1 ≤ d * (y - x) := Int.mul_le_mul_of_nonneg_left (by omega) (by omega)
      omega
  refine ⟨fun h => ?_, fun h => ?_⟩
  · have := key _ _ _ _ h2 h1 (by omega) (by omega)
    rw [this] at h2
    exact ⟨this, by omega⟩
  · have h1' : d * (n.tdiv d - 1) + (n.tmod d + d) = n := by rw [Int.mul_sub]; omega
    have := key _ _ _ _ h2 h1' (by omega) (by omega)
    rw [this] at h2
    exact ⟨this, by omega⟩

set_option maxHeartbeats 2000000 in
/-- The reference's rounded quotient. -/
theorem ref03_Divide (n d how q : Int) (hd : 1 ≤ d) (hd2 : d ≤ 4611686018427387904) (hn1 : -4611686018427387904 ≤ n) (hn2 : n ≤ 4611686018427387904) (hh : isMode how = true) (hq : n / d + rcorr n d how = q) (w : World) :
    Calls Try.prog 20 #[.int .i64 n, .int .i64 d, .int .i64 how] w fun e w' => e = .returned (.int .i64 q) ∧ Up w w' := by
  obtain ⟨hm1, hm2⟩ : 1 ≤ how ∧ how ≤ 4 := by simpa [isMode] using hh
  clear hh
  obtain ⟨t1, t2⟩ := tdm n d hd
  obtain ⟨a, ha⟩ : ∃ a, n / d = a := ⟨_, rfl⟩
  obtain ⟨m, hm⟩ : ∃ m, n % d = m := ⟨_, rfl⟩
  have hm3 : 0 ≤ m := by rw [← hm]; exact Int.emod_nonneg _ (by omega)
  have hm4 : m < d := by rw [← hm]; exact Int.emod_lt_of_pos _ (by omega)
  have ha1 : -4611686018427387904 ≤ a := by
    rw [← ha]; exact Int.le_ediv_of_mul_le (by omega) (Int.le_trans (by
      have := Int.mul_le_mul_of_nonneg_left hd (show (0 : Int) ≤ 4611686018427387904 by omega)
      rw [Int.neg_mul]; omega) hn1)
  have ha2 : a ≤ 4611686018427387904 := by
    rw [← ha]; exact Int.ediv_le_of_le_mul (by omega) (Int.le_trans hn2 (by
      have := Int.mul_le_mul_of_nonneg_left hd (show (0 : Int) ≤ 4611686018427387904 by omega)
      omega))
  obtain ⟨p, hp⟩ : ∃ p, a.tmod 2 = p := ⟨_, rfl⟩
  have hp2 : p ≠ 0 ↔ a % 2 ≠ 0 := by rw [← hp, tmod_two]; split <;> omega
  have hp3 : -1 ≤ p ∧ p ≤ 1 := by rw [← hp, tmod_two]; split <;> omega
  rw [rcorr, hm, ha] at hq
  rw [ha, hm] at t1 t2
  have HQ := Lib.hid hq
  have HP2 := Lib.hid hp2
  obtain ⟨hp3, hp4⟩ := hp3
  have hd0 : (d == 0) = false := by simp; omega
  have hd1 : d ≠ 0 := by omega
  clear hq hp2 ha hm
  by_cases hr : n.tmod d < 0
  · obtain ⟨r1, r2⟩ := t2 hr
    have u1 : n.tdiv d = a + 1 := by omega
    have u2 : n.tmod d = m - d := by omega
    have u3 : m - d < 0 := by omega
    clear r1 r2 t1 t2 hr
    go_enter Try.func20, Try.ntmps20
    go_wp2
    all_goals try simp only [Bool.not_eq_false', Bool.not_eq_true', bne_iff_ne, ne_eq, bne_eq_false_iff_eq, beq_iff_eq, beq_eq_false_iff_ne, decide_eq_true_eq, decide_eq_false_iff_not] at *
    all_goals
      go_ret
      exact ⟨ret_int (by have := HQ.out; have := HP2.out; repeat' (split at *) <;> omega), Up.refl _⟩
  · obtain ⟨r1, r2⟩ := t1 (by omega)
    have u1 : n.tdiv d = a := by omega
    have u2 : n.tmod d = m := by omega
    clear r1 r2 t1 t2 hr
    go_enter Try.func20, Try.ntmps20
    go_wp2
    all_goals try simp only [Bool.not_eq_false', Bool.not_eq_true', bne_iff_ne, ne_eq, bne_eq_false_iff_eq, beq_iff_eq, beq_eq_false_iff_ne, decide_eq_true_eq, decide_eq_false_iff_not] at *
    all_goals
      go_ret
      exact ⟨ret_int (by have := HQ.out; have := HP2.out; repeat' (split at *) <;> omega), Up.refl _⟩

set_option maxHeartbeats 2000000 in
theorem ref03_fit (k b f r o n m : Int) (hb : 2 ≤ b) (hb2 : b ≤ 31) (ho : o = 1 ∨ o = 2) (hm : fitN n b o = m) (w1 : -4611686018427387904 ≤ n) (w2 : n ≤ 4611686018427387904) (w : World) :
    Calls Try.prog 41 #[.agg #[.int .i64 k, .int .i64 b, .int .i64 f, .int .i64 r, .int .i64 o], .int .i64 n] w fun e w' => e = .returned (.agg #[.int .i64 m, .int .i64 1]) ∧ Up w w' := by
  obtain ⟨hp1, hp2⟩ := pow_bd b hb hb2
  have HT := pow_twice b hb
  rw [fitN, narrowW, if_neg (by omega), HT] at hm
  have t := tdm (n + 2 ^ (b.toNat - 1)) (2 * 2 ^ (b.toNat - 1)) (by omega)
  obtain ⟨R, hR⟩ : ∃ R, (n + 2 ^ (b.toNat - 1)).tmod (2 * 2 ^ (b.toNat - 1)) = R := ⟨_, rfl⟩
  obtain ⟨M, hM⟩ : ∃ M, (n + 2 ^ (b.toNat - 1)) % (2 * 2 ^ (b.toNat - 1)) = M := ⟨_, rfl⟩
  have hM1 : 0 ≤ M := by rw [← hM]; exact Int.emod_nonneg _ (by omega)
  have hM2 : M < 2 * 2 ^ (b.toNat - 1) := by rw [← hM]; exact Int.emod_lt_of_pos _ (by omega)
  rw [hR, hM] at t
  rw [hM] at hm
  have hR1 : R < 2 * 2 ^ (b.toNat - 1) := by rw [← hR]; exact Int.tmod_lt_of_pos _ (by omega)
  have hR2 : -(2 * 2 ^ (b.toNat - 1)) < R := by
    have := Int.lt_tmod_of_pos (n + 2 ^ (b.toNat - 1)) (show (0 : Int) < 2 * 2 ^ (b.toNat - 1) by omega); omega
  have ht1 : 0 ≤ R → M = R := fun h => (t.1 h).2
  have ht2 : R < 0 → M = R + 2 * 2 ^ (b.toNat - 1) := fun h => (t.2 h).2
  have T1 := Lib.hid ht1
  have T2 := Lib.hid ht2
  have HM := Lib.hid hm
  have hz : (2 * 2 ^ (b.toNat - 1) == (0 : Int)) = false := by simp; try omega
  have hz2 : ¬ (2 * 2 ^ (b.toNat - 1) = (0 : Int)) := by omega
  clear HT t ht1 ht2 hm hM
  have e1 : -(2 : Int) ^ (b.toNat - 1) = -(2 ^ (b.toNat - 1)) := rfl
  by_cases c1 : -(2 : Int) ^ (b.toNat - 1) ≤ n ∧ n ≤ 2 ^ (b.toNat - 1) - 1
  · have HE : Hid (m = n) := Lib.hid (by rw [← HM.out, if_pos c1])
    obtain ⟨c1, c2⟩ := c1
    have c3 : n < 2 ^ (b.toNat - 1) := by omega
    clear HM T1 T2 e1
    go_enter Try.func41, Try.ntmps41
    go_wp2
    refine bodyPost_ret (v := .agg #[.int .i64 (n), .int .i64 1]) (by simp [results, Try.results41, go_sem]) rfl ⟨by rw [HE.out], by repeat (first | exact Up.refl w | refine Up.alloc ?_ _ | refine Up.setCell ?_ (by simp) _)⟩
  · by_cases h2 : n < -(2 : Int) ^ (b.toNat - 1)
    all_goals rcases ho with rfl | rfl
    · have HE : Hid (m = -(2 : Int) ^ (b.toNat - 1)) := Lib.hid (by rw [← HM.out, if_neg c1, if_pos rfl, if_pos h2])
      have h3 : n < 0 := by omega
      clear HM T1 T2 c1 e1
      go_enter Try.func41, Try.ntmps41
      go_wp2
      refine bodyPost_ret (v := .agg #[.int .i64 (-2 ^ (b.toNat - 1)), .int .i64 1]) (by simp [results, Try.results41, go_sem]) rfl ⟨by rw [HE.out], by repeat (first | exact Up.refl w | refine Up.alloc ?_ _ | refine Up.setCell ?_ (by simp) _)⟩
    · by_cases hr : R < 0
      · have HE : Hid (m = R + 2 * 2 ^ (b.toNat - 1) - 2 ^ (b.toNat - 1)) := Lib.hid (by rw [← HM.out, if_neg c1, if_neg (by omega), T2.out hr])
        clear HM T1 T2 c1 e1
        go_enter Try.func41, Try.ntmps41
        go_wp2
        refine bodyPost_ret (v := .agg #[.int .i64 (R + 2 * 2 ^ (b.toNat - 1) - 2 ^ (b.toNat - 1)), .int .i64 1]) (by simp [results, Try.results41, go_sem]) rfl ⟨by rw [HE.out], by repeat (first | exact Up.refl w | refine Up.alloc ?_ _ | refine Up.setCell ?_ (by simp) _)⟩
      · have hr2 : 0 ≤ R := by omega
        have HE : Hid (m = R - 2 ^ (b.toNat - 1)) := Lib.hid (by rw [← HM.out, if_neg c1, if_neg (by omega), T1.out hr2])
        clear HM T1 T2 c1 e1 hr
        go_enter Try.func41, Try.ntmps41
        go_wp2
        refine bodyPost_ret (v := .agg #[.int .i64 (R - 2 ^ (b.toNat - 1)), .int .i64 1]) (by simp [results, Try.results41, go_sem]) rfl ⟨by rw [HE.out], by repeat (first | exact Up.refl w | refine Up.alloc ?_ _ | refine Up.setCell ?_ (by simp) _)⟩
    · have HE : Hid (m = (2 : Int) ^ (b.toNat - 1) - 1) := Lib.hid (by rw [← HM.out, if_neg c1, if_pos rfl, if_neg h2])
      have h3 : 2 ^ (b.toNat - 1) ≤ n := by omega
      have h4 : 0 ≤ n := by omega
      have h5 : -(2 : Int) ^ (b.toNat - 1) ≤ n := by omega
      clear HM T1 T2 c1 e1 h2
      go_enter Try.func41, Try.ntmps41
      go_wp2
      refine bodyPost_ret (v := .agg #[.int .i64 (2 ^ (b.toNat - 1) - 1), .int .i64 1]) (by simp [results, Try.results41, go_sem]) rfl ⟨by rw [HE.out], by repeat (first | exact Up.refl w | refine Up.alloc ?_ _ | refine Up.setCell ?_ (by simp) _)⟩
    · have h3 : 2 ^ (b.toNat - 1) ≤ n := by omega
      have h4 : 0 ≤ n := by omega
      have h5 : -(2 : Int) ^ (b.toNat - 1) ≤ n := by omega
      by_cases hr : R < 0
      · have HE : Hid (m = R + 2 * 2 ^ (b.toNat - 1) - 2 ^ (b.toNat - 1)) := Lib.hid (by rw [← HM.out, if_neg c1, if_neg (by omega), T2.out hr])
        clear HM T1 T2 c1 e1
        go_enter Try.func41, Try.ntmps41
        go_wp2
        refine bodyPost_ret (v := .agg #[.int .i64 (R + 2 * 2 ^ (b.toNat - 1) - 2 ^ (b.toNat - 1)), .int .i64 1]) (by simp [results, Try.results41, go_sem]) rfl ⟨by rw [HE.out], by repeat (first | exact Up.refl w | refine Up.alloc ?_ _ | refine Up.setCell ?_ (by simp) _)⟩
      · have hr2 : 0 ≤ R := by omega
        have HE : Hid (m = R - 2 ^ (b.toNat - 1)) := Lib.hid (by rw [← HM.out, if_neg c1, if_neg (by omega), T1.out hr2])
        clear HM T1 T2 c1 e1 hr
        go_enter Try.func41, Try.ntmps41
        go_wp2
        refine bodyPost_ret (v := .agg #[.int .i64 (R - 2 ^ (b.toNat - 1)), .int .i64 1]) (by simp [results, Try.results41, go_sem]) rfl ⟨by rw [HE.out], by repeat (first | exact Up.refl w | refine Up.alloc ?_ _ | refine Up.setCell ?_ (by simp) _)⟩

end Go.Proofs.Ytknojjmbhbbcmaa
