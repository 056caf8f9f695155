/-
  Contracts: Residual of package round; Quantize and Residual of the reference of chapter 2.
-/
import Derived.Test.YtplgppolmnnenaaQuant
import Derived.Test.YtplgppolmnnenaaBase
import Derived.Test.YtplgppolmnnenaaRef02
namespace Go.Proofs.Ytplgppolmnnenaa
open Go.ChangeShapes Go.WideShapes Go.ChangeAt Go.RowKit

def resR (n d bits how : Int) : Int × Int × Int :=
  if (quantR n d bits how).2 ≠ 0 then (0, 0, (quantR n d bits how).2)
  else newF (n * 2 ^ bits.toNat - (quantR n d bits how).1 * d) (d * 2 ^ bits.toNat)

/-- What is known of a quantization that succeeds. -/
theorem quant_ok {n d bits how q : Int} (h : quantR n d bits how = (q, 0)) : validF n d = true ∧ 0 ≤ bits ∧ bits ≤ 30 ∧ isMode how = true ∧ q = n * 2 ^ bits.toNat / d + rcorr (n * 2 ^ bits.toNat) d how := by
  unfold quantR at h
  split at h
  · simp at h
  · rename_i hn
    have hv : validF n d = true := by cases hh : validF n d <;> simp [hh] at hn ⊢
    have hm : isMode how = true := by cases hh : isMode how <;> simp [hh] at hn ⊢
    have hb : 0 ≤ bits ∧ bits ≤ 30 := by simp [hv, hm] at hn; exact hn
    obtain ⟨f1, f2, f3, f4, _⟩ := validF_spec hv
    obtain ⟨p1, p2⟩ := pow30 bits hb.1 hb.2
    obtain ⟨m1, m2⟩ := mul_bd n (2 ^ bits.toNat) 2147483647 1073741824 f3 f4 (by omega) (by omega) p2
    rw [divR_pos _ d how hm f1 (by omega) (by omega)] at h
    simp only [Prod.mk.injEq] at h
    exact ⟨hv, hb.1, hb.2, hm, h.1.symm⟩

theorem quant_err {n d bits how : Int} (h : (quantR n d bits how).2 ≠ 0) : quantR n d bits how = (0, 1) := by
  unfold quantR at h ⊢
  split at h
  · simp_all
  · rename_i hn
    exfalso
    have hv : validF n d = true := by cases hh : validF n d <;> simp [hh] at hn ⊢
    have hm : isMode how = true := by cases hh : isMode how <;> simp [hh] at hn ⊢
    have hb : 0 ≤ bits ∧ bits ≤ 30 := by simp [hv, hm] at hn; exact hn
    obtain ⟨f1, f2, f3, f4, _⟩ := validF_spec hv
    obtain ⟨p1, p2⟩ := pow30 bits hb.1 hb.2
    obtain ⟨m1, m2⟩ := mul_bd n (2 ^ bits.toNat) 2147483647 1073741824 f3 f4 (by omega) (by omega) p2
    rw [divR_pos _ d how hm f1 (by omega) (by omega)] at h
    simp at h

theorem rcorr_bd (n d how : Int) : 0 ≤ rcorr n d how ∧ rcorr n d how ≤ 1 := by
  unfold rcorr
  repeat' split
  all_goals omega

/-- The error of a rounding, times the divisor, is smaller than the divisor. -/
theorem resid_bd (m d how : Int) (hd : 1 ≤ d) : -d ≤ m - (m / d + rcorr m d how) * d ∧ m - (m / d + rcorr m d how) * d < d := by
  have h := Int.mul_ediv_add_emod m d
  have h0 : 0 ≤ m % d := Int.emod_nonneg _ (by omega)
  have h1 : m % d < d := Int.emod_lt_of_pos _ (by omega)
  obtain ⟨c0, c1⟩ := rcorr_bd m d how
  rw [Int.add_mul, Int.mul_comm (m / d)]
  rcases (by omega : rcorr m d how = 0 ∨ rcorr m d how = 1) with e | e
  all_goals
    rw [e]
    omega

theorem round_Quantize_eq (n d bits how q e : Int) (h : quantR n d bits how = (q, e)) (w1 : -9223372036854775808 ≤ n) (w2 : n ≤ 9223372036854775807) (w : World) :
    Calls Try.prog 16 #[.agg #[.int .i64 n, .int .i64 d], .int .i64 bits, .int .i64 how] w fun e' w' => e' = .returned (.tuple #[.int .i64 q, .int .i64 e]) ∧ Up w w' := by
  have := round_Quantize n d bits how w1 w2 w
  rw [h] at this
  exact this

theorem round_Residual (n d bits how : Int) (w1 : -9223372036854775808 ≤ n) (w2 : n ≤ 9223372036854775807) (w : World) :
    Calls Try.prog 18 #[.agg #[.int .i64 n, .int .i64 d], .int .i64 bits, .int .i64 how] w fun e w' => e = .returned (.tuple #[.agg #[.int .i64 (resR n d bits how).1, .int .i64 (resR n d bits how).2.1], .int .i64 (resR n d bits how).2.2]) ∧ Up w w' := by
  have hV := ((Up.refl w).alloc (.cells #[.int .i64 n, .int .i64 d] 31)).alloc (.cells #[.int .i64 0, .int .i64 0] 31)
  have hU := Up.refl ((w.alloc (.cells #[.int .i64 n, .int .i64 d] 31)).alloc (.cells #[.int .i64 0, .int .i64 0] 31))
  by_cases he : (quantR n d bits how).2 ≠ 0
  · have HQ := Lib.hid (quant_err he)
    have HN : Hid (resR n d bits how = (0, 0, 1)) := Lib.hid (by rw [resR, if_pos he, quant_err he])
    clear he
    go_enter Try.func18, Try.ntmps18
    go_wp2_with (go_at_call 16; refine (round_Quantize_eq _ _ _ _ _ _ HQ.out (by omega) (by omega) _).mono ?_; rintro e x ⟨rfl, hx⟩; replace hU := hU.trans hx; obtain ⟨hc, hf⟩ := hU.both)
    refine bodyPost_ret (v := .tuple #[.agg #[.int .i64 0, .int .i64 0], .int .i64 1]) (by simp [results, Try.results18, go_sem, hc]) rfl ⟨by rw [HN.out], ?_⟩
    repeat (first | exact hV.trans hU | refine Up.setCell ?_ (by simp) _)
  · obtain ⟨q, hq⟩ : ∃ q, quantR n d bits how = (q, 0) := ⟨(quantR n d bits how).1, Prod.ext rfl (by simpa using he)⟩
    obtain ⟨hv, c0, c3, hm, hqe⟩ := quant_ok hq
    obtain ⟨f1, f2, f3, f4, _⟩ := validF_spec hv
    have HN : Hid (resR n d bits how = newF (n * 2 ^ bits.toNat - q * d) (d * 2 ^ bits.toNat)) := Lib.hid (by rw [resR, if_neg he, hq])
    have HQ := Lib.hid hq
    obtain ⟨p1, p2⟩ := pow30 bits c0 c3
    obtain ⟨m1, m2⟩ := mul_bd n (2 ^ bits.toNat) 2147483647 1073741824 f3 f4 (by omega) (by omega) p2
    obtain ⟨d1, d2⟩ := mul_bd d (2 ^ bits.toNat) 2147483647 1073741824 (by omega) f2 (by omega) (by omega) p2
    obtain ⟨r1, r2⟩ := resid_bd (n * 2 ^ bits.toNat) d how f1
    rw [← hqe] at r1 r2
    obtain ⟨m, hmm⟩ : ∃ m, n * 2 ^ bits.toNat = m := ⟨_, rfl⟩
    obtain ⟨s, hs⟩ : ∃ s, q * d = s := ⟨_, rfl⟩
    obtain ⟨D, hD⟩ : ∃ D, d * 2 ^ bits.toNat = D := ⟨_, rfl⟩
    rw [hmm, hs] at r1 r2
    rw [hmm] at m1 m2
    rw [hD] at d1 d2
    rw [hmm, hs, hD] at HN
    clear he hq hqe hv hm p1 p2
    go_enter Try.func18, Try.ntmps18
    go_wp2_with (first | (go_at_call 16; refine (round_Quantize_eq _ _ _ _ _ _ HQ.out (by omega) (by omega) _).mono ?_; rintro e x ⟨rfl, hx⟩; replace hU := hU.trans hx; obtain ⟨hc, hf⟩ := hU.both) | (go_at_call 29; refine (frac_New _ _ (by omega) (by omega) (by omega) (by omega) _).mono ?_; rintro e x ⟨rfl, hx⟩; replace hU := hU.trans hx; clear hc hf; obtain ⟨hc, hf⟩ := hU.both))
    refine bodyPost_ret (v := .tuple #[.agg #[.int .i64 (newF (m - s) D).1, .int .i64 (newF (m - s) D).2.1], .int .i64 (newF (m - s) D).2.2]) (by simp [results, Try.results18, go_sem, hc]) rfl ⟨by rw [HN.out], ?_⟩
    repeat (first | exact hV.trans hU | refine Up.setCell ?_ (by simp) _)

theorem ref02_Quantize (n d bits how : Int) (w1 : -9223372036854775808 ≤ n) (w2 : n ≤ 9223372036854775807) (w : World) :
    Calls Try.prog 17 #[.agg #[.int .i64 n, .int .i64 d], .int .i64 bits, .int .i64 how] w fun e w' => e = .returned (.tuple #[.int .i64 (quantR n d bits how).1, .int .i64 (quantR n d bits how).2]) ∧ Up w w' := by
  have hU := Up.refl (w.alloc (.cells #[.int .i64 n, .int .i64 d] 31))
  have hV := (Up.refl w).alloc (.cells #[.int .i64 n, .int .i64 d] 31)
  by_cases hv : validF n d = true
  · obtain ⟨f1, f2, f3, f4, _⟩ := validF_spec hv
    have HV := Lib.hid hv
    by_cases c1 : bits < 0
    · have HN := Lib.hid (show quantR n d bits how = (0, 1) from (by rw [quantR, if_pos (Or.inr (Or.inl c1))]))
      clear hv
      go_enter Try.func17, Try.ntmps17
      go_wp2_with (go_at_call 28; refine (base_Val_frac _ _ _ _ _ _ _ true HV.out rfl rfl (by omega) (by omega) _).mono ?_; rintro e x ⟨rfl, hx⟩; replace hU := hU.trans hx)
      go_ret2
      exact ⟨ret_ii (by rw [HN.out]) (by rw [HN.out]), hV.trans hU⟩
    · by_cases c2 : 30 < bits
      · have c0 : 0 ≤ bits := by omega
        have HN := Lib.hid (show quantR n d bits how = (0, 1) from (by rw [quantR, if_pos (Or.inr (Or.inr (Or.inl c2)))]))
        clear hv
        go_enter Try.func17, Try.ntmps17
        go_wp2_with (go_at_call 28; refine (base_Val_frac _ _ _ _ _ _ _ true HV.out rfl rfl (by omega) (by omega) _).mono ?_; rintro e x ⟨rfl, hx⟩; replace hU := hU.trans hx)
        go_ret2
        exact ⟨ret_ii (by rw [HN.out]) (by rw [HN.out]), hV.trans hU⟩
      · have c0 : 0 ≤ bits := by omega
        have c3 : bits ≤ 30 := by omega
        by_cases hm : isMode how = true
        · have HM := Lib.hid hm
          have HN := Lib.hid (show quantR n d bits how = _ from (by rw [quantR, if_neg (by simp [hv, hm]; omega)]))
          obtain ⟨p1, p2⟩ := pow30 bits c0 c3
          obtain ⟨m1, m2⟩ := mul_bd n (2 ^ bits.toNat) 2147483647 1073741824 f3 f4 (by omega) (by omega) p2
          obtain ⟨m, hmm⟩ : ∃ m, n * 2 ^ bits.toNat = m := ⟨_, rfl⟩
          rw [hmm] at m1 m2
          have HMM := Lib.hid hmm
          clear hv hm
          go_enter Try.func17, Try.ntmps17
          go_wp2_with (first | (go_at_call 28; refine (base_Val_frac _ _ _ _ _ _ _ true HV.out rfl rfl (by omega) (by omega) _).mono ?_; rintro e x ⟨rfl, hx⟩; replace hU := hU.trans hx; obtain ⟨hc, hf⟩ := hU.both) | (go_at_call 25; refine (ref02_Mode _ true HM.out _).mono ?_; rintro e x ⟨rfl, hx⟩; replace hU := hU.trans hx; clear hc hf; obtain ⟨hc, hf⟩ := hU.both) | (go_at_call 15; refine (ref02_Divide _ _ _ (by omega) (by omega) (by omega) (by omega) _).mono ?_; rintro e x ⟨rfl, hx⟩; replace hU := hU.trans hx))
          go_ret2
          exact ⟨ret_ii (by rw [HN.out, HMM.out]) (by rw [HN.out, HMM.out]), hV.trans hU⟩
        · have HM : Hid (isMode how = false) := Lib.hid (by simpa using hm)
          have HN := Lib.hid (show quantR n d bits how = (0, 1) from (by rw [quantR, if_pos (Or.inr (Or.inr (Or.inr HM.out)))]))
          clear hv hm
          go_enter Try.func17, Try.ntmps17
          go_wp2_with (first | (go_at_call 28; refine (base_Val_frac _ _ _ _ _ _ _ true HV.out rfl rfl (by omega) (by omega) _).mono ?_; rintro e x ⟨rfl, hx⟩; replace hU := hU.trans hx) | (go_at_call 25; refine (ref02_Mode _ false HM.out _).mono ?_; rintro e x ⟨rfl, hx⟩; replace hU := hU.trans hx))
          go_ret2
          exact ⟨ret_ii (by rw [HN.out]) (by rw [HN.out]), hV.trans hU⟩
  · have hv2 : validF n d = false := by simpa using hv
    have HV := Lib.hid hv2
    have HN := Lib.hid (show quantR n d bits how = (0, 1) from (by rw [quantR, if_pos (Or.inl hv2)]))
    clear hv hv2
    go_enter Try.func17, Try.ntmps17
    go_wp2_with (go_at_call 28; refine (base_Val_frac _ _ _ _ _ _ _ false HV.out rfl rfl (by omega) (by omega) _).mono ?_; rintro e x ⟨rfl, hx⟩; replace hU := hU.trans hx)
    go_ret2
    exact ⟨ret_ii (by rw [HN.out]) (by rw [HN.out]), hV.trans hU⟩

theorem ref02_gcd (a b g : Int) (hgg : (Int.gcd a b : Int) = g) (ha : 0 ≤ a) (ha' : a ≤ 9223372036854775807) (hb : 0 ≤ b) (hb' : b ≤ 9223372036854775807) (w : World) :
    Calls Try.prog 30 #[.int .i64 a, .int .i64 b] w fun e w' => e = .returned (.int .i64 g) ∧ Up w w' := by
  subst hgg
  go_enter Try.func30, Try.ntmps30
  go_wp2
  go_loopw [0, 1] (fun x y wr => ∃ a' b' : Int, 0 ≤ a' ∧ a' ≤ 9223372036854775807 ∧ 0 ≤ b' ∧ b' ≤ 9223372036854775807 ∧ x = .int .i64 a' ∧ y = .int .i64 b' ∧ Int.gcd a' b' = Int.gcd a b ∧ Up w wr) (fun _ y _ => (intOf y).toNat)
  case atStart => exact ⟨a, b, ha, ha', hb, hb', rfl, rfl, rfl, Up.refl _⟩
  case round =>
    rename_i wr
    obtain ⟨a', b', h1, h2, h3, h4, rfl, rfl, hg, hB⟩ := hrel
    have HG := Lib.hid hg
    clear hg
    by_cases h0 : b' = 0
    · subst h0
      go_wp2
      go_ret
      exact ⟨ret_int (by rw [← HG.out]; simp; omega), hB⟩
    · have h5 : 0 < b' := by omega
      have h6 : (b' == 0) = false := by simp [h0]
      have h7 : (b' != 0) = true := by simp [h0]
      go_wp2
      go_quiet (fail)
      go_wp2
      go_roundw
      case rel => exact ⟨b', a' % b', h3, h4, Int.emod_nonneg _ h0, by have := Int.emod_lt_of_pos a' h5; omega, rfl, rfl, by rw [gcd_step _ _ h1 h3]; exact HG.out, hB.drewN _⟩
      case measure =>
        have := Int.emod_lt_of_pos a' h5
        simp [intOf]; omega

theorem ref02_Quantize_eq (n d bits how q e : Int) (h : quantR n d bits how = (q, e)) (w1 : -9223372036854775808 ≤ n) (w2 : n ≤ 9223372036854775807) (w : World) :
    Calls Try.prog 17 #[.agg #[.int .i64 n, .int .i64 d], .int .i64 bits, .int .i64 how] w fun e' w' => e' = .returned (.tuple #[.int .i64 q, .int .i64 e]) ∧ Up w w' := by
  have := ref02_Quantize n d bits how w1 w2 w
  rw [h] at this
  exact this

/-- The reference's reduction of a fraction with a positive denominator. -/
theorem newF_ref (n d g : Int) (hd : 1 ≤ d) (hg : (Int.gcd n d : Int) = g) : 1 ≤ g ∧ newF n d = (if 2147483647 < n.tdiv g ∨ n.tdiv g < -2147483647 ∨ 2147483647 < d / g then (0, 0, 3) else (n.tdiv g, d / g, 0)) := by
  have hg1 : 1 ≤ g := by rw [← hg]; have := Int.gcd_pos_of_ne_zero_right n (show d ≠ 0 by omega); omega
  refine ⟨hg1, ?_⟩
  have hmd : mag d = d := by unfold mag; split <;> omega
  have hds : decide (d < 0) = false := by simp; omega
  rw [newF, if_neg (by omega), hg, hmd, hds]
  have hq0 : 0 ≤ mag n / g := Int.ediv_nonneg (mag_nonneg n) (by omega)
  have e : n.tdiv g = if n < 0 then -(mag n / g) else mag n / g := by
    split
    · have : n.tdiv g = -((-n).tdiv g) := by rw [Int.neg_tdiv]; omega
      rw [this, Int.tdiv_eq_ediv_of_nonneg (by omega), mag, if_pos (by assumption)]
    · rw [Int.tdiv_eq_ediv_of_nonneg (by omega), mag, if_neg (by assumption)]
  rw [e]
  by_cases hn : n < 0
  · simp only [hn, if_true, decide_true, Bool.bne_false]
    (repeat' split) <;> first | rfl | omega
  · simp only [hn, if_false, decide_false, bne_self_eq_false, Bool.false_eq_true]
    (repeat' split) <;> first | rfl | omega

theorem ref02_Residual (n d bits how : Int) (w1 : -9223372036854775808 ≤ n) (w2 : n ≤ 9223372036854775807) (w : World) :
    Calls Try.prog 19 #[.agg #[.int .i64 n, .int .i64 d], .int .i64 bits, .int .i64 how] w fun e w' => e = .returned (.tuple #[.agg #[.int .i64 (resR n d bits how).1, .int .i64 (resR n d bits how).2.1], .int .i64 (resR n d bits how).2.2]) ∧ Up w w' := by
  have hV := ((Up.refl w).alloc (.cells #[.int .i64 n, .int .i64 d] 31)).alloc (.cells #[.int .i64 0, .int .i64 0] 31)
  have hU := Up.refl ((w.alloc (.cells #[.int .i64 n, .int .i64 d] 31)).alloc (.cells #[.int .i64 0, .int .i64 0] 31))
  by_cases he : (quantR n d bits how).2 ≠ 0
  · have HQ := Lib.hid (quant_err he)
    have HN : Hid (resR n d bits how = (0, 0, 1)) := Lib.hid (by rw [resR, if_pos he, quant_err he])
    clear he
    go_enter Try.func19, Try.ntmps19
    go_wp2_with (go_at_call 17; refine (ref02_Quantize_eq _ _ _ _ _ _ HQ.out (by omega) (by omega) _).mono ?_; rintro e x ⟨rfl, hx⟩; replace hU := hU.trans hx; obtain ⟨hc, hf⟩ := hU.both)
    refine bodyPost_ret (v := .tuple #[.agg #[.int .i64 0, .int .i64 0], .int .i64 1]) (by simp [results, Try.results19, go_sem, hc]) rfl ⟨by rw [HN.out], ?_⟩
    repeat (first | exact hV.trans hU | refine Up.setCell ?_ (by simp) _)
  · obtain ⟨q, hq⟩ : ∃ q, quantR n d bits how = (q, 0) := ⟨(quantR n d bits how).1, Prod.ext rfl (by simpa using he)⟩
    obtain ⟨hv, c0, c3, hm, hqe⟩ := quant_ok hq
    obtain ⟨f1, f2, f3, f4, _⟩ := validF_spec hv
    have HN1 : resR n d bits how = newF (n * 2 ^ bits.toNat - q * d) (d * 2 ^ bits.toNat) := by rw [resR, if_neg he, hq]
    have HQ := Lib.hid hq
    obtain ⟨p1, p2⟩ := pow30 bits c0 c3
    obtain ⟨m1, m2⟩ := mul_bd n (2 ^ bits.toNat) 2147483647 1073741824 f3 f4 (by omega) (by omega) p2
    obtain ⟨_, d2⟩ := mul_bd d (2 ^ bits.toNat) 2147483647 1073741824 (by omega) f2 (by omega) (by omega) p2
    have d1 : 1 ≤ d * 2 ^ bits.toNat := by
      have := Int.mul_le_mul_of_nonneg_left p1 (show 0 ≤ d by omega)
      omega
    obtain ⟨r1, r2⟩ := resid_bd (n * 2 ^ bits.toNat) d how f1
    rw [← hqe] at r1 r2
    obtain ⟨m, hmm⟩ : ∃ m, n * 2 ^ bits.toNat = m := ⟨_, rfl⟩
    obtain ⟨s, hs⟩ : ∃ s, q * d = s := ⟨_, rfl⟩
    obtain ⟨D, hD⟩ : ∃ D, d * 2 ^ bits.toNat = D := ⟨_, rfl⟩
    rw [hmm, hs] at r1 r2
    rw [hmm] at m1 m2
    rw [hD] at d1 d2
    rw [hmm, hs, hD] at HN1
    obtain ⟨N, hN⟩ : ∃ N, m - s = N := ⟨_, rfl⟩
    rw [hN] at HN1 r1 r2
    obtain ⟨g, hg⟩ : ∃ g, (Int.gcd N D : Int) = g := ⟨_, rfl⟩
    obtain ⟨g1, hnf⟩ := newF_ref N D g d1 hg
    rw [hnf] at HN1
    have HN := Lib.hid HN1
    clear he hq hqe hv hm HN1 hnf
    have dg0 : 0 ≤ D / g := Int.ediv_nonneg (by omega) (by omega)
    have dg1 : D / g ≤ D := Int.ediv_le_self _ (by omega)
    by_cases hs0 : N < 0
    · have HG : Hid ((Int.gcd (-N) D : Int) = g) := Lib.hid (by rw [Int.neg_gcd]; exact hg)
      have hs2 : N < -N := by omega
      clear hg
      go_enter Try.func19, Try.ntmps19
      go_wp2_with (go_at_call 17; refine (ref02_Quantize_eq _ _ _ _ _ _ HQ.out (by omega) (by omega) _).mono ?_; rintro e x ⟨rfl, hx⟩; replace hU := hU.trans hx; obtain ⟨hc, hf⟩ := hU.both; have hz0 : w.heap.size < x.heap.size := by (have := hU.size; simp at this; omega))
      refine wp_region_ext (by kernel_rfl) (by kernel_rfl) ?_
      repeat (go_big_quiet_step (fail))
      refine wpQuiet_nil ?_
      intro x hx
      replace hU := hU.trans hx
      clear hc hf
      obtain ⟨hc, hf⟩ := hU.both
      go_wp2_with (go_at_call 30; refine (ref02_gcd _ _ _ HG.out (by omega) (by omega) (by omega) (by omega) _).mono ?_; rintro e x ⟨rfl, hx⟩; replace hU := hU.trans hx; clear hc hf; obtain ⟨hc, hf⟩ := hU.both)
      all_goals
        refine bodyPost_ret (v := .tuple #[.agg #[.int .i64 (resR n d bits how).1, .int .i64 (resR n d bits how).2.1], .int .i64 (resR n d bits how).2.2]) (by rw [HN.out]; simp [results, Try.results19, go_sem, *]; try ((repeat' split) <;> simp_all <;> omega)) rfl ⟨rfl, ?_⟩
        repeat (first | exact hV.trans hU | refine Up.setCell ?_ (by simp) _)
    · have HG : Hid ((Int.gcd N D : Int) = g) := Lib.hid hg
      have hs2 : -N ≤ N := by omega
      have hs3 : ¬ N < -N := by omega
      have HN := Lib.hid (show resR n d bits how = _ from (by rw [HN.out, Int.tdiv_eq_ediv_of_nonneg (by omega)]))
      clear hg
      go_enter Try.func19, Try.ntmps19
      go_wp2_with (go_at_call 17; refine (ref02_Quantize_eq _ _ _ _ _ _ HQ.out (by omega) (by omega) _).mono ?_; rintro e x ⟨rfl, hx⟩; replace hU := hU.trans hx; obtain ⟨hc, hf⟩ := hU.both; have hz0 : w.heap.size < x.heap.size := by (have := hU.size; simp at this; omega))
      refine wp_region_ext (by kernel_rfl) (by kernel_rfl) ?_
      repeat (go_big_quiet_step (fail))
      refine wpQuiet_nil ?_
      intro x hx
      replace hU := hU.trans hx
      clear hc hf
      obtain ⟨hc, hf⟩ := hU.both
      go_wp2_with (go_at_call 30; refine (ref02_gcd _ _ _ HG.out (by omega) (by omega) (by omega) (by omega) _).mono ?_; rintro e x ⟨rfl, hx⟩; replace hU := hU.trans hx; clear hc hf; obtain ⟨hc, hf⟩ := hU.both)
      all_goals
        refine bodyPost_ret (v := .tuple #[.agg #[.int .i64 (resR n d bits how).1, .int .i64 (resR n d bits how).2.1], .int .i64 (resR n d bits how).2.2]) (by rw [HN.out]; simp [results, Try.results19, go_sem, *]; try ((repeat' split) <;> simp_all <;> omega)) rfl ⟨rfl, ?_⟩
        repeat (first | exact hV.trans hU | refine Up.setCell ?_ (by simp) _)
end Go.Proofs.Ytplgppolmnnenaa
