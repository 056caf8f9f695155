/-
  Contracts of the reference of chapter 2.
-/
import Derived.Test.YtplgppolmnnenaaRoundB
namespace Go.Proofs.Ytplgppolmnnenaa
open Go.ChangeShapes Go.WideShapes Go.ChangeAt Go.RowKit

theorem ref02_Mode (how : Int) (r : Bool) (hr : isMode how = r) (w : World) :
    Calls Try.prog 25 #[.int .i64 how] w fun e w' => e = .returned (.bool r) ∧ Up w w' := by
  subst hr
  go_enter Try.func25, Try.ntmps25
  go_wp2
  all_goals
    go_ret
    exact ⟨ret_bool (by simp [isMode]; omega), Up.refl _⟩

theorem ref02_size (n : Int) (h1 : -9223372036854775808 ≤ n) (h2 : n ≤ 9223372036854775807) (w : World) :
    Calls Try.prog 26 #[.int .i64 n] w fun e w' => e = .returned (.int .u64 (mag n)) ∧ Up w w' := by
  by_cases h : n < 0
  · go_enter Try.func26, Try.ntmps26
    go_wp2
    go_ret
    refine ⟨ret_int ?_, Up.refl _⟩
    rw [mag, if_pos h]
    omega
  · go_enter Try.func26, Try.ntmps26
    go_wp2
    go_ret
    refine ⟨ret_int ?_, Up.refl _⟩
    rw [mag, if_neg (by omega)]

theorem ref02_size' (n m : Int) (hm : mag n = m) (h1 : -9223372036854775808 ≤ n) (h2 : n ≤ 9223372036854775807) (w : World) :
    Calls Try.prog 26 #[.int .i64 n] w fun e w' => e = .returned (.int .u64 m) ∧ Up w w' := hm ▸ ref02_size n h1 h2 w

set_option maxHeartbeats 1000000 in
theorem ref02_Divide (n d how : Int) (w1 : -9223372036854775808 ≤ n) (w2 : n ≤ 9223372036854775807) (w3 : -9223372036854775808 ≤ d) (w4 : d ≤ 9223372036854775807) (w : World) :
    Calls Try.prog 15 #[.int .i64 n, .int .i64 d, .int .i64 how] w fun e w' => e = .returned (.tuple #[.int .i64 (divR n d how).1, .int .i64 (divR n d how).2]) ∧ Up w w' := by
  by_cases hM : isMode how = false
  · have HN : Hid (divR n d how = (0, 1)) := by rw [Hid, divR, if_pos hM]
    have HM := Lib.hid hM
    clear hM
    go_enter Try.func15, Try.ntmps15
    go_wp2_with (go_at_call 25; refine (ref02_Mode _ false HM.out _).mono ?_; rintro e x ⟨rfl, hx⟩)
    go_ret2
    exact ⟨ret_ii (by rw [HN.out]) (by rw [HN.out]), by assumption⟩
  · have hw : 1 ≤ how ∧ how ≤ 4 := by simpa [isMode] using hM
    obtain ⟨hw1, hw2⟩ := hw
    have HM : Hid (isMode how = true) := Lib.hid (by simpa using hM)
    by_cases h0 : d = 0
    · have HN : Hid (divR n d how = (0, 4)) := by rw [Hid, divR, if_neg hM, if_pos h0]
      clear hM
      subst h0
      go_enter Try.func15, Try.ntmps15
      go_wp2_with (go_at_call 25; refine (ref02_Mode _ true HM.out _).mono ?_; rintro e x ⟨rfl, hx⟩)
      go_ret2
      exact ⟨ret_ii (by rw [HN.out]) (by rw [HN.out]), by assumption⟩
    · have hd0 : (d == 0) = false := by simpa using h0
      by_cases hx : d = -1 ∧ n = -9223372036854775808
      · obtain ⟨rfl, rfl⟩ := hx
        have HN : Hid (divR (-9223372036854775808) (-1) how = (0, 3)) := by
          rw [Hid, divR, if_neg hM, if_neg h0]
          have : rnd (mag (-9223372036854775808)) (mag (-1)) false how = 9223372036854775808 := by simp [rnd, mag]
          simp [this]
        clear hM
        go_enter Try.func15, Try.ntmps15
        go_wp2_with (go_at_call 25; refine (ref02_Mode _ true HM.out _).mono ?_; rintro e x ⟨rfl, hx⟩)
        go_ret2
        exact ⟨ret_ii (by rw [HN.out]) (by rw [HN.out]), by assumption⟩
      · have HN := Lib.hid (divR_ref n d how HM.out h0 ⟨w1, w2⟩ hx)
        by_cases hd1 : d = -1
        · subst hd1
          have hx1 : (n == -9223372036854775808) = false := by simpa using hx
          have e1 : n.tdiv (-1) = -n := by rw [Int.tdiv_neg, Int.tdiv_one]
          have e2 : n.tmod (-1) = 0 := by rw [Int.tmod_neg, Int.tmod_one]
          have hn3 : -9223372036854775807 ≤ n := by have : n ≠ -9223372036854775808 := by simpa using hx
                                                    omega
          rw [refD, if_pos e2, e1] at HN
          clear hM hx
          have hU := Up.refl w
          go_enter Try.func15, Try.ntmps15
          go_wp2_with (go_at_call 25; refine (ref02_Mode _ true HM.out _).mono ?_; rintro e x ⟨rfl, hx⟩; replace hU := hU.trans hx)
          refine wp_region_ext (by kernel_rfl) (by kernel_rfl) ?_
          repeat (go_big_quiet_step (fail))
          refine wpQuiet_nil ?_
          intro y hy
          replace hU := hU.trans hy
          go_wp2
          go_ret2
          exact ⟨ret_ii (by rw [HN.out]) (by rw [HN.out]), hU⟩
        have hd2 : (d == -1) = false := by simpa using hd1
        obtain ⟨hq1, hq2, hr1, hq3⟩ := div_facts n d h0 hd1 w1 w2
        have hmd2 : mag d ≤ 9223372036854775808 := by unfold mag; split <;> omega
        obtain ⟨q, hq⟩ : ∃ q, n.tdiv d = q := ⟨_, rfl⟩
        obtain ⟨r, hr⟩ : ∃ r, n.tmod d = r := ⟨_, rfl⟩
        rw [hq] at hq1 hq2 hq3
        rw [hr] at hr1 hq3
        rw [hq, hr, refD] at HN
        have hr0 := mag_nonneg r
        have hr2 : -9223372036854775808 ≤ r := by unfold mag at hr1 hmd2; split at hr1 <;> split at hr1 <;> omega
        have hr3 : r ≤ 9223372036854775807 := by unfold mag at hr1 hmd2; split at hr1 <;> split at hr1 <;> omega
        clear hM hx
        obtain ⟨s, hs⟩ : ∃ s, mag r = s := ⟨_, rfl⟩
        obtain ⟨t, ht⟩ : ∃ t, mag d = t := ⟨_, rfl⟩
        rw [hs, ht] at HN
        have HS := Lib.hid hs
        have HT := Lib.hid ht
        rw [hs] at hr0 hr1
        rw [ht] at hr1 hmd2
        clear hs ht
        obtain ⟨u, hu⟩ : ∃ u, t - s = u := ⟨_, rfl⟩
        rw [hu] at HN
        have hu0 : 1 ≤ u := by omega
        have hu1 : u ≤ 9223372036854775808 := by omega
        have hU := Up.refl w
        by_cases hr00 : r = 0
        · subst hr00
          clear hq3 hr1 hr2 hr3
          go_enter Try.func15, Try.ntmps15
          go_wp2_with (go_at_call 25; refine (ref02_Mode _ true HM.out _).mono ?_; rintro e x ⟨rfl, hx⟩; replace hU := hU.trans hx)
          refine wp_region_ext (by kernel_rfl) (by kernel_rfl) ?_
          repeat (go_big_quiet_step (fail))
          refine wpQuiet_nil ?_
          intro y hy
          replace hU := hU.trans hy
          go_wp2
          go_ret2
          exact ⟨ret_ii (by rw [HN.out]; simp) (by rw [HN.out]), hU⟩
        · have hr4 : (r == 0) = false := by simpa using hr00
          obtain ⟨hq4, hq5⟩ := hq3 hr00
          clear hq3
          go_enter Try.func15, Try.ntmps15
          go_wp2_with (go_at_call 25; refine (ref02_Mode _ true HM.out _).mono ?_; rintro e x ⟨rfl, hx⟩; replace hU := hU.trans hx)
          refine wp_region_ext (by kernel_rfl) (by kernel_rfl) ?_
          repeat (go_big_quiet_step (fail))
          refine wpQuiet_nil ?_
          intro y hy
          replace hU := hU.trans hy
          go_wp2_with (first | (go_at_call_of 26 (Value.int IntKind.i64 r); refine (ref02_size' _ _ HS.out (by omega) (by omega) _).mono ?_; rintro e x ⟨rfl, hx⟩; replace hU := hU.trans hx) | (go_at_call_of 26 (Value.int IntKind.i64 d); refine (ref02_size' _ _ HT.out (by omega) (by omega) _).mono ?_; rintro e x ⟨rfl, hx⟩; replace hU := hU.trans hx))
          all_goals
            go_ret2
            exact ⟨ret_ii (by rw [HN.out]; simp_all <;> omega) (by rw [HN.out]), hU⟩
end Go.Proofs.Ytplgppolmnnenaa
