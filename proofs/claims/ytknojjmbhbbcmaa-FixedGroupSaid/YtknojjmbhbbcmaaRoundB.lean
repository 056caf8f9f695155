/-
  Contracts of package round: Divide.
-/
import Derived.Test.YtknojjmbhbbcmaaRound
namespace Go.Proofs.Ytknojjmbhbbcmaa
open Go.ChangeShapes Go.WideShapes Go.ChangeAt Go.RowKit

set_option maxHeartbeats 1000000 in
theorem round_Divide (n d how : Int) (w1 : -9223372036854775808 ≤ n) (w2 : n ≤ 9223372036854775807) (w3 : -9223372036854775808 ≤ d) (w4 : d ≤ 9223372036854775807) (w : World) :
    Calls Try.prog 45 #[.int .i64 n, .int .i64 d, .int .i64 how] w fun e w' => e = .returned (.tuple #[.int .i64 (divR n d how).1, .int .i64 (divR n d how).2]) ∧ Up w w' := by
  have hmn := mag_nonneg n
  have hmd := mag_nonneg d
  have hmn2 : mag n ≤ 9223372036854775808 := by unfold mag; split <;> omega
  have hmd2 : mag d ≤ 9223372036854775808 := by unfold mag; split <;> omega
  by_cases hM : isMode how = false
  · have HN : Hid (divR n d how = (0, 1)) := by rw [Hid, divR, if_pos hM]
    have HM := Lib.hid hM
    clear hM
    go_enter Try.func45, Try.ntmps45
    go_wp2_with (go_at_call 55; refine (round_mode _ false HM.out _).mono ?_; rintro e x ⟨rfl, hx⟩)
    go_ret2
    exact ⟨ret_ii (by rw [HN.out]) (by rw [HN.out]), by assumption⟩
  · have HM : Hid (isMode how = true) := Lib.hid (by simpa using hM)
    have hw : 1 ≤ how ∧ how ≤ 4 := by simpa [isMode] using hM
    obtain ⟨hw1, hw2⟩ := hw
    by_cases h0 : d = 0
    · have HN : Hid (divR n d how = (0, 4)) := by rw [Hid, divR, if_neg hM, if_pos h0]
      clear hM
      subst h0
      go_enter Try.func45, Try.ntmps45
      go_wp2_with (go_at_call 55; refine (round_mode _ true HM.out _).mono ?_; rintro e x ⟨rfl, hx⟩)
      go_ret2
      exact ⟨ret_ii (by rw [HN.out]) (by rw [HN.out]), by assumption⟩
    · have hd0 : (d == 0) = false := by simpa using h0
      have hmd1 : 1 ≤ mag d := by unfold mag; split <;> omega
      obtain ⟨m, hm⟩ : ∃ m, rnd (mag n) (mag d) (decide (n < 0) != decide (d < 0)) how = m := ⟨_, rfl⟩
      have hb := rnd_bd (mag n) (mag d) (decide (n < 0) != decide (d < 0)) how hmn hmd1
      rw [hm] at hb
      obtain ⟨hb0, hb1⟩ := hb
      have HN : Hid (divR n d how = if decide (n < 0) != decide (d < 0) then (-m, 0) else if 9223372036854775808 ≤ m then (0, 3) else (m, 0)) := by rw [Hid, divR, if_neg hM, if_neg h0, hm]
      have H1 : Hid (∀ w, Calls Try.prog 58 #[.int .u64 (mag n), .int .u64 (mag d), .bool (!decide (n < 0) == decide (d < 0)), .int .i64 how] w fun e w' => e = .returned (.int .u64 m) ∧ Up w w') := by
        intro w
        have h := round_rounded (mag n) (mag d) (decide (n < 0) != decide (d < 0)) how hmn hmn2 hmd1 hmd2 hw1 hw2 w
        rw [hm] at h
        exact h
      clear hm hM
      have hU := Up.refl w
      go_enter Try.func45, Try.ntmps45
      go_wp2_with (first | (go_at_call 55; refine (round_mode _ true HM.out _).mono ?_; rintro e x ⟨rfl, hx⟩; replace hU := hU.trans hx) | (go_at_call 59; refine (round_magnitude _ (by omega) (by omega) _).mono ?_; rintro e x ⟨rfl, hx⟩; replace hU := hU.trans hx) | (go_at_call 58; refine (H1.out _).mono ?_; rintro e x ⟨rfl, hx⟩; replace hU := hU.trans hx))
      · have hs : (decide (n < 0) != decide (d < 0)) = true := by assumption
        go_ret2
        exact ⟨ret_ii (by rw [HN.out, if_pos hs]; exact wrap_i64_neg m hb0 (by omega)) (by rw [HN.out, if_pos hs]), hU⟩
      · have hs : (decide (n < 0) != decide (d < 0)) = false := by assumption
        have h9 : 9223372036854775808 ≤ m := by assumption
        go_ret2
        exact ⟨ret_ii (by rw [HN.out, if_neg (by simp [hs]), if_pos h9]) (by rw [HN.out, if_neg (by simp [hs]), if_pos h9]), hU⟩
      · have hs : (decide (n < 0) != decide (d < 0)) = false := by assumption
        have h9 : ¬ 9223372036854775808 ≤ m := by omega
        go_ret2
        exact ⟨ret_ii (by rw [HN.out, if_neg (by simp [hs]), if_neg h9]) (by rw [HN.out, if_neg (by simp [hs]), if_neg h9]), hU⟩
end Go.Proofs.Ytknojjmbhbbcmaa
