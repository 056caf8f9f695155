/-
  Contracts of package frac's Valid and of what it calls.
-/
import Derived.Test.YtknojjmbhbbcmaaRows
import Derived.Test.YtknojjmbhbbcmaaB
import Derived.Test.YtknojjmbhbbcmaaM
namespace Go.Proofs.Ytknojjmbhbbcmaa
open Go.ChangeShapes Go.WideShapes Go.ChangeAt Go.RowKit

theorem frac_gcd (a b : Int) (ha : 0 ≤ a) (ha' : a < 18446744073709551616) (hb : 0 ≤ b) (hb' : b < 18446744073709551616) (w : World) :
    Calls Try.prog 52 #[.int .u64 a, .int .u64 b] w fun e w' => e = .returned (.int .u64 (Int.gcd a b)) ∧ Up w w' := by
  go_enter Try.func52, Try.ntmps52
  go_wp2
  go_loopw [0, 1] (fun x y wr => ∃ a' b' : Int, 0 ≤ a' ∧ a' < 18446744073709551616 ∧ 0 ≤ b' ∧ b' < 18446744073709551616 ∧ x = .int .u64 a' ∧ y = .int .u64 b' ∧ Int.gcd a' b' = Int.gcd a b ∧ Up w wr) (fun _ y _ => (intOf y).toNat)
  case atStart => exact ⟨a, b, ha, ha', hb, hb', rfl, rfl, rfl, Up.refl _⟩
  case round =>
    rename_i wr
    obtain ⟨a', b', h1, h2, h3, h4, rfl, rfl, hg, hB⟩ := hrel
    have HG := Lib.hid hg
    clear hg
    by_cases h0 : b' = 0
    · subst h0
      go_wp2
      go_ret
      exact ⟨ret_int (by rw [← HG.out]; simp; omega), hB⟩
    · have h5 : 0 < b' := by omega
      have h6 : (b' == 0) = false := by simp [h0]
      have h7 : (b' != 0) = true := by simp [h0]
      go_wp2
      go_quiet (fail)
      go_wp2
      go_roundw
      case rel => exact ⟨b', a' % b', h3, h4, Int.emod_nonneg _ h0, by have := Int.emod_lt_of_pos a' h5; omega, rfl, rfl, by rw [gcd_step _ _ h1 h3]; exact HG.out, hB.drewN _⟩
      case measure =>
        have := Int.emod_lt_of_pos a' h5
        simp [intOf]; omega

theorem frac_gcd' (a b g : Int) (hg : (Int.gcd a b : Int) = g) (ha : 0 ≤ a) (ha' : a < 18446744073709551616) (hb : 0 ≤ b) (hb' : b < 18446744073709551616) (w : World) :
    Calls Try.prog 52 #[.int .u64 a, .int .u64 b] w fun e w' => e = .returned (.int .u64 g) ∧ Up w w' := by
  rw [← hg]; exact frac_gcd a b ha ha' hb hb' w

theorem frac_magnitude (n : Int) (h1 : -9223372036854775808 ≤ n) (h2 : n ≤ 9223372036854775807) (w : World) :
    Calls Try.prog 51 #[.int .i64 n] w fun e w' => e = .returned (.int .u64 (mag n)) ∧ Up w w' := by
  by_cases h : n < 0
  · go_enter Try.func51, Try.ntmps51
    go_wp2
    go_ret
    refine ⟨ret_int ?_, Up.refl _⟩
    rw [mag, if_pos h]
    exact wrap_u64_neg n h1 h
  · go_enter Try.func51, Try.ntmps51
    go_wp2
    go_ret
    refine ⟨ret_int ?_, Up.refl _⟩
    rw [mag, if_neg (by omega)]

def inR (n : Int) : Bool := decide (-2147483647 ≤ n ∧ n ≤ 2147483647)

theorem frac_inRange (n : Int) (r : Bool) (hr : inR n = r) (w : World) :
    Calls Try.prog 56 #[.int .i64 n] w fun e w' => e = .returned (.bool r) ∧ Up w w' := by
  subst hr
  go_enter Try.func56, Try.ntmps56
  go_wp2
  all_goals
    go_ret
    exact ⟨ret_bool (by simp [inR]; omega), Up.refl _⟩

def validF (n d : Int) : Bool := decide (1 ≤ d ∧ d ≤ 2147483647 ∧ -2147483647 ≤ n ∧ n ≤ 2147483647 ∧ Int.gcd n d = 1)

theorem frac_Valid (n d : Int) (r : Bool) (hr : validF n d = r) (w1 : -9223372036854775808 ≤ n) (w2 : n ≤ 9223372036854775807) (w : World) :
    Calls Try.prog 39 #[.agg #[.int .i64 n, .int .i64 d]] w fun e w' => e = .returned (.bool r) ∧ Up w w' := by
  have HR := Lib.hid hr
  clear hr
  by_cases h1 : 1 ≤ d
  · by_cases h2 : d ≤ 2147483647
    · by_cases h3 : -2147483647 ≤ n ∧ n ≤ 2147483647
      · have hr : Hid (inR n = true) := by simpa [Hid, inR] using h3
        have hm := mag_nonneg n
        have hm2 : mag n < 18446744073709551616 := by unfold mag; split <;> omega
        go_enter Try.func39, Try.ntmps39
        go_wp2
        refine wp_region_ext (by kernel_rfl) (by kernel_rfl) ?_
        repeat (go_big_quiet_step (first | (go_at_call 56; exact Calls.ext_of (frac_inRange _ true hr.out _)) | (go_at_call 51; exact Calls.ext_of (frac_magnitude _ (by omega) (by omega) _)) | (go_at_call 52; exact Calls.ext_of (frac_gcd _ _ (by omega) (by omega) (by omega) (by omega) _))))
        refine wpQuiet_nil ?_
        intro x hx
        go_wp2
        go_ret
        refine ⟨ret_bool ?_, ((Up.refl _).alloc _).trans hx⟩
        rw [← HR.out, gcd_mag_left]
        simp [validF, h1, h2, h3]
        rw [Bool.eq_iff_iff]; simp; omega
      · have hr : Hid (inR n = false) := by simp [Hid, inR]; omega
        go_enter Try.func39, Try.ntmps39
        go_wp2
        refine wp_region_ext (by kernel_rfl) (by kernel_rfl) ?_
        repeat (go_big_quiet_step (first | (go_at_call 56; exact Calls.ext_of (frac_inRange _ false hr.out _))))
        refine wpQuiet_nil ?_
        intro x hx
        go_wp2
        go_ret
        exact ⟨ret_bool (by rw [← HR.out]; simp [validF]; omega), ((Up.refl _).alloc _).trans hx⟩
    · have hd : decide (d ≤ 2147483647) = false := by simpa using h2
      go_enter Try.func39, Try.ntmps39
      go_wp2
      refine wp_region_ext (by kernel_rfl) (by kernel_rfl) ?_
      repeat (go_big_quiet_step (fail))
      refine wpQuiet_nil ?_
      intro x hx
      go_wp2
      go_ret
      exact ⟨ret_bool (by rw [← HR.out]; simp [validF]; omega), ((Up.refl _).alloc _).trans hx⟩
  · have hd : decide (1 ≤ d) = false := by simpa using h1
    go_enter Try.func39, Try.ntmps39
    go_wp2
    refine wp_region_ext (by kernel_rfl) (by kernel_rfl) ?_
    repeat (go_big_quiet_step (fail))
    refine wpQuiet_nil ?_
    intro x hx
    go_wp2
    go_ret
    exact ⟨ret_bool (by rw [← HR.out]; simp [validF]; omega), ((Up.refl _).alloc _).trans hx⟩

theorem frac_New (n d : Int) (w1 : -9223372036854775808 ≤ n) (w2 : n ≤ 9223372036854775807) (w3 : -9223372036854775808 ≤ d) (w4 : d ≤ 9223372036854775807) (w : World) :
    Calls Try.prog 33 #[.int .i64 n, .int .i64 d] w fun e w' => e = .returned (.tuple #[.agg #[.int .i64 (newF n d).1, .int .i64 (newF n d).2.1], .int .i64 (newF n d).2.2]) ∧ Up w w' := by
  by_cases h0 : d = 0
  · subst h0
    go_enter Try.func33, Try.ntmps33
    go_wp2
    exact bodyPost_ret (v := .tuple #[.agg #[.int .i64 0, .int .i64 0], .int .i64 4]) (by simp [results, Try.results33, go_sem]) rfl ⟨rfl, (Up.refl _).alloc _⟩
  · have hd0 : (d == 0) = false := by simpa using h0
    have hmn := mag_nonneg n
    have hmd := mag_nonneg d
    have hmn2 : mag n ≤ 9223372036854775808 := by unfold mag; split <;> omega
    have hmd2 : mag d ≤ 9223372036854775808 := by unfold mag; split <;> omega
    obtain ⟨g, hg⟩ : ∃ g : Int, (Int.gcd n d : Int) = g := ⟨_, rfl⟩
    have hg1 : 1 ≤ g := by
      rw [← hg]; have := Int.gcd_pos_of_ne_zero_right n h0; omega
    have HG : Hid ((Int.gcd (mag n) (mag d) : Int) = g) := by rw [Hid, gcd_mag]; exact hg
    have HN : Hid (newF n d = if 2147483647 < mag n / g ∨ 2147483647 < mag d / g then (0, 0, 3)
        else if decide (n < 0) != decide (d < 0) then (-(mag n / g), mag d / g, 0) else (mag n / g, mag d / g, 0)) := by
      rw [Hid, newF, if_neg h0, hg]
    clear hg
    have ha0 : 0 ≤ mag n / g := Int.ediv_nonneg hmn (by omega)
    have hb0 : 0 ≤ mag d / g := Int.ediv_nonneg hmd (by omega)
    have hU := Up.refl (w.alloc (.cells #[.int .i64 0, .int .i64 0] 25))
    go_enter Try.func33, Try.ntmps33
    go_wp2_with (first | (go_at_call 51; refine (frac_magnitude _ (by omega) (by omega) _).mono ?_; rintro e x ⟨rfl, hx⟩; replace hU := hU.trans hx) | (go_at_call 52; refine (frac_gcd' _ _ g HG.out (by omega) (by omega) (by omega) (by omega) _).mono ?_; rintro e x ⟨rfl, hx⟩; replace hU := hU.trans hx))
    refine wp_region_ext (by kernel_rfl) (by kernel_rfl) ?_
    repeat (go_big_quiet_step (fail))
    refine wpQuiet_nil ?_
    intro x hx
    replace hU := hU.trans hx
    clear hx
    obtain ⟨hc, hf⟩ := hU.both
    go_wp2
    all_goals
      refine bodyPost_ret (v := .tuple #[.agg #[.int .i64 (newF n d).1, .int .i64 (newF n d).2.1], .int .i64 (newF n d).2.2]) (by rw [HN.out]; simp [results, Try.results33, go_sem, *]; try ((repeat' split) <;> simp_all <;> omega)) rfl ⟨rfl, ?_⟩
      repeat (first | exact ((Up.refl w).alloc _).trans hU | refine Up.setCell ?_ (Nat.le_refl _) _)
end Go.Proofs.Ytknojjmbhbbcmaa
