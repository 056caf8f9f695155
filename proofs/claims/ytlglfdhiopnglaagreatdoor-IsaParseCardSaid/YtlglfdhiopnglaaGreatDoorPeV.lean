/-
  Contracts of package frac's Valid and of what it calls.
-/
import Derived.Test.YtlglfdhiopnglaaGreatDoorRows
import Derived.Test.YtlglfdhiopnglaaGreatDoorGa


namespace Go.Proofs.YtlglfdhiopnglaaGreatDoor
open Go.ChangeShapes Go.WideShapes Go.ChangeAt Go.RowKit

theorem frac_gcd (a b : Int) (ha : 0 ≤ a) (ha' : a < 18446744073709551616) (hb : 0 ≤ b) (hb' : b < 18446744073709551616) (w : World) :
    Calls Tryz.prog 113 #[.int .u64 a, .int .u64 b] w fun e w' => e = .returned (.int .u64 (Int.gcd a b)) ∧ Up w w' := by
  go_enter Tryz.func113, Tryz.ntmps113
  go_wp2
  go_loopw [0, 1] (fun x y wr => ∃ a' b' : Int, 0 ≤ a' ∧ a' < 18446744073709551616 ∧ 0 ≤ b' ∧ b' < 18446744073709551616 ∧ x = .int .u64 a' ∧ y = .int .u64 b' ∧ Int.gcd a' b' = Int.gcd a b ∧ Up w wr) (fun _ y _ => (intOf y).toNat)
  case atStart => exact ⟨a, b, ha, ha', hb, hb', rfl, rfl, rfl, Up.refl _⟩
  case round =>
    rename_i wr
    obtain ⟨a', b', h1, h2, h3, h4, rfl, rfl, hg, hB⟩ := hrel
    have HG := Lib.hid hg
    clear hg
    by_cases h0 : b' = 0
    · subst h0
      go_wp2
      go_ret
      exact ⟨ret_int (by rw [← HG.out]; simp; omega), hB⟩
    · have h5 : 0 < b' := by omega
      have h6 : (b' == 0) = false := by simp [h0]
      have h7 : (b' != 0) = true := by simp [h0]
      go_wp2
      go_quiet (fail)
      go_wp2
      go_roundw
      case rel => exact ⟨b', a' % b', h3, h4, Int.emod_nonneg _ h0, by have := Int.emod_lt_of_pos a' h5; omega, rfl, rfl, by rw [gcd_step _ _ h1 h3]; exact HG.out, hB.drewN _⟩
      case measure =>
        have := Int.emod_lt_of_pos a' h5
        simp [intOf]; omega

theorem frac_gcd' (a b g : Int) (hg : (Int.gcd a b : Int) = g) (ha : 0 ≤ a) (ha' : a < 18446744073709551616) (hb : 0 ≤ b) (hb' : b < 18446744073709551616) (w : World) :
    Calls Tryz.prog 113 #[.int .u64 a, .int .u64 b] w fun e w' => e = .returned (.int .u64 g) ∧ Up w w' := by
  rw [← hg]; exact frac_gcd a b ha ha' hb hb' w

theorem frac_magnitude (n : Int) (h1 : -9223372036854775808 ≤ n) (h2 : n ≤ 9223372036854775807) (w : World) :
    Calls Tryz.prog 114 #[.int .i64 n] w fun e w' => e = .returned (.int .u64 (mag n)) ∧ Up w w' := by
  by_cases h : n < 0
  · go_enter Tryz.func114, Tryz.ntmps114
    go_wp2
    go_ret
    refine ⟨ret_int ?_, Up.refl _⟩
    rw [mag, if_pos h]
    exact wrap_u64_neg n h1 h
  · go_enter Tryz.func114, Tryz.ntmps114
    go_wp2
    go_ret
    refine ⟨ret_int ?_, Up.refl _⟩
    rw [mag, if_neg (by omega)]

def inR (n : Int) : Bool := decide (-2147483647 ≤ n ∧ n ≤ 2147483647)

theorem frac_inRange (n : Int) (r : Bool) (hr : inR n = r) (w : World) :
    Calls Tryz.prog 112 #[.int .i64 n] w fun e w' => e = .returned (.bool r) ∧ Up w w' := by
  subst hr
  go_enter Tryz.func112, Tryz.ntmps112
  go_wp2
  all_goals
    go_ret
    exact ⟨ret_bool (by simp [inR]; omega), Up.refl _⟩

def validF (n d : Int) : Bool := decide (1 ≤ d ∧ d ≤ 2147483647 ∧ -2147483647 ≤ n ∧ n ≤ 2147483647 ∧ Int.gcd n d = 1)

theorem frac_Valid (n d : Int) (r : Bool) (hr : validF n d = r) (w1 : -9223372036854775808 ≤ n) (w2 : n ≤ 9223372036854775807) (w : World) :
    Calls Tryz.prog 76 #[.agg #[.int .i64 n, .int .i64 d]] w fun e w' => e = .returned (.bool r) ∧ Up w w' := by
  have HR := Lib.hid hr
  clear hr
  by_cases h1 : 1 ≤ d
  · by_cases h2 : d ≤ 2147483647
    · by_cases h3 : -2147483647 ≤ n ∧ n ≤ 2147483647
      · have hr : Hid (inR n = true) := by simpa [Hid, inR] using h3
        have hm := mag_nonneg n
        have hm2 : mag n < 18446744073709551616 := by unfold mag; split <;> omega
        go_enter Tryz.func76, Tryz.ntmps76
        go_wp2
        refine wp_region_ext (by kernel_rfl) (by kernel_rfl) ?_
        repeat (go_big_quiet_step (first | (go_at_call 112; exact Calls.ext_of (frac_inRange _ true hr.out _)) | (go_at_call 114; exact Calls.ext_of (frac_magnitude _ (by omega) (by omega) _)) | (go_at_call 113; exact Calls.ext_of (frac_gcd _ _ (by omega) (by omega) (by omega) (by omega) _))))
        refine wpQuiet_nil ?_
        intro x hx
        go_wp2
        go_ret
        refine ⟨ret_bool ?_, ((Up.refl _).alloc _).trans hx⟩
        rw [← HR.out, gcd_mag_left]
        simp [validF, h1, h2, h3]
        rw [Bool.eq_iff_iff]; simp; omega
      · have hr : Hid (inR n = false) := by simp [Hid, inR]; omega
        go_enter Tryz.func76, Tryz.ntmps76
        go_wp2
        refine wp_region_ext (by kernel_rfl) (by kernel_rfl) ?_
        repeat (go_big_quiet_step (first | (go_at_call 112; exact Calls.ext_of (frac_inRange _ false hr.out _))))
        refine wpQuiet_nil ?_
        intro x hx
        go_wp2
        go_ret
        exact ⟨ret_bool (by rw [← HR.out]; simp [validF]; omega), ((Up.refl _).alloc _).trans hx⟩
    · have hd : decide (d ≤ 2147483647) = false := by simpa using h2
      go_enter Tryz.func76, Tryz.ntmps76
      go_wp2
      refine wp_region_ext (by kernel_rfl) (by kernel_rfl) ?_
      repeat (go_big_quiet_step (fail))
      refine wpQuiet_nil ?_
      intro x hx
      go_wp2
      go_ret
      exact ⟨ret_bool (by rw [← HR.out]; simp [validF]; omega), ((Up.refl _).alloc _).trans hx⟩
  · have hd : decide (1 ≤ d) = false := by simpa using h1
    go_enter Tryz.func76, Tryz.ntmps76
    go_wp2
    refine wp_region_ext (by kernel_rfl) (by kernel_rfl) ?_
    repeat (go_big_quiet_step (fail))
    refine wpQuiet_nil ?_
    intro x hx
    go_wp2
    go_ret
    exact ⟨ret_bool (by rw [← HR.out]; simp [validF]; omega), ((Up.refl _).alloc _).trans hx⟩


theorem base_gcd (a b g : Int) (hgg : (Int.gcd a b : Int) = g) (ha : 0 ≤ a) (ha' : a ≤ 9223372036854775807) (hb : 0 ≤ b) (hb' : b ≤ 9223372036854775807) (w : World) :
    Calls Tryz.prog 100 #[.int .i64 a, .int .i64 b] w fun e w' => e = .returned (.int .i64 g) ∧ Up w w' := by
  subst hgg
  go_enter Tryz.func100, Tryz.ntmps100
  go_wp2
  go_loopw [0, 1] (fun x y wr => ∃ a' b' : Int, 0 ≤ a' ∧ a' ≤ 9223372036854775807 ∧ 0 ≤ b' ∧ b' ≤ 9223372036854775807 ∧ x = .int .i64 a' ∧ y = .int .i64 b' ∧ Int.gcd a' b' = Int.gcd a b ∧ Up w wr) (fun _ y _ => (intOf y).toNat)
  case atStart => exact ⟨a, b, ha, ha', hb, hb', rfl, rfl, rfl, Up.refl _⟩
  case round =>
    rename_i wr
    obtain ⟨a', b', h1, h2, h3, h4, rfl, rfl, hg, hB⟩ := hrel
    have HG := Lib.hid hg
    clear hg
    by_cases h0 : b' = 0
    · subst h0
      go_wp2
      go_ret
      exact ⟨ret_int (by rw [← HG.out]; simp; omega), hB⟩
    · have h5 : 0 < b' := by omega
      have h6 : (b' == 0) = false := by simp [h0]
      have h7 : (b' != 0) = true := by simp [h0]
      go_wp2
      go_quiet (fail)
      go_wp2
      go_roundw
      case rel => exact ⟨b', a' % b', h3, h4, Int.emod_nonneg _ h0, by have := Int.emod_lt_of_pos a' h5; omega, rfl, rfl, by rw [gcd_step _ _ h1 h3]; exact HG.out, hB.drewN _⟩
      case measure =>
        have := Int.emod_lt_of_pos a' h5
        simp [intOf]; omega

/-- A fraction that is held against kind 'fraction'. -/
theorem base_Val_frac (k b f r o n d : Int) (res : Bool) (hr : validF n d = res) (hk : (k == 2) = false) (hk3 : (k == 3) = false) (w1 : -9223372036854775808 ≤ n) (w2 : n ≤ 9223372036854775807) (w : World) :
    Calls Tryz.prog 72 #[.agg #[.int .i64 k, .int .i64 b, .int .i64 f, .int .i64 r, .int .i64 o], .agg #[.int .i64 n, .int .i64 d]] w fun e w' => e = .returned (.bool res) ∧ Up w w' := by
  have hV := ((Up.refl w).alloc (.cells #[.int .i64 k, .int .i64 b, .int .i64 f, .int .i64 r, .int .i64 o] 40)).alloc (.cells #[.int .i64 n, .int .i64 d] 38)
  have HR := Lib.hid hr
  clear hr
  by_cases h1 : n ≤ 2147483647
  · by_cases h2 : -2147483647 ≤ n
    · by_cases h3 : 1 ≤ d
      · by_cases h4 : d ≤ 2147483647
        · obtain ⟨g, hg⟩ : ∃ g, (Int.gcd n d : Int) = g := ⟨_, rfl⟩
          have HV : Hid ((g == 1) = res) := Lib.hid (by
            rw [← HR.out, ← hg, validF, Bool.eq_iff_iff]; simp; omega)
          by_cases hs : n < 0
          · have HG : Hid ((Int.gcd (-n) d : Int) = g) := Lib.hid (by rw [Int.neg_gcd]; exact hg)
            have hs2 : n < -n := by omega
            clear hg
            go_enter Tryz.func72, Tryz.ntmps72
            go_wp2_with (go_at_call 100; refine (base_gcd _ _ _ HG.out (by omega) (by omega) (by omega) (by omega) _).mono ?_; rintro e x ⟨rfl, hx⟩)
            go_ret
            exact ⟨ret_bool (by rw [HV.out]), hV.trans (by assumption)⟩
          · have HG : Hid ((Int.gcd n d : Int) = g) := Lib.hid hg
            have hs2 : ¬ n < -n := by omega
            have hs3 : -n ≤ n := by omega
            clear hg
            go_enter Tryz.func72, Tryz.ntmps72
            go_wp2_with (go_at_call 100; refine (base_gcd _ _ _ HG.out (by omega) (by omega) (by omega) (by omega) _).mono ?_; rintro e x ⟨rfl, hx⟩)
            go_ret
            exact ⟨ret_bool (by rw [HV.out]), hV.trans (by assumption)⟩
        · have HV : Hid (res = false) := Lib.hid (by rw [← HR.out, validF]; simp; omega)
          have hx : 2147483647 < d := by omega
          go_enter Tryz.func72, Tryz.ntmps72
          go_wp2
          go_ret
          exact ⟨ret_bool (by rw [HV.out]), hV⟩
      · have HV : Hid (res = false) := Lib.hid (by rw [← HR.out, validF]; simp; omega)
        have hx : d < 1 := by omega
        go_enter Tryz.func72, Tryz.ntmps72
        go_wp2
        go_ret
        exact ⟨ret_bool (by rw [HV.out]), hV⟩
    · have HV : Hid (res = false) := Lib.hid (by rw [← HR.out, validF]; simp; omega)
      have hx : n < -2147483647 := by omega
      go_enter Tryz.func72, Tryz.ntmps72
      go_wp2
      go_ret
      exact ⟨ret_bool (by rw [HV.out]), hV⟩
  · have HV : Hid (res = false) := Lib.hid (by rw [← HR.out, validF]; simp; omega)
    have hx : 2147483647 < n := by omega
    go_enter Tryz.func72, Tryz.ntmps72
    go_wp2
    go_ret
    exact ⟨ret_bool (by rw [HV.out]), hV⟩
end Go.Proofs.YtlglfdhiopnglaaGreatDoor

