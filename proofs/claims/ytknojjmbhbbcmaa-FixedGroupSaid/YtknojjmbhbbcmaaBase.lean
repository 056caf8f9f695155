/-
  Contracts of package brocadebase: gcd, Val.
-/
import Derived.Test.YtknojjmbhbbcmaaRows
import Derived.Test.YtknojjmbhbbcmaaB
import Derived.Test.YtknojjmbhbbcmaaM
import Derived.Test.YtknojjmbhbbcmaaFrac
namespace Go.Proofs.Ytknojjmbhbbcmaa
open Go.ChangeShapes Go.WideShapes Go.ChangeAt Go.RowKit

theorem base_gcd (a b g : Int) (hgg : (Int.gcd a b : Int) = g) (ha : 0 ≤ a) (ha' : a ≤ 9223372036854775807) (hb : 0 ≤ b) (hb' : b ≤ 9223372036854775807) (w : World) :
    Calls Try.prog 54 #[.int .i64 a, .int .i64 b] w fun e w' => e = .returned (.int .i64 g) ∧ Up w w' := by
  subst hgg
  go_enter Try.func54, Try.ntmps54
  go_wp2
  go_loopw [0, 1] (fun x y wr => ∃ a' b' : Int, 0 ≤ a' ∧ a' ≤ 9223372036854775807 ∧ 0 ≤ b' ∧ b' ≤ 9223372036854775807 ∧ x = .int .i64 a' ∧ y = .int .i64 b' ∧ Int.gcd a' b' = Int.gcd a b ∧ Up w wr) (fun _ y _ => (intOf y).toNat)
  case atStart => exact ⟨a, b, ha, ha', hb, hb', rfl, rfl, rfl, Up.refl _⟩
  case round =>
    rename_i wr
    obtain ⟨a', b', h1, h2, h3, h4, rfl, rfl, hg, hB⟩ := hrel
    have HG := Lib.hid hg
    clear hg
    by_cases h0 : b' = 0
    · subst h0
      go_wp2
      go_ret
      exact ⟨ret_int (by rw [← HG.out]; simp; omega), hB⟩
    · have h5 : 0 < b' := by omega
      have h6 : (b' == 0) = false := by simp [h0]
      have h7 : (b' != 0) = true := by simp [h0]
      go_wp2
      go_quiet (fail)
      go_wp2
      go_roundw
      case rel => exact ⟨b', a' % b', h3, h4, Int.emod_nonneg _ h0, by have := Int.emod_lt_of_pos a' h5; omega, rfl, rfl, by rw [gcd_step _ _ h1 h3]; exact HG.out, hB.drewN _⟩
      case measure =>
        have := Int.emod_lt_of_pos a' h5
        simp [intOf]; omega

/-- A fraction that is held against kind 'fraction'. -/
theorem base_Val_frac (k b f r o n d : Int) (res : Bool) (hr : validF n d = res) (hk : (k == 2) = false) (hk3 : (k == 3) = false) (w1 : -9223372036854775808 ≤ n) (w2 : n ≤ 9223372036854775807) (w : World) :
    Calls Try.prog 37 #[.agg #[.int .i64 k, .int .i64 b, .int .i64 f, .int .i64 r, .int .i64 o], .agg #[.int .i64 n, .int .i64 d]] w fun e w' => e = .returned (.bool res) ∧ Up w w' := by
  have hV := ((Up.refl w).alloc (.cells #[.int .i64 k, .int .i64 b, .int .i64 f, .int .i64 r, .int .i64 o] 23)).alloc (.cells #[.int .i64 n, .int .i64 d] 25)
  have HR := Lib.hid hr
  clear hr
  by_cases h1 : n ≤ 2147483647
  · by_cases h2 : -2147483647 ≤ n
    · by_cases h3 : 1 ≤ d
      · by_cases h4 : d ≤ 2147483647
        · obtain ⟨g, hg⟩ : ∃ g, (Int.gcd n d : Int) = g := ⟨_, rfl⟩
          have HV : Hid ((g == 1) = res) := Lib.hid (by
            rw [← HR.out, ← hg, validF, Bool.eq_iff_iff]; simp; omega)
          by_cases hs : n < 0
          · have HG : Hid ((Int.gcd (-n) d : Int) = g) := Lib.hid (by rw [Int.neg_gcd]; exact hg)
            have hs2 : n < -n := by omega
            clear hg
            go_enter Try.func37, Try.ntmps37
            go_wp2_with (go_at_call 54; refine (base_gcd _ _ _ HG.out (by omega) (by omega) (by omega) (by omega) _).mono ?_; rintro e x ⟨rfl, hx⟩)
            go_ret
            exact ⟨ret_bool (by rw [HV.out]), hV.trans (by assumption)⟩
          · have HG : Hid ((Int.gcd n d : Int) = g) := Lib.hid hg
            have hs2 : ¬ n < -n := by omega
            have hs3 : -n ≤ n := by omega
            clear hg
            go_enter Try.func37, Try.ntmps37
            go_wp2_with (go_at_call 54; refine (base_gcd _ _ _ HG.out (by omega) (by omega) (by omega) (by omega) _).mono ?_; rintro e x ⟨rfl, hx⟩)
            go_ret
            exact ⟨ret_bool (by rw [HV.out]), hV.trans (by assumption)⟩
        · have HV : Hid (res = false) := Lib.hid (by rw [← HR.out, validF]; simp; omega)
          have hx : 2147483647 < d := by omega
          go_enter Try.func37, Try.ntmps37
          go_wp2
          go_ret
          exact ⟨ret_bool (by rw [HV.out]), hV⟩
      · have HV : Hid (res = false) := Lib.hid (by rw [← HR.out, validF]; simp; omega)
        have hx : d < 1 := by omega
        go_enter Try.func37, Try.ntmps37
        go_wp2
        go_ret
        exact ⟨ret_bool (by rw [HV.out]), hV⟩
    · have HV : Hid (res = false) := Lib.hid (by rw [← HR.out, validF]; simp; omega)
      have hx : n < -2147483647 := by omega
      go_enter Try.func37, Try.ntmps37
      go_wp2
      go_ret
      exact ⟨ret_bool (by rw [HV.out]), hV⟩
  · have HV : Hid (res = false) := Lib.hid (by rw [← HR.out, validF]; simp; omega)
    have hx : 2147483647 < n := by omega
    go_enter Try.func37, Try.ntmps37
    go_wp2
    go_ret
    exact ⟨ret_bool (by rw [HV.out]), hV⟩
end Go.Proofs.Ytknojjmbhbbcmaa
