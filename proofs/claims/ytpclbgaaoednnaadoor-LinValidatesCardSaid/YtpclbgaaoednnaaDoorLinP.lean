/-
  Products of 64-bit numbers (the program's side).
-/
import Derived.Test.YtpclbgaaoednnaaDoorLin0
import Derived.Test.YtpclbgaaoednnaaDoorM
import Derived.Laws.BitsLemmas
namespace Go.Proofs.YtpclbgaaoednnaaDoor
set_option linter.unusedSimpArgs false
open Go.ChangeShapes Go.WideShapes Go.ChangeAt Go.RowKit
set_option linter.unusedVariables false

theorem wraps_u64 (n : Int) (h₀ : 0 ≤ n) (h₁ : n < 2 ^ 64) : IntKind.u64.wrap n = n := by rw [IntKind.wrap_u64]; omega
theorem u64_low (x : Int) (h₀ : 0 ≤ x) (h₁ : x < 18446744073709551616) : bits .and .u64 x 4294967295 = x % 4294967296 :=
  bits_mask .u64 64 (by decide) wraps_u64 32 (by decide) x h₀ (by omega)
theorem u64_low_wrap (x : Int) : bits .and .u64 (IntKind.u64.wrap x) 4294967295 = (IntKind.u64.wrap x) % 4294967296 := by
  rw [u64_low _ (by rw [IntKind.wrap_u64]; omega) (by rw [IntKind.wrap_u64]; omega)]

theorem mul_bd32 (x y : Int) (x0 : 0 ≤ x) (x1 : x ≤ 4294967295) (y0 : 0 ≤ y) (y1 : y ≤ 4294967295) : 0 ≤ x * y ∧ x * y ≤ 18446744065119617025 := by
  refine ⟨Int.mul_nonneg x0 y0, ?_⟩
  have h1 : x * y ≤ 4294967295 * y := Int.mul_le_mul_of_nonneg_right x1 y0
  omega

theorem hi_arith (p11 p10 p01 p00 ab : Int) (a0 : 0 ≤ p11) (a1 : p11 ≤ 18446744065119617025) (b0 : 0 ≤ p10) (b1 : p10 ≤ 18446744065119617025) (c0 : 0 ≤ p01) (c1 : p01 ≤ 18446744065119617025) (d0 : 0 ≤ p00) (d1 : p00 ≤ 18446744065119617025)
    (h : ab = p11 * 18446744073709551616 + (p10 + p01) * 4294967296 + p00) (hm : ab < 18446744073709551616 * 18446744073709551616) :
    ((p11 % 18446744073709551616 + (p10 % 18446744073709551616 + p00 % 18446744073709551616 / 4294967296) % 18446744073709551616 / 4294967296) % 18446744073709551616 +
      (p01 % 18446744073709551616 + (p10 % 18446744073709551616 + p00 % 18446744073709551616 / 4294967296) % 18446744073709551616 % 4294967296) % 18446744073709551616 / 4294967296) % 18446744073709551616 = ab / 18446744073709551616 := by
  have e1 : p00 % 18446744073709551616 = p00 := by omega
  have e2 : p10 % 18446744073709551616 = p10 := by omega
  have e3 : p01 % 18446744073709551616 = p01 := by omega
  have e4 : p11 % 18446744073709551616 = p11 := by omega
  rw [e1, e2, e3, e4]
  obtain ⟨mid, hmid⟩ : ∃ mid, p10 + p00 / 4294967296 = mid := ⟨_, rfl⟩
  rw [hmid]
  have e5 : mid % 18446744073709551616 = mid := by omega
  rw [e5]
  obtain ⟨cr, hcr⟩ : ∃ cr, p01 + mid % 4294967296 = cr := ⟨_, rfl⟩
  rw [hcr]
  have e6 : cr % 18446744073709551616 = cr := by omega
  rw [e6]
  omega

theorem split_mul (a b x1 x0 y1 y0 : Int) (ha : a = x1 * 4294967296 + x0) (hb : b = y1 * 4294967296 + y0) : a * b = x1 * y1 * 18446744073709551616 + (x1 * y0 + x0 * y1) * 4294967296 + x0 * y0 := by
  subst ha hb
  rw [Int.add_mul, Int.mul_add, Int.mul_add, Int.add_mul]
  rw [show x1 * 4294967296 * (y1 * 4294967296) = x1 * y1 * 18446744073709551616 by
    rw [Int.mul_assoc, Int.mul_comm 4294967296 (y1 * 4294967296), ← Int.mul_assoc, ← Int.mul_assoc, Int.mul_assoc]; rfl]
  rw [show x1 * 4294967296 * y0 = x1 * y0 * 4294967296 by rw [Int.mul_assoc, Int.mul_comm 4294967296 y0, Int.mul_assoc]]
  rw [show x0 * (y1 * 4294967296) = x0 * y1 * 4294967296 by rw [Int.mul_assoc]]
  omega

theorem lin_product (a b : Int) (a0 : 0 ≤ a) (a1 : a < 18446744073709551616) (b0 : 0 ≤ b) (b1 : b < 18446744073709551616) (w : World) :
    Calls Tryd.prog 27 #[.int .u64 a, .int .u64 b] w fun e w' => e = .returned (.tuple #[.int .u64 (a * b / 18446744073709551616), .int .u64 (a * b % 18446744073709551616)]) ∧ w' = w := by
  go_enter Tryd.func27, Tryd.ntmps27
  go_wp2
  go_ret2
  refine ⟨ret_ii ?_ (by rw [IntKind.wrap_u64]), rfl⟩
  rw [u64_low_wrap, u64_low a a0 a1, u64_low b b0 b1]
  simp only [IntKind.wrap_u64]
  have hm : a * b < 18446744073709551616 * 18446744073709551616 := by
    have h1 : a * b ≤ 18446744073709551615 * b := Int.mul_le_mul_of_nonneg_right (by omega) b0
    omega
  have hs := split_mul a b (a / 4294967296) (a % 4294967296) (b / 4294967296) (b % 4294967296) (by omega) (by omega)
  obtain ⟨q0, q1⟩ := mul_bd32 (a / 4294967296) (b / 4294967296) (by omega) (by omega) (by omega) (by omega)
  obtain ⟨q2, q3⟩ := mul_bd32 (a / 4294967296) (b % 4294967296) (by omega) (by omega) (by omega) (by omega)
  obtain ⟨q4, q5⟩ := mul_bd32 (a % 4294967296) (b / 4294967296) (by omega) (by omega) (by omega) (by omega)
  obtain ⟨q6, q7⟩ := mul_bd32 (a % 4294967296) (b % 4294967296) (by omega) (by omega) (by omega) (by omega)
  exact hi_arith _ _ _ _ _ q0 q1 q2 q3 q4 q5 q6 q7 hs hm

theorem lin_magnitude (n : Int) (h1 : -9223372036854775808 ≤ n) (h2 : n ≤ 9223372036854775807) (w : World) :
    Calls Tryd.prog 18 #[.int .i64 n] w fun e w' => e = .returned (.int .u64 (mag n)) ∧ w' = w := by
  by_cases h : n < 0
  · go_enter Tryd.func18, Tryd.ntmps18
    go_wp2
    go_ret
    refine ⟨ret_int ?_, rfl⟩
    rw [mag, if_pos h]
    exact wrap_u64_neg n h1 h
  · go_enter Tryd.func18, Tryd.ntmps18
    go_wp2
    go_ret
    refine ⟨ret_int ?_, rfl⟩
    rw [mag, if_neg (by omega)]
end Go.Proofs.YtpclbgaaoednnaaDoor

