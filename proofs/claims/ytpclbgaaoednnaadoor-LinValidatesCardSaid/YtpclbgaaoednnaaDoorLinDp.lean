/-
  The reference's wide integers: plus, size, find.
-/
import Derived.Test.YtpclbgaaoednnaaDoorLinDw
namespace Go.Proofs.YtpclbgaaoednnaaDoor
open Go.ChangeShapes Go.WideShapes Go.ChangeAt Go.RowKit
set_option linter.unusedVariables false
set_option linter.unusedSimpArgs false

theorem wrap_mul32 (x y : Int) (x0 : 0 ≤ x) (x1 : x ≤ 4294967295) (y0 : 0 ≤ y) (y1 : y ≤ 4294967295) : IntKind.u64.wrap (x * y) = x * y := by
  obtain ⟨h0, h1⟩ := mul_bd32 x y x0 x1 y0 y1
  rw [IntKind.wrap_u64]; omega

theorem plus_bd (a b V T : Int) (hV : 0 ≤ V) (hT : V + a * b = T) (a0 : 0 ≤ a) (a1 : a < 18446744073709551616) (b0 : 0 ≤ b) (b1 : b < 18446744073709551616) :
    ∃ p q r s : Int, (a % 4294967296) * (b % 4294967296) = p ∧ (a % 4294967296) * (b / 4294967296) = q ∧ (a / 4294967296) * (b % 4294967296) = r ∧ (a / 4294967296) * (b / 4294967296) = s ∧ (0 ≤ p ∧ p < 18446744073709551616) ∧ (0 ≤ q ∧ q < 18446744073709551616) ∧ (0 ≤ r ∧ r < 18446744073709551616) ∧ (0 ≤ s ∧ s < 18446744073709551616) ∧ V + p + q * 4294967296 + r * 4294967296 + s * 18446744073709551616 = T := by
  obtain ⟨p0, p1⟩ := mul_bd32 (a % 4294967296) (b % 4294967296) (by omega) (by omega) (by omega) (by omega)
  obtain ⟨q0, q1⟩ := mul_bd32 (a % 4294967296) (b / 4294967296) (by omega) (by omega) (by omega) (by omega)
  obtain ⟨r0, r1⟩ := mul_bd32 (a / 4294967296) (b % 4294967296) (by omega) (by omega) (by omega) (by omega)
  obtain ⟨s0, s1⟩ := mul_bd32 (a / 4294967296) (b / 4294967296) (by omega) (by omega) (by omega) (by omega)
  have h := halves a b
  refine ⟨_, _, _, _, rfl, rfl, rfl, rfl, by omega, by omega, by omega, by omega, ?_⟩
  omega

theorem r05_size (n : Int) (h1 : -9223372036854775808 ≤ n) (h2 : n ≤ 9223372036854775807) (w : World) :
    Calls Tryd.prog 21 #[.int .i64 n] w fun e w' => e = .returned (.int .u64 (mag n)) ∧ w' = w := by
  by_cases h : n < 0
  · have e1 : wrap64 (-(n + 1)) = -(n + 1) := by unfold wrap64; omega
    have e2 : IntKind.u64.wrap (-(n + 1)) = -(n + 1) := by rw [IntKind.wrap_u64]; omega
    have h3 : n + 1 ≤ 0 := by omega
    have h4 : -9223372036854775807 ≤ n + 1 := by omega
    go_enter Tryd.func21, Tryd.ntmps21
    go_wp2
    go_ret
    refine ⟨ret_int ?_, rfl⟩
    rw [mag, if_pos h]
    try simp only [e1, e2]
    try rw [IntKind.wrap_u64]
    omega
  · have h0 : 0 ≤ n := by omega
    go_enter Tryd.func21, Tryd.ntmps21
    go_wp2
    go_ret
    refine ⟨ret_int ?_, rfl⟩
    rw [mag, if_neg (by omega)]

def foundF (o : Option Int) : Int × Bool := match o with
  | none => (0, false)
  | some v => (v, true)
end Go.Proofs.YtpclbgaaoednnaaDoor

