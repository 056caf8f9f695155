/-
  Contracts of package round.
-/
import Derived.Test.YtknojjmbhbbcmaaRows
import Derived.Test.YtknojjmbhbbcmaaB
import Derived.Test.YtknojjmbhbbcmaaM
import Derived.Test.YtknojjmbhbbcmaaFrac
namespace Go.Proofs.Ytknojjmbhbbcmaa
open Go.ChangeShapes Go.WideShapes Go.ChangeAt Go.RowKit

theorem round_magnitude (n : Int) (h1 : -9223372036854775808 ≤ n) (h2 : n ≤ 9223372036854775807) (w : World) :
    Calls Try.prog 59 #[.int .i64 n] w fun e w' => e = .returned (.int .u64 (mag n)) ∧ Up w w' := by
  by_cases h : n < 0
  · go_enter Try.func59, Try.ntmps59
    go_wp2
    go_ret
    refine ⟨ret_int ?_, Up.refl _⟩
    rw [mag, if_pos h]
    exact wrap_u64_neg n h1 h
  · go_enter Try.func59, Try.ntmps59
    go_wp2
    go_ret
    refine ⟨ret_int ?_, Up.refl _⟩
    rw [mag, if_neg (by omega)]

theorem round_mode (how : Int) (r : Bool) (hr : isMode how = r) (w : World) :
    Calls Try.prog 55 #[.int .i64 how] w fun e w' => e = .returned (.bool r) ∧ Up w w' := by
  subst hr
  go_enter Try.func55, Try.ntmps55
  go_wp2
  all_goals
    go_ret
    exact ⟨ret_bool (by simp [isMode]; omega), Up.refl _⟩

set_option maxHeartbeats 4000000 in
theorem round_rounded (a b : Int) (neg : Bool) (how : Int) (ha : 0 ≤ a) (ha' : a ≤ 9223372036854775808) (hb : 1 ≤ b) (hb' : b ≤ 9223372036854775808) (hm1 : 1 ≤ how) (hm2 : how ≤ 4) (w : World) :
    Calls Try.prog 58 #[.int .u64 a, .int .u64 b, .bool neg, .int .i64 how] w fun e w' => e = .returned (.int .u64 (rnd a b neg how)) ∧ Up w w' := by
  have hq0 : 0 ≤ a / b := Int.ediv_nonneg ha (by omega)
  have hq1 : a / b ≤ a := Int.ediv_le_self _ ha
  have hr0 : 0 ≤ a % b := Int.emod_nonneg _ (by omega)
  have hr1 : a % b < b := Int.emod_lt_of_pos _ (by omega)
  have i0 : ∀ w, (Instr.index 62 (.agg #[.int .u64 (a / b), .int .u64 (a / b + 1)]) (.int .i64 0)).run Try.prog w = .ok (.int .u64 (a / b)) w := fun _ => by kernel_rfl
  have i1 : ∀ w, (Instr.index 62 (.agg #[.int .u64 (a / b), .int .u64 (a / b + 1)]) (.int .i64 1)).run Try.prog w = .ok (.int .u64 (a / b + 1)) w := fun _ => by kernel_rfl
  have HC : a % b = 0 ∨ (a % b ≠ 0 ∧ how = 3) ∨ (a % b ≠ 0 ∧ how = 1 ∧ neg = true) ∨ (a % b ≠ 0 ∧ how = 1 ∧ neg = false) ∨ (a % b ≠ 0 ∧ how = 2 ∧ neg = true) ∨ (a % b ≠ 0 ∧ how = 2 ∧ neg = false) ∨
      (a % b ≠ 0 ∧ how = 4 ∧ 2 * (a % b) < b) ∨ (a % b ≠ 0 ∧ how = 4 ∧ 2 * (a % b) = b ∧ a / b % 2 = 0) ∨ (a % b ≠ 0 ∧ how = 4 ∧ 2 * (a % b) = b ∧ a / b % 2 ≠ 0) ∨ (a % b ≠ 0 ∧ how = 4 ∧ b < 2 * (a % b)) := by
    cases neg <;> simp <;> omega
  rcases HC with h0 | ⟨h0, rfl⟩ | ⟨h0, rfl, rfl⟩ | ⟨h0, rfl, rfl⟩ | ⟨h0, rfl, rfl⟩ | ⟨h0, rfl, rfl⟩ | ⟨h0, rfl, h1⟩ | ⟨h0, rfl, h1, h2⟩ | ⟨h0, rfl, h1, h2⟩ | ⟨h0, rfl, h1⟩
  all_goals
    go_enter Try.func58, Try.ntmps58
    go_wp2
    go_step3
    go_wp2
    refine wp_region_ext (by kernel_rfl) (by kernel_rfl) ?_
    repeat (go_big_quiet_step (fail))
    refine wpQuiet_nil ?_
    intro x hx
    go_wp2
    go_step3
    go_wp2
    refine wp_loop_rounds 3 ?_
    rw [rounds_succ]
    go_wp2
    try (rw [rounds_succ]; go_wp2; rw [rounds_succ]; go_wp2)
    try rw [Exit.noGoto_ret]
    go_ret
    exact ⟨ret_int (by first | (simp [rnd, *]; done) | (simp [rnd, *]; omega)), hx⟩
end Go.Proofs.Ytknojjmbhbbcmaa
