/-
  Contracts: the range of a width and narrowing, of package round and of the reference of chapter 2.
-/
import Derived.Test.YtknojjmbhbbcmaaRows
import Derived.Test.YtknojjmbhbbcmaaB
import Derived.Test.YtknojjmbhbbcmaaM
namespace Go.Proofs.Ytknojjmbhbbcmaa
open Go.ChangeShapes Go.WideShapes Go.ChangeAt Go.RowKit

def vldW (b : Int) : Bool := decide (2 ≤ b ∧ b ≤ 31)
def minW (b : Int) : Int := if 2 ≤ b ∧ b ≤ 31 then -(2 ^ (b.toNat - 1) : Int) else 0
def maxW (b : Int) : Int := if 2 ≤ b ∧ b ≤ 31 then (2 ^ (b.toNat - 1) : Int) - 1 else 0

theorem round_valid (b : Int) (r : Bool) (hr : vldW b = r) (w : World) :
    Calls Try.prog 53 #[.int .i64 b] w fun e w' => e = .returned (.bool r) ∧ Up w w' := by
  subst hr
  go_enter Try.func53, Try.ntmps53
  go_wp2
  all_goals
    go_ret
    exact ⟨ret_bool (by simp [vldW]; omega), Up.refl _⟩

theorem pow_bd (b : Int) (h1 : 2 ≤ b) (h2 : b ≤ 31) : 2 ≤ (2 : Int) ^ (b.toNat - 1) ∧ (2 : Int) ^ (b.toNat - 1) ≤ 1073741824 := by
  have hb : b = 2 ∨ b = 3 ∨ b = 4 ∨ b = 5 ∨ b = 6 ∨ b = 7 ∨ b = 8 ∨ b = 9 ∨ b = 10 ∨ b = 11 ∨ b = 12 ∨ b = 13 ∨ b = 14 ∨ b = 15 ∨ b = 16 ∨ b = 17 ∨ b = 18 ∨ b = 19 ∨ b = 20 ∨ b = 21 ∨ b = 22 ∨ b = 23 ∨ b = 24 ∨ b = 25 ∨ b = 26 ∨ b = 27 ∨ b = 28 ∨ b = 29 ∨ b = 30 ∨ b = 31 := by omega
  rcases hb with rfl | rfl | rfl | rfl | rfl | rfl | rfl | rfl | rfl | rfl | rfl | rfl | rfl | rfl | rfl | rfl | rfl | rfl | rfl | rfl | rfl | rfl | rfl | rfl | rfl | rfl | rfl | rfl | rfl | rfl
  all_goals decide

theorem round_MinInt (b : Int) (w : World) :
    Calls Try.prog 35 #[.int .i64 b] w fun e w' => e = .returned (.int .i64 (minW b)) ∧ Up w w' := by
  by_cases h : 2 ≤ b ∧ b ≤ 31
  · have hv : Hid (vldW b = true) := Lib.hid (by simp [vldW, h])
    obtain ⟨h1, h2⟩ := h
    have hp := pow_bd b h1 h2
    have hm : Hid (minW b = -(2 ^ (b.toNat - 1) : Int)) := Lib.hid (by rw [minW, if_pos ⟨h1, h2⟩])
    obtain ⟨hp1, hp2⟩ := hp
    go_enter Try.func35, Try.ntmps35
    go_wp2_with (go_at_call 53; refine (round_valid _ true hv.out _).mono ?_; rintro e x ⟨rfl, hx⟩)
    go_ret
    exact ⟨ret_int (by rw [hm.out]), by assumption⟩
  · have hv : Hid (vldW b = false) := Lib.hid (by simp [vldW]; omega)
    have hm : Hid (minW b = 0) := Lib.hid (by rw [minW, if_neg h])
    clear h
    go_enter Try.func35, Try.ntmps35
    go_wp2_with (go_at_call 53; refine (round_valid _ false hv.out _).mono ?_; rintro e x ⟨rfl, hx⟩)
    go_ret
    exact ⟨ret_int (by rw [hm.out]), by assumption⟩

theorem round_MaxInt (b : Int) (w : World) :
    Calls Try.prog 36 #[.int .i64 b] w fun e w' => e = .returned (.int .i64 (maxW b)) ∧ Up w w' := by
  by_cases h : 2 ≤ b ∧ b ≤ 31
  · have hv : Hid (vldW b = true) := Lib.hid (by simp [vldW, h])
    obtain ⟨h1, h2⟩ := h
    have hp := pow_bd b h1 h2
    have hm : Hid (maxW b = (2 ^ (b.toNat - 1) : Int) - 1) := Lib.hid (by rw [maxW, if_pos ⟨h1, h2⟩])
    obtain ⟨hp1, hp2⟩ := hp
    go_enter Try.func36, Try.ntmps36
    go_wp2_with (go_at_call 53; refine (round_valid _ true hv.out _).mono ?_; rintro e x ⟨rfl, hx⟩)
    go_ret
    exact ⟨ret_int (by rw [hm.out]), by assumption⟩
  · have hv : Hid (vldW b = false) := Lib.hid (by simp [vldW]; omega)
    have hm : Hid (maxW b = 0) := Lib.hid (by rw [maxW, if_neg h])
    clear h
    go_enter Try.func36, Try.ntmps36
    go_wp2_with (go_at_call 53; refine (round_valid _ false hv.out _).mono ?_; rintro e x ⟨rfl, hx⟩)
    go_ret
    exact ⟨ret_int (by rw [hm.out]), by assumption⟩
end Go.Proofs.Ytknojjmbhbbcmaa
