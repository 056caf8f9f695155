/-
  Contracts: Narrow of package round and of the reference of chapter 2.
-/
import Derived.Test.YtknojjmbhbbcmaaNarrow
namespace Go.Proofs.Ytknojjmbhbbcmaa
open Go.ChangeShapes Go.WideShapes Go.ChangeAt Go.RowKit

def narrowW (n b o : Int) : Int × Bool :=
  if ¬ (2 ≤ b ∧ b ≤ 31) ∨ ¬ (o = 1 ∨ o = 2) then (0, false)
  else if -(2 ^ (b.toNat - 1) : Int) ≤ n ∧ n ≤ (2 ^ (b.toNat - 1) : Int) - 1 then (n, false)
  else if o = 1 then (if n < -(2 ^ (b.toNat - 1) : Int) then -(2 ^ (b.toNat - 1) : Int) else (2 ^ (b.toNat - 1) : Int) - 1, true)
  else ((n + 2 ^ (b.toNat - 1)) % (2 ^ b.toNat : Int) - 2 ^ (b.toNat - 1), true)

theorem round_MinInt' (b m : Int) (hm : minW b = m) (w : World) :
    Calls Try.prog 35 #[.int .i64 b] w fun e w' => e = .returned (.int .i64 m) ∧ Up w w' := hm ▸ round_MinInt b w
theorem round_MaxInt' (b m : Int) (hm : maxW b = m) (w : World) :
    Calls Try.prog 36 #[.int .i64 b] w fun e w' => e = .returned (.int .i64 m) ∧ Up w w' := hm ▸ round_MaxInt b w

theorem pow_twice (b : Int) (h1 : 2 ≤ b) : (2 : Int) ^ b.toNat = 2 * 2 ^ (b.toNat - 1) := by
  have : b.toNat = (b.toNat - 1) + 1 := by omega
  rw [this, Int.pow_succ]
  simp [Int.mul_comm]

theorem shl_narrow (n b : Int) (h1 : 2 ≤ b) (h2 : b ≤ 31) : wrap64 (IntKind.u64.wrap (n * 2 ^ (64 - b).toNat)) / 2 ^ (64 - b).toNat = (n + 2 ^ (b.toNat - 1)) % 2 ^ b.toNat - 2 ^ (b.toNat - 1) := by
  have hb : b = 2 ∨ b = 3 ∨ b = 4 ∨ b = 5 ∨ b = 6 ∨ b = 7 ∨ b = 8 ∨ b = 9 ∨ b = 10 ∨ b = 11 ∨ b = 12 ∨ b = 13 ∨ b = 14 ∨ b = 15 ∨ b = 16 ∨ b = 17 ∨ b = 18 ∨ b = 19 ∨ b = 20 ∨ b = 21 ∨ b = 22 ∨ b = 23 ∨ b = 24 ∨ b = 25 ∨ b = 26 ∨ b = 27 ∨ b = 28 ∨ b = 29 ∨ b = 30 ∨ b = 31 := by omega
  rw [wrap64, IntKind.wrap_u64]
  rcases hb with rfl | rfl | rfl | rfl | rfl | rfl | rfl | rfl | rfl | rfl | rfl | rfl | rfl | rfl | rfl | rfl | rfl | rfl | rfl | rfl | rfl | rfl | rfl | rfl | rfl | rfl | rfl | rfl | rfl | rfl
  all_goals
    simp only [Int.reduceSub, Int.reduceToNat, Nat.reduceSub, Int.reducePow]
    omega

theorem wrap_u64_mul (n m : Int) : IntKind.u64.wrap (IntKind.u64.wrap n * m) = IntKind.u64.wrap (n * m) := by
  rw [IntKind.wrap_u64, IntKind.wrap_u64, IntKind.wrap_u64, Int.mul_emod (n % 18446744073709551616), Int.emod_emod_of_dvd n (Int.dvd_refl _), ← Int.mul_emod]

theorem round_Narrow (n b o : Int) (w1 : -9223372036854775808 ≤ n) (w2 : n ≤ 9223372036854775807) (w : World) :
    Calls Try.prog 57 #[.int .i64 n, .int .i64 b, .int .i64 o] w fun e w' => e = .returned (.tuple #[.int .i64 (narrowW n b o).1, .bool (narrowW n b o).2]) ∧ Up w w' := by
  by_cases h : 2 ≤ b ∧ b ≤ 31
  · have hv : Hid (vldW b = true) := Lib.hid (by simp [vldW, h])
    by_cases ho : o = 1 ∨ o = 2
    · obtain ⟨P, hP⟩ : ∃ P : Int, 2 ^ (b.toNat - 1) = P := ⟨_, rfl⟩
      have hp := pow_bd b h.1 h.2
      have HM : Hid (minW b = -P) := Lib.hid (by rw [minW, if_pos h, hP])
      have HX : Hid (maxW b = P - 1) := Lib.hid (by rw [maxW, if_pos h, hP])
      have HN := Lib.hid (show narrowW n b o = _ from (by rw [narrowW, if_neg (by simp [h, ho]), hP]))
      rw [hP] at hp
      have HA : Hid ((2 : Int) ^ b.toNat = 2 * P) := Lib.hid (by rw [← hP, pow_twice b h.1])
      have HP := Lib.hid hP
      clear hP
      obtain ⟨hp1, hp2⟩ := hp
      obtain ⟨h1, h2⟩ := h
      have hU := Up.refl w
      by_cases c1 : -P ≤ n
      · by_cases c2 : n ≤ P - 1
        · rcases ho with rfl | rfl
          all_goals
            go_enter Try.func57, Try.ntmps57
            go_wp2_with (first | (go_at_call 53; refine (round_valid _ true hv.out _).mono ?_; rintro e x ⟨rfl, hx⟩; replace hU := hU.trans hx) | (go_at_call 35; refine (round_MinInt' _ _ HM.out _).mono ?_; rintro e x ⟨rfl, hx⟩; replace hU := hU.trans hx) | (go_at_call 36; refine (round_MaxInt' _ _ HX.out _).mono ?_; rintro e x ⟨rfl, hx⟩; replace hU := hU.trans hx))
            go_ret2
            exact ⟨ret_ib (by rw [HN.out, if_pos ⟨c1, c2⟩]) (by rw [HN.out, if_pos ⟨c1, c2⟩]), hU⟩
        · have c3 : P - 1 < n := by omega
          rcases ho with rfl | rfl
          · go_enter Try.func57, Try.ntmps57
            go_wp2_with (first | (go_at_call 53; refine (round_valid _ true hv.out _).mono ?_; rintro e x ⟨rfl, hx⟩; replace hU := hU.trans hx) | (go_at_call 35; refine (round_MinInt' _ _ HM.out _).mono ?_; rintro e x ⟨rfl, hx⟩; replace hU := hU.trans hx) | (go_at_call 36; refine (round_MaxInt' _ _ HX.out _).mono ?_; rintro e x ⟨rfl, hx⟩; replace hU := hU.trans hx))
            go_ret2
            exact ⟨ret_ib (by rw [HN.out, if_neg (by omega), if_pos (by trivial), if_neg (by omega)]) (by rw [HN.out, if_neg (by omega), if_pos (by trivial)]), hU⟩
          · go_enter Try.func57, Try.ntmps57
            go_wp2_with (first | (go_at_call 53; refine (round_valid _ true hv.out _).mono ?_; rintro e x ⟨rfl, hx⟩; replace hU := hU.trans hx) | (go_at_call 35; refine (round_MinInt' _ _ HM.out _).mono ?_; rintro e x ⟨rfl, hx⟩; replace hU := hU.trans hx) | (go_at_call 36; refine (round_MaxInt' _ _ HX.out _).mono ?_; rintro e x ⟨rfl, hx⟩; replace hU := hU.trans hx))
            go_ret2
            exact ⟨ret_ib (by rw [HN.out, if_neg (by omega), if_neg (by simp), shl_narrow n b h1 h2, HP.out]) (by rw [HN.out, if_neg (by omega), if_neg (by simp)]), hU⟩
      · have c3 : n < -P := by omega
        rcases ho with rfl | rfl
        · go_enter Try.func57, Try.ntmps57
          go_wp2_with (first | (go_at_call 53; refine (round_valid _ true hv.out _).mono ?_; rintro e x ⟨rfl, hx⟩; replace hU := hU.trans hx) | (go_at_call 35; refine (round_MinInt' _ _ HM.out _).mono ?_; rintro e x ⟨rfl, hx⟩; replace hU := hU.trans hx) | (go_at_call 36; refine (round_MaxInt' _ _ HX.out _).mono ?_; rintro e x ⟨rfl, hx⟩; replace hU := hU.trans hx))
          go_ret2
          exact ⟨ret_ib (by rw [HN.out, if_neg (by omega), if_pos (by trivial), if_pos (by omega)]) (by rw [HN.out, if_neg (by omega), if_pos (by trivial)]), hU⟩
        · go_enter Try.func57, Try.ntmps57
          go_wp2_with (first | (go_at_call 53; refine (round_valid _ true hv.out _).mono ?_; rintro e x ⟨rfl, hx⟩; replace hU := hU.trans hx) | (go_at_call 35; refine (round_MinInt' _ _ HM.out _).mono ?_; rintro e x ⟨rfl, hx⟩; replace hU := hU.trans hx) | (go_at_call 36; refine (round_MaxInt' _ _ HX.out _).mono ?_; rintro e x ⟨rfl, hx⟩; replace hU := hU.trans hx))
          go_ret2
          exact ⟨ret_ib (by rw [HN.out, if_neg (by omega), if_neg (by simp), wrap_u64_mul, shl_narrow n b h1 h2, HP.out]) (by rw [HN.out, if_neg (by omega), if_neg (by simp)]), hU⟩
    · have HN := Lib.hid (show narrowW n b o = _ from (by rw [narrowW, if_pos (Or.inr ho)]))
      have o1 : (o == 1) = false := by simp; omega
      have o2 : (o == 2) = false := by simp; omega
      have o3 : (o != 1) = true := by simp; omega
      have o4 : (o != 2) = true := by simp; omega
      obtain ⟨h1, h2⟩ := h
      clear ho
      have hU := Up.refl w
      go_enter Try.func57, Try.ntmps57
      go_wp2_with (go_at_call 53; refine (round_valid _ true hv.out _).mono ?_; rintro e x ⟨rfl, hx⟩; replace hU := hU.trans hx)
      go_ret2
      exact ⟨ret_ib (by rw [HN.out]) (by rw [HN.out]), hU⟩
  · have hv : Hid (vldW b = false) := Lib.hid (by simp [vldW]; omega)
    have HN := Lib.hid (show narrowW n b o = _ from (by rw [narrowW, if_pos (Or.inl h)]))
    have hU := Up.refl w
    clear h
    go_enter Try.func57, Try.ntmps57
    go_wp2_with (go_at_call 53; refine (round_valid _ false hv.out _).mono ?_; rintro e x ⟨rfl, hx⟩; replace hU := hU.trans hx)
    go_ret2
    exact ⟨ret_ib (by rw [HN.out]) (by rw [HN.out]), hU⟩

end Go.Proofs.Ytknojjmbhbbcmaa
