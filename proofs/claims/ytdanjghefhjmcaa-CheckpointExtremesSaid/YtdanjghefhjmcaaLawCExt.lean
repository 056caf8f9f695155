/-
  CheckpointExtremes: the walk of the law.
-/
import Derived.Test.YtdanjghefhjmcaaChEx
import Derived.Test.YtdanjghefhjmcaaChFacts
namespace Go.Proofs.Ytdanjghefhjmcaa.checkpointExtremes
open Go.ChangeShapes Go.WideShapes Go.ChangeAt Go.RowKit
set_option linter.unusedVariables false

theorem walk (W : World) {x y : Int} (w0 : (Lit.int .u8 x).wf = true) (w1 : (Lit.int .u8 y).wf = true) :
    Calls Try.prog 8 #[.int .u8 x, .int .u8 y] W fun e w' => e = .returned (.bool true) ∧ Up W w' := by
  obtain ⟨x0, x1⟩ := bounds_u8 w0
  obtain ⟨y0, y1⟩ := bounds_u8 w1
  clear w0 w1
  have n0 : 0 ≤ x % 65 := Int.emod_nonneg _ (by omega)
  have n1 : x % 65 < 65 := Int.emod_lt_of_pos x (by omega)
  have s0 : 0 ≤ y % 64 := Int.emod_nonneg _ (by omega)
  have s1 : y % 64 < 64 := Int.emod_lt_of_pos y (by omega)
  obtain ⟨n, hn⟩ := Int.eq_ofNat_of_zero_le n0
  obtain ⟨s, hs⟩ := Int.eq_ofNat_of_zero_le s0
  rw [hn] at n1
  rw [hs] at s1
  clear n0 s0
  obtain ⟨e3, e4, e5⟩ := ext3 n s (by omega) (by omega)
  have e1 := ext1 n (by omega)
  have e2 := ext2 n (by omega)
  obtain ⟨a, ha⟩ : ∃ a, costF n 0 = a := ⟨_, rfl⟩
  obtain ⟨c, hc⟩ : ∃ c, costF n s = c := ⟨_, rfl⟩
  obtain ⟨d, hd⟩ : ∃ d, costF n (s + 1) = d := ⟨_, rfl⟩
  rw [ha] at e1
  rw [hc] at e3 e4 e5
  rw [hd] at e3
  rw [← e1] at e4
  have E1 := Lib.hid e1
  have E2 := Lib.hid e2
  have HA := Lib.hid ha
  have HC := Lib.hid hc
  have HD := Lib.hid hd
  clear e1 e2 ha hc hd
  have l1 : (d : Int) ≤ c := by omega
  have l2 : (c : Int) ≤ a := by omega
  rcases (by omega : n = 0 ∨ n = 1 ∨ 2 ≤ n) with h0 | h0 | h0
  · subst h0
    have ha0 : a = 0 := by rw [E1.out]
    subst ha0
    have hc0 : c = 0 := by omega
    have hd0 : d = 0 := by omega
    subst hc0 hd0
    go_enter Try.func8, Try.ntmps8
    go_wp2_with fail
    refine (chk_Cost_at _ _ 0 0 0 rfl rfl (by omega) (by omega) (by have := HA.out; omega) _).mono ?_
    rintro e x1 ⟨rfl, hx1⟩
    go_wp2_with fail
    refine (chk_Cost_at _ _ 0 0 (0 - 1) rfl (by omega) (by omega) (by omega) (by have := E2.out; omega) _).mono ?_
    rintro e x2 ⟨rfl, hx2⟩
    go_wp2_with fail
    refine (chk_Cost_at _ _ 0 0 s rfl rfl (by omega) (by omega) (by have := HC.out; omega) _).mono ?_
    rintro e x3 ⟨rfl, hx3⟩
    go_wp2_with fail
    refine (chk_Cost_at _ _ 0 0 (s + 1) rfl (by omega) (by omega) (by omega) (by have := HD.out; omega) _).mono ?_
    rintro e x4 ⟨rfl, hx4⟩
    go_wp2_with fail
    refine (law28_examples _).mono ?_
    rintro e x5 ⟨rfl, hx5⟩
    go_wp2_with fail
    go_ret
    exact ⟨rfl, (((hx1.trans hx2).trans hx3).trans hx4).trans hx5⟩
  · subst h0
    have ha0 : a = 0 := by rw [E1.out]
    subst ha0
    have hc0 : c = 0 := by omega
    have hd0 : d = 0 := by omega
    subst hc0 hd0
    go_enter Try.func8, Try.ntmps8
    go_wp2_with fail
    refine (chk_Cost_at _ _ 0 1 0 rfl rfl (by omega) (by omega) (by have := HA.out; omega) _).mono ?_
    rintro e x1 ⟨rfl, hx1⟩
    go_wp2_with fail
    refine (chk_Cost_at _ _ 0 1 (1 - 1) rfl (by omega) (by omega) (by omega) (by have := E2.out; omega) _).mono ?_
    rintro e x2 ⟨rfl, hx2⟩
    go_wp2_with fail
    refine (chk_Cost_at _ _ 0 1 s rfl rfl (by omega) (by omega) (by have := HC.out; omega) _).mono ?_
    rintro e x3 ⟨rfl, hx3⟩
    go_wp2_with fail
    refine (chk_Cost_at _ _ 0 1 (s + 1) rfl (by omega) (by omega) (by omega) (by have := HD.out; omega) _).mono ?_
    rintro e x4 ⟨rfl, hx4⟩
    go_wp2_with fail
    refine (law28_examples _).mono ?_
    rintro e x5 ⟨rfl, hx5⟩
    go_wp2_with fail
    go_ret
    exact ⟨rfl, (((hx1.trans hx2).trans hx3).trans hx4).trans hx5⟩
  · have hm : (0 : Int) < (n : Int) - 1 := by omega
    obtain ⟨p, hp⟩ : ∃ p : Nat, n * (n - 1) = p := ⟨_, rfl⟩
    have hpi : (n : Int) * ((n : Int) - 1) = (p : Int) := by
      rw [← hp]; have : ((n - 1 : Nat) : Int) = (n : Int) - 1 := by omega
      rw [Int.natCast_mul, this]
    have hpb : p ≤ 64 * 63 := by rw [← hp]; exact Nat.mul_le_mul (by omega) (by omega)
    have hpb2 : (p : Int) ≤ 4032 := by omega
    have hpa : (p : Int) / 2 = (a : Int) := by rw [E1.out, hp]; simp
    have l3 : (n : Int) - 1 ≤ c := by omega
    clear hp
    go_enter Try.func8, Try.ntmps8
    go_wp2_with fail
    refine (chk_Cost_at _ _ a n 0 rfl rfl (by omega) (by omega) (by have := HA.out; omega) _).mono ?_
    rintro e x1 ⟨rfl, hx1⟩
    go_wp2_with fail
    refine (chk_Cost_at _ _ ((n : Int) - 1) n (n - 1) rfl (by omega) (by omega) (by omega) (by have := E2.out; omega) _).mono ?_
    rintro e x2 ⟨rfl, hx2⟩
    go_wp2_with fail
    refine (chk_Cost_at _ _ c n s rfl rfl (by omega) (by omega) (by have := HC.out; omega) _).mono ?_
    rintro e x3 ⟨rfl, hx3⟩
    go_wp2_with fail
    refine (chk_Cost_at _ _ d n (s + 1) rfl (by omega) (by omega) (by omega) (by have := HD.out; omega) _).mono ?_
    rintro e x4 ⟨rfl, hx4⟩
    go_wp2_with fail
    refine (law28_examples _).mono ?_
    rintro e x5 ⟨rfl, hx5⟩
    go_wp2_with fail
    go_ret
    exact ⟨rfl, (((hx1.trans hx2).trans hx3).trans hx4).trans hx5⟩
end Go.Proofs.Ytdanjghefhjmcaa.checkpointExtremes
