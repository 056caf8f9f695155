/-
  CheckpointSearch: the walk of the law.
-/
import Derived.Test.YtdanjghefhjmcaaChEx
import Derived.Test.YtdanjghefhjmcaaChSrS
namespace Go.Proofs.Ytdanjghefhjmcaa.checkpointSearch
open Go.ChangeShapes Go.WideShapes Go.ChangeAt Go.RowKit
set_option linter.unusedVariables false
set_option linter.unusedSimpArgs false

theorem u8_bounds {n : Int} (h : (Lit.int .u8 n).wf = true) : 0 ≤ n ∧ n ≤ 255 := by
  have e1 : IntKind.u8.min = 0 := rfl
  have e2 : IntKind.u8.max = 255 := rfl
  simp [Lit.wf] at h
  omega

set_option maxHeartbeats 2000000 in
theorem walk (W : World) {x y : Int} (w0 : (Lit.int .u8 x).wf = true) (w1 : (Lit.int .u8 y).wf = true) :
    Calls Try.prog 5 #[.int .u8 x, .int .u8 y] W fun e w' => e = .returned (.bool true) ∧ Up W w' := by
  obtain ⟨x0, x1⟩ := u8_bounds w0
  obtain ⟨y0, y1⟩ := u8_bounds w1
  obtain ⟨a, rfl⟩ := Int.eq_ofNat_of_zero_le x0
  obtain ⟨b, rfl⟩ := Int.eq_ofNat_of_zero_le y0
  clear w0 w1
  obtain ⟨n, hn⟩ : ∃ n : Nat, a % 6 = n := ⟨_, rfl⟩
  obtain ⟨s, hs⟩ : ∃ n : Nat, b % 3 = n := ⟨_, rfl⟩
  have hn1 : (a : Int) % 6 = (n : Int) := by rw [← hn]; simp
  have hs1 : (b : Int) % 3 = (s : Int) := by rw [← hs]; simp
  have n5 : n ≤ 5 := by omega
  have s2 : s ≤ 2 := by omega
  obtain ⟨c, hc⟩ : ∃ c, costF n s = c := ⟨_, rfl⟩
  have HC := Lib.hid hc
  have hn2 : (n : Int) ≤ 5 := by omega
  have hs2 : (s : Int) ≤ 2 := by omega
  have HSR : Hid (∀ w, Calls Try.prog 15 #[.int .i64 n, .int .i64 s] w fun e w' => e = .returned (.int .i64 c) ∧ Up w w') := Lib.hid fun w => by
    have := r28_Search n s n5 s2 w
    rw [hc] at this; exact this
  clear hn hs hc
  go_enter Try.func5, Try.ntmps5
  go_wp2_with fail
  refine (chk_Cost_at _ _ c n s rfl rfl (by omega) (by omega) (by rw [HC.out]) _).mono ?_
  rintro e x1 ⟨rfl, hx1⟩
  have HU := Lib.hid hx1
  clear hx1
  go_wp2_with fail
  refine (HSR.out _).mono ?_
  rintro e x2 ⟨rfl, hx2⟩
  have HU2 := Lib.hid hx2
  clear hx2
  go_wp2_with fail
  refine (law28_examples _).mono ?_
  rintro e x3 ⟨rfl, hx3⟩
  go_wp2
  go_ret
  exact ⟨rfl, (HU.out.trans HU2.out).trans hx3⟩
end Go.Proofs.Ytdanjghefhjmcaa.checkpointSearch
