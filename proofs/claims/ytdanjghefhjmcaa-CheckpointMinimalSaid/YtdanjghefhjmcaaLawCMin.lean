/-
  CheckpointMinimal: the walk of the law.
-/
import Derived.Test.YtdanjghefhjmcaaChEx
import Derived.Test.YtdanjghefhjmcaaChOpen
import Derived.Test.YtdanjghefhjmcaaChMin3
namespace Go.Proofs.Ytdanjghefhjmcaa.checkpointMinimal
open Go.ChangeShapes Go.WideShapes Go.ChangeAt Go.RowKit
set_option linter.unusedVariables false

theorem walk (W : World) {x y z : Int} {v : Value} {l : List Actn} (w0 : (Lit.int .i64 x).wf = true) (w1 : (Lit.int .i64 y).wf = true) (w2 : ActsArg W v l) (w3 : (Lit.int .u8 z).wf = true) :
    Calls Try.prog 7 #[.int .i64 x, .int .i64 y, v, .int .u8 z] W fun e w' => e = .returned (.bool true) ∧ Up W w' := by
  obtain ⟨z0, z1⟩ := bounds_u8 w3
  obtain ⟨hA, hwf, a, cap, rfl⟩ := w2
  have hmax := hA.max
  have HA := Lib.hid hA
  obtain ⟨len, hlen⟩ : ∃ k, l.length = k := ⟨_, rfl⟩
  have HL := Lib.hid hlen
  rw [hlen] at HA hmax ⊢
  clear w0 w1 w3 hwf hA hlen
  by_cases h400 : 400 < len
  · have h4 : (400 : Int) < (len : Int) := by omega
    go_enter Try.func7, Try.ntmps7
    go_wp2_with fail
    refine (law28_examples _).mono ?_
    rintro e x1 ⟨rfl, hx1⟩
    go_wp2_with fail
    go_ret
    exact ⟨rfl, hx1⟩
  have h4 : (len : Int) ≤ 400 := by omega
  by_cases h : 0 ≤ x ∧ x ≤ 64 ∧ 0 ≤ y ∧ y ≤ 64
  · obtain ⟨h1, h2, h3, h4'⟩ := h
    obtain ⟨n, rfl⟩ := Int.eq_ofNat_of_zero_le h1
    obtain ⟨s, rfl⟩ := Int.eq_ofNat_of_zero_le h3
    obtain ⟨m, rfl⟩ := Int.eq_ofNat_of_zero_le z0
    obtain ⟨c, d, hp⟩ : ∃ c d, planGo n s l 0 0 (st0 n) = (c, d) := ⟨_, _, rfl⟩
    by_cases hd : d = 0
    · subst hd
      have hmin := Min.cost_le (by omega) (by omega) hp
      obtain ⟨t, ht⟩ : ∃ t : Nat, min 64 (s + m) = t := ⟨_, rfl⟩
      have ht64 : t ≤ 64 := by omega
      have hst : s ≤ t := by omega
      have hp2 := Min.plan_wide (t := (t : Int)) (by omega) l 0 0 (st0 n) c hp
      have hanti := Min.cost_anti n (by omega) s (t - s) (by omega)
      rw [show s + (t - s) = t by omega] at hanti
      obtain ⟨b, hb⟩ : ∃ b, costF n s = b := ⟨_, rfl⟩
      obtain ⟨b2, hb2⟩ : ∃ b, costF n t = b := ⟨_, rfl⟩
      rw [hb] at hmin hanti
      rw [hb2] at hanti
      have HP := Lib.hid hp
      have HP2 := Lib.hid hp2
      have HB := Lib.hid hb
      have HB2 := Lib.hid hb2
      have HT := Lib.hid ht
      have l1 : (b2 : Int) ≤ b := by omega
      clear hp hp2 hb hb2 ht
      go_enter Try.func7, Try.ntmps7
      go_wp2_with fail
      refine (chk_CheckPlan_at _ _ c 0 n s rfl rfl (by omega) (by omega) _ l (by have := HL.out; omega) HP.out _ HA.out).mono ?_
      rintro e x1 ⟨rfl, hx1⟩
      go_wp2_with fail
      refine (chk_Cost_at _ _ b n s rfl rfl (by omega) (by omega) (by have := HB.out; omega) _).mono ?_
      rintro e x2 ⟨rfl, hx2⟩
      replace hx1 := hx1.trans hx2
      by_cases hw : (s : Int) + (m : Int) < 64
      · have hts : (t : Int) = (s : Int) + (m : Int) := by have := HT.out; omega
        go_wp2_with fail
        refine (chk_CheckPlan_at _ _ c 0 n t rfl (by omega) (by omega) (by omega) _ l (by have := HL.out; omega) HP2.out _ (HA.out.up hx1)).mono ?_
        rintro e x3 ⟨rfl, hx3⟩
        replace hx1 := hx1.trans hx3
        go_wp2_with fail
        refine (chk_Cost_at _ _ b2 n t rfl (by omega) (by omega) (by omega) (by have := HB2.out; omega) _).mono ?_
        rintro e x4 ⟨rfl, hx4⟩
        replace hx1 := hx1.trans hx4
        go_wp2_with fail
        refine (law28_examples _).mono ?_
        rintro e x5 ⟨rfl, hx5⟩
        go_wp2_with fail
        go_ret
        exact ⟨rfl, hx1.trans hx5⟩
      · have hts : (t : Int) = 64 := by have := HT.out; omega
        go_wp2_with fail
        refine (chk_CheckPlan_at _ _ c 0 n t rfl (by omega) (by omega) (by omega) _ l (by have := HL.out; omega) HP2.out _ (HA.out.up hx1)).mono ?_
        rintro e x3 ⟨rfl, hx3⟩
        replace hx1 := hx1.trans hx3
        go_wp2_with fail
        refine (chk_Cost_at _ _ b2 n t rfl (by omega) (by omega) (by omega) (by have := HB2.out; omega) _).mono ?_
        rintro e x4 ⟨rfl, hx4⟩
        replace hx1 := hx1.trans hx4
        go_wp2_with fail
        refine (law28_examples _).mono ?_
        rintro e x5 ⟨rfl, hx5⟩
        go_wp2_with fail
        go_ret
        exact ⟨rfl, hx1.trans hx5⟩
    · have hd2 : (d == 0) = false := by simpa using hd
      have hd3 : (d != 0) = true := by simpa using hd
      have HP := Lib.hid hp
      clear hp
      go_enter Try.func7, Try.ntmps7
      go_wp2_with fail
      refine (chk_CheckPlan_at _ _ c d n s rfl rfl (by omega) (by omega) _ l (by have := HL.out; omega) HP.out _ HA.out).mono ?_
      rintro e x1 ⟨rfl, hx1⟩
      go_wp2_with fail
      refine (law28_examples _).mono ?_
      rintro e x2 ⟨rfl, hx2⟩
      go_wp2_with fail
      go_ret
      exact ⟨rfl, hx1.trans hx2⟩
  · have H := Lib.hid h
    clear h
    go_enter Try.func7, Try.ntmps7
    go_wp2_with fail
    refine (chk_CheckPlan_bad x y H.out _ _).mono ?_
    rintro e x1 ⟨rfl, hx1⟩
    go_wp2_with fail
    refine (law28_examples _).mono ?_
    rintro e x2 ⟨rfl, hx2⟩
    go_wp2_with fail
    go_ret
    exact ⟨rfl, hx1.trans hx2⟩
end Go.Proofs.Ytdanjghefhjmcaa.checkpointMinimal
