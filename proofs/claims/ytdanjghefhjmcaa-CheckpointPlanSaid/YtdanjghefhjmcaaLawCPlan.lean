/-
  CheckpointPlan: the walk of the law.
-/
import Derived.Test.YtdanjghefhjmcaaChEx
import Derived.Test.YtdanjghefhjmcaaChPlanU
import Derived.Test.YtdanjghefhjmcaaChPlanZ
import Derived.Test.YtdanjghefhjmcaaLawCChecks
namespace Go.Proofs.Ytdanjghefhjmcaa.checkpointPlan
open Go.ChangeShapes Go.WideShapes Go.ChangeAt Go.RowKit
open Go.Proofs.Ytdanjghefhjmcaa.checkpointChecks (r28_CheckPlan_at)
set_option linter.unusedVariables false
set_option linter.unusedSimpArgs false

theorem chk_Plan_bad (x y : Int) (h : ¬ (0 ≤ x ∧ x ≤ 64 ∧ 0 ≤ y ∧ y ≤ 64)) (w : World) :
    Calls Try.prog 21 #[.int .i64 x, .int .i64 y] w fun e w' => e = .returned (.tuple #[.slice none 0 0, .int .i64 1]) ∧ Up w w' := by
  by_cases hx : okN x = true
  · have h2 : Hid (okN y = false) := Lib.hid (by simp [okN] at hx ⊢; omega)
    have h1 := Lib.hid hx
    clear h hx
    go_enter Try.func21, Try.ntmps21
    go_wp2_with fail
    refine (chk_argument _ true h1.out _).mono ?_
    rintro e x1 ⟨rfl, hx1⟩
    go_wp2_with fail
    refine (chk_argument _ false h2.out _).mono ?_
    rintro e x2 ⟨rfl, hx2⟩
    go_wp2
    go_ret2
    exact ⟨rfl, hx1.trans hx2⟩
  · have h1 : Hid (okN x = false) := Lib.hid (by simpa using hx)
    clear h hx
    go_enter Try.func21, Try.ntmps21
    go_wp2_with fail
    refine (chk_argument _ false h1.out _).mono ?_
    rintro e x1 ⟨rfl, hx1⟩
    go_wp2
    go_ret2
    exact ⟨rfl, hx1⟩

theorem go_plan (n s : Nat) (hn : n ≤ 64) (hs : s ≤ 64) : planGo n s (revF s n 0 n (-1) s) 0 0 (st0 n) = ((costF n s : Int), 0) := by
  obtain ⟨st', p1, p2, p3⟩ := Runs.main n s hn hs n 0 n (-1) s (st0 n) (Nat.le_refl _) (by omega) (Nat.le_refl _) rfl (by show (n : Int) = _; omega) (Or.inl ⟨rfl, rfl⟩)
  have := p1 [] 0 0
  rw [List.append_nil, Nat.zero_add] at this
  rw [this, planGo, if_neg (by rw [p2]; simp)]
  simp

set_option maxHeartbeats 1000000 in
theorem walk (W : World) {x y : Int} (w0 : (Lit.int .i64 x).wf = true) (w1 : (Lit.int .i64 y).wf = true) :
    Calls Try.prog 10 #[.int .i64 x, .int .i64 y] W fun e W' => e = .returned (.bool true) ∧ Up W W' := by
  by_cases h : 0 ≤ x ∧ x ≤ 64 ∧ 0 ≤ y ∧ y ≤ 64
  · obtain ⟨h1, h2, h3, h4⟩ := h
    obtain ⟨n, rfl⟩ := Int.eq_ofNat_of_zero_le h1
    obtain ⟨s, rfl⟩ := Int.eq_ofNat_of_zero_le h3
    have hn : n ≤ 64 := by omega
    have hs : s ≤ 64 := by omega
    obtain ⟨l, hl⟩ : ∃ l, revF s n 0 n (-1) s = l := ⟨_, rfl⟩
    obtain ⟨c, hc⟩ : ∃ c : Int, (costF n s : Int) = c := ⟨_, rfl⟩
    have hask : Hid (askE n s = 0) := Lib.hid (by rw [askE, if_neg (by omega)])
    have HC := Lib.hid hc
    have HG : Hid (planGo n s l 0 0 (st0 n) = (c, 0)) := Lib.hid (by rw [← hl, go_plan n s hn hs, hc])
    have hok : ∀ a ∈ l, ActOk s a := fun a ha => revF_ok s hs n 0 n (-1) s (by omega) (Nat.le_refl _) (by omega) (by omega) a (by rw [Nat.zero_add, hl]; exact ha)
    have HLN : Hid (l.length ≤ 65536) := Lib.hid (by
      have := revF_len s n 0 n (-1) s (by omega) (by omega) hs
      rw [hl, Nat.sub_zero] at this
      have := Nat.mul_le_mul hn hn
      omega)
    have HW3 : Hid (∀ a ∈ l, (Lit.int .i64 a.2.2).wf = true) := Lib.hid (fun a ha => by
      have := (hok a ha).2
      have e1 : IntKind.i64.min = -9223372036854775808 := rfl
      have e2 : IntKind.i64.max = 9223372036854775807 := rfl
      simp [Lit.wf]
      omega)
    have HW2 : Hid (∀ a ∈ l, -9223372036854775808 ≤ a.2.1 ∧ a.2.1 ≤ 9223372036854775807) := Lib.hid (fun a ha => by have := (hok a ha).2; omega)
    obtain ⟨pk, hpk⟩ : ∃ pk : Int, (peakP l : Int) = pk := ⟨_, rfl⟩
    have hpl : pk ≤ (s : Int) := by have := peakP_le l s (fun a ha => (hok a ha).1); omega
    have HPK := Lib.hid hpk
    have HPL := Lib.hid (chk_Plan_ok n s hn hs)
    rw [hl] at HPL
    clear hpk hok hl hc w0 w1
    go_enter Try.func10, Try.ntmps10
    go_wp2_with fail
    refine (HPL.out _).mono ?_
    rintro e x1 ⟨v, rfl, hv, hx1⟩
    have HV := Lib.hid hv
    have HU := Lib.hid hx1
    clear hv hx1
    obtain ⟨va, vc, rfl⟩ : ∃ a cap, v = .slice a l.length cap := by obtain ⟨⟨a, cap, h, _⟩, _⟩ := HV.out; exact ⟨a, cap, h⟩
    obtain ⟨len, hlen⟩ : ∃ k, l.length = k := ⟨_, rfl⟩
    rw [hlen] at HV ⊢
    go_wp2_with fail
    refine (r28_Asked _ _ 0 hask.out _).mono ?_
    rintro e x2 ⟨rfl, hx2⟩
    have HV2 := Lib.hid (HV.out.up hx2)
    replace HU := Lib.hid (HU.out.trans hx2)
    clear hx2
    go_wp2_with fail
    refine (chk_CheckPlan_at _ _ c 0 n s rfl rfl hn hs _ l HLN.out HG.out _ HV2.out).mono ?_
    rintro e x3 ⟨rfl, hx3⟩
    have HV3 := Lib.hid (HV2.out.up hx3)
    replace HU := Lib.hid (HU.out.trans hx3)
    clear hx3
    go_wp2_with fail
    refine (r28_CheckPlan_at n s c 0 hn hs _ l HLN.out HW2.out HG.out _ HV3.out).mono ?_
    rintro e x4 ⟨rfl, hx4⟩
    have HV4 := Lib.hid (HV3.out.up hx4)
    replace HU := Lib.hid (HU.out.trans hx4)
    clear hx4
    go_wp2_with fail
    refine (chk_Cost_at _ _ c n s rfl rfl hn hs HC.out _).mono ?_
    rintro e x5 ⟨rfl, hx5⟩
    have HV5 := Lib.hid (HV4.out.up hx5)
    replace HU := Lib.hid (HU.out.trans hx5)
    clear hx5
    go_wp2_with fail
    refine (chk_Peak_at pk _ l HPK.out _ HV5.out HW3.out HLN.out).mono ?_
    rintro e x6 ⟨rfl, hx6⟩
    replace HU := Lib.hid (HU.out.trans hx6)
    clear hx6
    go_wp2_with fail
    refine (law28_examples _).mono ?_
    rintro e x7 ⟨rfl, hx7⟩
    go_wp2_with fail
    go_ret
    exact ⟨rfl, HU.out.trans hx7⟩
  · have H := Lib.hid h
    have hask : Hid (askE x y = 1) := Lib.hid (by rw [askE, if_pos (by omega)])
    clear h w0 w1
    go_enter Try.func10, Try.ntmps10
    go_wp2_with fail
    refine (chk_Plan_bad x y H.out _).mono ?_
    rintro e x1 ⟨rfl, hx1⟩
    have HU := Lib.hid hx1
    clear hx1
    go_wp2_with fail
    refine (r28_Asked _ _ 1 hask.out _).mono ?_
    rintro e x2 ⟨rfl, hx2⟩
    replace HU := Lib.hid (HU.out.trans hx2)
    clear hx2
    go_wp2_with fail
    refine (law28_examples _).mono ?_
    rintro e x7 ⟨rfl, hx7⟩
    go_wp2_with fail
    go_ret
    exact ⟨rfl, HU.out.trans hx7⟩
end Go.Proofs.Ytdanjghefhjmcaa.checkpointPlan
