/-
  CheckpointChecks: the walk of the law.
-/
import Derived.Test.YtdanjghefhjmcaaChEx
import Derived.Test.YtdanjghefhjmcaaChOpen
import Derived.Test.YtdanjghefhjmcaaChRefPlan
import Derived.Test.YtdanjghefhjmcaaChRefPeak
namespace Go.Proofs.Ytdanjghefhjmcaa.checkpointChecks
open Go.ChangeShapes Go.WideShapes Go.ChangeAt Go.RowKit
set_option linter.unusedVariables false
set_option linter.unusedSimpArgs false

theorem r28_CheckPlan_bad (n s : Int) (h : ¬ (0 ≤ n ∧ n ≤ 64 ∧ 0 ≤ s ∧ s ≤ 64)) (v : Value) (w : World) :
    Calls Try.prog 17 #[.int .i64 n, .int .i64 s, v] w fun e w' => e = .returned (.tuple #[.int .i64 0, .int .i64 1]) ∧ Up w w' := by
  have h1 : Hid (askE n s = 1) := Lib.hid (by rw [askE, if_pos (by omega)])
  clear h
  go_enter Try.func17, Try.ntmps17
  go_wp2_with fail
  refine (r28_Asked _ _ 1 h1.out _).mono ?_
  rintro e x ⟨rfl, hU⟩
  go_wp2_with fail
  go_ret2
  exact ⟨rfl, hU⟩

theorem r28_CheckPlan_at (n s : Nat) (c d : Int) (hn : n ≤ 64) (hs : s ≤ 64) (v : Value) (l : List Actn) (hl : l.length ≤ 65536) (hwf : ∀ a ∈ l, -9223372036854775808 ≤ a.2.1 ∧ a.2.1 ≤ 9223372036854775807) (hp : planGo n s l 0 0 (st0 n) = (c, d)) (w : World) (hv : IsActs w v l) :
    Calls Try.prog 17 #[.int .i64 n, .int .i64 s, v] w fun e w' => e = .returned (.tuple #[.int .i64 c, .int .i64 d]) ∧ Up w w' := by
  have := r28_CheckPlan_ok n s hn hs v l w hv hl hwf
  rw [hp] at this
  exact this
theorem r28_Peak_at (c : Int) (v : Value) (l : List Actn) (hp : (peakP l : Int) = c) (w : World) (hv : IsActs w v l) (hlen : l.length ≤ 65536) :
    Calls Try.prog 19 #[v] w fun e w' => e = .returned (.int .i64 c) ∧ Up w w' := by
  have := r28_Peak v l w hv hlen
  rw [peak_eq, hp] at this
  exact this

set_option maxHeartbeats 1000000 in
theorem walk (W : World) {x y : Int} {v : Value} {l : List Actn} (w0 : (Lit.int .i64 x).wf = true) (w1 : (Lit.int .i64 y).wf = true) (w2 : ActsArg W v l) :
    Calls Try.prog 6 #[.int .i64 x, .int .i64 y, v] W fun e w' => e = .returned (.bool true) ∧ Up W w' := by
  obtain ⟨hA, hwf, a, cap, rfl⟩ := w2
  have hmax := hA.max
  have HA := Lib.hid hA
  have HW3 : Hid (∀ a ∈ l, (Lit.int .i64 a.2.2).wf = true) := Lib.hid (fun a ha => (hwf a ha).2.2)
  have HW2 : Hid (∀ a ∈ l, -9223372036854775808 ≤ a.2.1 ∧ a.2.1 ≤ 9223372036854775807) := Lib.hid (fun a ha => bounds_i64 (hwf a ha).2.1)
  obtain ⟨len, hlen⟩ : ∃ k, l.length = k := ⟨_, rfl⟩
  have HL := Lib.hid hlen
  rw [hlen] at HA hmax ⊢
  clear w0 w1 hwf hA hlen
  by_cases h400 : 400 < len
  · have h4 : (400 : Int) < (len : Int) := by omega
    go_enter Try.func6, Try.ntmps6
    go_wp2_with fail
    refine (law28_examples _).mono ?_
    rintro e x1 ⟨rfl, hx1⟩
    go_wp2_with fail
    go_ret
    exact ⟨rfl, hx1⟩
  have h4 : (len : Int) ≤ 400 := by omega
  have hlen : Hid (l.length ≤ 65536) := Lib.hid (by have := HL.out; omega)
  obtain ⟨pk, hpk⟩ : ∃ pk : Int, (peakP l : Int) = pk := ⟨_, rfl⟩
  have HPK := Lib.hid hpk
  clear hpk
  by_cases h : 0 ≤ x ∧ x ≤ 64 ∧ 0 ≤ y ∧ y ≤ 64
  · obtain ⟨h1, h2, h3, h4'⟩ := h
    obtain ⟨n, rfl⟩ := Int.eq_ofNat_of_zero_le h1
    obtain ⟨s, rfl⟩ := Int.eq_ofNat_of_zero_le h3
    obtain ⟨c, d, hp⟩ : ∃ c d, planGo n s l 0 0 (st0 n) = (c, d) := ⟨_, _, rfl⟩
    have HP := Lib.hid hp
    clear hp
    go_enter Try.func6, Try.ntmps6
    go_wp2_with fail
    refine (chk_CheckPlan_at _ _ c d n s rfl rfl (by omega) (by omega) _ l hlen.out HP.out _ HA.out).mono ?_
    rintro e x1 ⟨rfl, hx1⟩
    have HU := Lib.hid hx1
    clear hx1
    go_wp2_with fail
    refine (r28_CheckPlan_at n s c d (by omega) (by omega) _ l hlen.out HW2.out HP.out _ (HA.out.up HU.out)).mono ?_
    rintro e x2 ⟨rfl, hx2⟩
    replace HU := Lib.hid (HU.out.trans hx2)
    clear hx2
    go_wp2_with fail
    refine (chk_Peak_at pk _ l HPK.out _ (HA.out.up HU.out) HW3.out hlen.out).mono ?_
    rintro e x3 ⟨rfl, hx3⟩
    replace HU := Lib.hid (HU.out.trans hx3)
    clear hx3
    go_wp2_with fail
    refine (r28_Peak_at pk _ l HPK.out _ (HA.out.up HU.out) hlen.out).mono ?_
    rintro e x4 ⟨rfl, hx4⟩
    replace HU := Lib.hid (HU.out.trans hx4)
    clear hx4
    go_wp2_with fail
    refine (law28_examples _).mono ?_
    rintro e x5 ⟨rfl, hx5⟩
    go_wp2_with fail
    go_ret
    exact ⟨rfl, HU.out.trans hx5⟩
  · have H := Lib.hid h
    clear h
    go_enter Try.func6, Try.ntmps6
    go_wp2_with fail
    refine (chk_CheckPlan_bad x y H.out _ _).mono ?_
    rintro e x1 ⟨rfl, hx1⟩
    have HU := Lib.hid hx1
    clear hx1
    go_wp2_with fail
    refine (r28_CheckPlan_bad x y H.out _ _).mono ?_
    rintro e x2 ⟨rfl, hx2⟩
    replace HU := Lib.hid (HU.out.trans hx2)
    clear hx2
    go_wp2_with fail
    refine (chk_Peak_at pk _ l HPK.out _ (HA.out.up HU.out) HW3.out hlen.out).mono ?_
    rintro e x3 ⟨rfl, hx3⟩
    replace HU := Lib.hid (HU.out.trans hx3)
    clear hx3
    go_wp2_with fail
    refine (r28_Peak_at pk _ l HPK.out _ (HA.out.up HU.out) hlen.out).mono ?_
    rintro e x4 ⟨rfl, hx4⟩
    replace HU := Lib.hid (HU.out.trans hx4)
    clear hx4
    go_wp2_with fail
    refine (law28_examples _).mono ?_
    rintro e x5 ⟨rfl, hx5⟩
    go_wp2_with fail
    go_ret
    exact ⟨rfl, HU.out.trans hx5⟩
end Go.Proofs.Ytdanjghefhjmcaa.checkpointChecks
