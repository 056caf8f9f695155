/-
  CheckpointBruteForce: the walk of the law.
-/
import Derived.Test.YtdanjghefhjmcaaChEx
import Derived.Test.YtdanjghefhjmcaaChBrute
namespace Go.Proofs.Ytdanjghefhjmcaa.checkpointBruteForce
open Go.ChangeShapes Go.WideShapes Go.ChangeAt Go.RowKit
set_option linter.unusedVariables false
set_option linter.unusedSimpArgs false

theorem brute_bad (n s : Int) (h : ¬ (0 ≤ n ∧ n ≤ 64 ∧ 0 ≤ s ∧ s ≤ 64)) (w : World) :
    Calls Try.prog 20 #[.int .i64 n, .int .i64 s] w fun e w' => e = .returned (.tuple #[.int .i64 0, .int .i64 1]) ∧ Up w w' := by
  by_cases hn : 0 ≤ n ∧ n ≤ 64
  · have h1 : Hid (okN n = true) := Lib.hid (by simp [okN]; omega)
    have h2 : Hid (okN s = false) := Lib.hid (by simp [okN]; omega)
    clear h
    go_enter Try.func20, Try.ntmps20
    go_wp2_with fail
    refine (chk_argument _ true h1.out _).mono ?_
    rintro e x ⟨rfl, hx⟩
    go_wp2_with fail
    refine (chk_argument _ false h2.out _).mono ?_
    rintro e x2 ⟨rfl, hx2⟩
    go_wp2_with fail
    go_ret2
    exact ⟨rfl, hx.trans hx2⟩
  · have h1 : Hid (okN n = false) := Lib.hid (by simp [okN]; omega)
    clear h
    go_enter Try.func20, Try.ntmps20
    go_wp2_with fail
    refine (chk_argument _ false h1.out _).mono ?_
    rintro e x ⟨rfl, hx⟩
    go_wp2_with fail
    go_ret2
    exact ⟨rfl, hx⟩

theorem brute_ok (n s : Nat) (hn : n ≤ 64) (hs : s ≤ 64) (c d : Int) (hcd : (if 12 < n then (0, 2) else ((costF n s : Int), 0)) = (c, d)) (w : World) :
    Calls Try.prog 20 #[.int .i64 n, .int .i64 s] w fun e w' => e = .returned (.tuple #[.int .i64 c, .int .i64 d]) ∧ Up w w' := by
  have h1 : Hid (okN n = true) := Lib.hid (by simp [okN]; omega)
  have h2 : Hid (okN s = true) := Lib.hid (by simp [okN]; omega)
  have HCD := Lib.hid hcd
  clear hcd
  by_cases h12 : 12 < n
  · have h3 : (12 : Int) < (n : Int) := by omega
    obtain ⟨rfl, rfl⟩ : 0 = c ∧ 2 = d := by have := HCD.out; rw [if_pos h12] at this; simpa using this
    clear HCD
    go_enter Try.func20, Try.ntmps20
    go_wp2_with fail
    refine (chk_argument _ true h1.out _).mono ?_
    rintro e x ⟨rfl, hx⟩
    go_wp2_with fail
    refine (chk_argument _ true h2.out _).mono ?_
    rintro e x2 ⟨rfl, hx2⟩
    go_wp2_with fail
    go_ret2
    exact ⟨rfl, hx.trans hx2⟩
  · have h3 : (n : Int) ≤ 12 := by omega
    obtain ⟨b, hb⟩ : ∃ b, costF n s = b := ⟨_, rfl⟩
    obtain ⟨h4, rfl⟩ : (costF n s : Int) = c ∧ 0 = d := by have := HCD.out; rw [if_neg h12] at this; simpa using this
    rw [hb] at h4
    subst h4
    have HBB := Lib.hid hb
    clear HCD hb
    go_enter Try.func20, Try.ntmps20
    go_wp2_with fail
    refine (chk_argument _ true h1.out _).mono ?_
    rintro e x ⟨rfl, hx⟩
    go_wp2_with fail
    refine (chk_argument _ true h2.out _).mono ?_
    rintro e x2 ⟨rfl, hx2⟩
    have HU := Lib.hid (hx.trans hx2)
    clear hx hx2
    go_wp2_with fail
    refine (chk_costs _).mono ?_
    rintro e x3 ⟨rfl, cf, ff, t1, t2, t3, t4, t5⟩
    have c1 : x3.cell? ⟨x2.heap.size, n * 65 + s, none⟩ = some (.int .i64 b) := by
      rw [t1.cell n s hn hs, (t4 n s hn hs (Or.inl (by omega))).1, HBB.out]
    have HU3 := Lib.hid t3
    have l1 : (n : Int) < 65 := by omega
    have l2 : (s : Int) < 65 := by omega
    have l3 : (0 : Int) ≤ (n : Int) := by omega
    have l4 : (0 : Int) ≤ (s : Int) := by omega
    clear t1 t2 t3 t4 t5
    go_wp2
    go_ret2
    exact ⟨rfl, HU.out.trans HU3.out⟩

theorem walk (W : World) {x y : Int} (w0 : (Lit.int .i64 x).wf = true) (w1 : (Lit.int .i64 y).wf = true) :
    Calls Try.prog 9 #[.int .i64 x, .int .i64 y] W fun e w' => e = .returned (.bool true) ∧ Up W w' := by
  clear w0 w1
  by_cases h : 0 ≤ x ∧ x ≤ 64 ∧ 0 ≤ y ∧ y ≤ 64
  · obtain ⟨h1, h2, h3, h4⟩ := h
    obtain ⟨n, rfl⟩ := Int.eq_ofNat_of_zero_le h1
    obtain ⟨s, rfl⟩ := Int.eq_ofNat_of_zero_le h3
    obtain ⟨c, hc⟩ : ∃ c, costF n s = c := ⟨_, rfl⟩
    have HC := Lib.hid hc
    by_cases h12 : 12 < n
    · have h5 : (12 : Int) < (n : Int) := by omega
      have HX : Hid ((if 12 < n then (0, 2) else ((costF n s : Int), 0)) = ((0 : Int), (2 : Int))) := Lib.hid (by rw [if_pos h12])
      clear hc
      go_enter Try.func9, Try.ntmps9
      go_wp2_with fail
      refine (brute_ok n s (by omega) (by omega) 0 2 HX.out _).mono ?_
      rintro e x1 ⟨rfl, hx1⟩
      go_wp2_with fail
      refine (chk_Cost_at _ _ c n s rfl rfl (by omega) (by omega) (by rw [HC.out]) _).mono ?_
      rintro e x2 ⟨rfl, hx2⟩
      go_wp2_with fail
      refine (law28_examples _).mono ?_
      rintro e x3 ⟨rfl, hx3⟩
      go_wp2
      go_ret
      exact ⟨rfl, (hx1.trans hx2).trans hx3⟩
    · have h5 : (n : Int) ≤ 12 := by omega
      have HX : Hid ((if 12 < n then (0, 2) else ((costF n s : Int), 0)) = ((c : Int), (0 : Int))) := Lib.hid (by rw [if_neg h12, hc])
      clear hc
      go_enter Try.func9, Try.ntmps9
      go_wp2_with fail
      refine (brute_ok n s (by omega) (by omega) c 0 HX.out _).mono ?_
      rintro e x1 ⟨rfl, hx1⟩
      go_wp2_with fail
      refine (chk_Cost_at _ _ c n s rfl rfl (by omega) (by omega) (by rw [HC.out]) _).mono ?_
      rintro e x2 ⟨rfl, hx2⟩
      go_wp2_with fail
      refine (law28_examples _).mono ?_
      rintro e x3 ⟨rfl, hx3⟩
      go_wp2
      go_ret
      exact ⟨rfl, (hx1.trans hx2).trans hx3⟩
  · have H := Lib.hid h
    clear h
    go_enter Try.func9, Try.ntmps9
    go_wp2_with fail
    refine (brute_bad x y H.out _).mono ?_
    rintro e x1 ⟨rfl, hx1⟩
    go_wp2_with fail
    refine (chk_Cost_bad x y H.out _).mono ?_
    rintro e x2 ⟨rfl, hx2⟩
    go_wp2_with fail
    refine (law28_examples _).mono ?_
    rintro e x3 ⟨rfl, hx3⟩
    go_wp2
    go_ret
    exact ⟨rfl, (hx1.trans hx2).trans hx3⟩
end Go.Proofs.Ytdanjghefhjmcaa.checkpointBruteForce
