/-
  CheckpointRecurrence: the walk of the law.
-/
import Derived.Test.YtdanjghefhjmcaaChEx
import Derived.Test.YtdanjghefhjmcaaChTable
namespace Go.Proofs.Ytdanjghefhjmcaa.checkpointRecurrence
open Go.ChangeShapes Go.WideShapes Go.ChangeAt Go.RowKit
set_option linter.unusedVariables false
set_option linter.unusedSimpArgs false

set_option maxHeartbeats 2000000 in
theorem walk (W : World) {x y : Int} (w0 : (Lit.int .u8 x).wf = true) (w1 : (Lit.int .u8 y).wf = true) :
    Calls Try.prog 4 #[.int .u8 x, .int .u8 y] W fun e w' => e = .returned (.bool true) ∧ Up W w' := by
  obtain ⟨x0, x1⟩ := bounds_u8 w0
  obtain ⟨y0, y1⟩ := bounds_u8 w1
  obtain ⟨a, rfl⟩ := Int.eq_ofNat_of_zero_le x0
  obtain ⟨b, rfl⟩ := Int.eq_ofNat_of_zero_le y0
  clear w0 w1
  obtain ⟨n, hn⟩ : ∃ n : Nat, a % 65 = n := ⟨_, rfl⟩
  obtain ⟨s, hs⟩ : ∃ n : Nat, b % 65 = n := ⟨_, rfl⟩
  have hn1 : (a : Int) % 65 = (n : Int) := by rw [← hn]; simp
  have hs1 : (b : Int) % 65 = (s : Int) := by rw [← hs]; simp
  have n64 : n ≤ 64 := by omega
  have s64 : s ≤ 64 := by omega
  obtain ⟨c, hc⟩ : ∃ c, costF n s = c := ⟨_, rfl⟩
  have HC := Lib.hid hc
  have hn2 : (n : Int) ≤ 64 := by omega
  have hs2 : (s : Int) ≤ 64 := by omega
  clear hn hs hc
  go_enter Try.func4, Try.ntmps4
  go_wp2_with fail
  refine (chk_Cost_at _ _ c n s rfl rfl n64 s64 (by rw [HC.out]) _).mono ?_
  rintro e x1 ⟨rfl, hx1⟩
  have HU := Lib.hid hx1
  clear hx1
  go_wp2_with fail
  refine (r28_Table n s n64 s64 _).mono ?_
  rintro e x2 ⟨outv, rv, rfl, hT⟩
  have HU2 := Lib.hid hT.2.2
  obtain ⟨g, cap, rfl, hgb, hgl, hgc, hgf, hcells⟩ := own_get hT.1 (by omega)
  obtain ⟨q1, qcap, hq, hq1, hq2, hq3, hq4, hqc⟩ := own_get (hT.2.1 s (by omega)) (by omega)
  have k1 : x2.cell? ⟨g, s, none⟩ = some (.slice (some ⟨q1, 0, none⟩) (n + 1) qcap) := hcells s _ (by rw [List.getElem?_map, List.getElem?_range (by omega), ← hq]; rfl)
  have k2 : x2.cell? ⟨q1, n, none⟩ = some (.int .i64 c) := by
    have := hqc n _ (costRow_get s (n + 1) n (by omega))
    rw [HC.out] at this; exact this
  have l1 : (s : Int) < (s : Int) + 1 := by omega
  have l2 : (n : Int) < (n : Int) + 1 := by omega
  have l3 : (0 : Int) ≤ (s : Int) := by omega
  have l4 : (0 : Int) ≤ (n : Int) := by omega
  clear hT hcells hqc hq hgf hq4
  go_wp2_with fail
  refine (law28_examples _).mono ?_
  rintro e x3 ⟨rfl, hx3⟩
  go_wp2
  go_ret
  exact ⟨rfl, (HU.out.trans HU2.out).trans hx3⟩
end Go.Proofs.Ytdanjghefhjmcaa.checkpointRecurrence
