/-
  The examples of chapter 28, as every law checks them.
-/
import Derived.Test.YtdanjghefhjmcaaChPlanW
import Derived.Test.YtdanjghefhjmcaaChPeak
import Derived.Laws.Rows
import Derived.Deep.WholeRow
namespace Go.Proofs.Ytdanjghefhjmcaa
open Go.ChangeShapes Go.WideShapes Go.ChangeAt Go.RowKit
set_option linter.unusedVariables false

theorem chk_Cost_at (x y c : Int) (n s : Nat) (hx : x = n) (hy : y = s) (hn : n ≤ 64) (hs : s ≤ 64) (hc : (costF n s : Int) = c) (w : World) :
    Calls Try.prog 11 #[.int .i64 x, .int .i64 y] w fun e w' => e = .returned (.tuple #[.int .i64 c, .int .i64 0]) ∧ Up w w' := by
  subst hx hy hc
  exact chk_Cost_ok n s hn hs w

theorem chk_CheckPlan_at (x y c d : Int) (n s : Nat) (hx : x = n) (hy : y = s) (hn : n ≤ 64) (hs : s ≤ 64) (v : Value) (l : List Actn) (hl : l.length ≤ 65536) (hp : planGo n s l 0 0 (st0 n) = (c, d)) (w : World) (hv : IsActs w v l) :
    Calls Try.prog 16 #[.int .i64 x, .int .i64 y, v] w fun e w' => e = .returned (.tuple #[.int .i64 c, .int .i64 d]) ∧ Up w w' := by
  subst hx hy
  have := chk_CheckPlan_ok n s hn hs v l w hv hl
  rw [hp] at this
  exact this

theorem chk_Peak_at (c : Int) (v : Value) (l : List Actn) (hp : (peakP l : Int) = c) (w : World) (hv : IsActs w v l) (hwf : ∀ a ∈ l, (Lit.int .i64 a.2.2).wf = true) (hlen : l.length ≤ 65536) :
    Calls Try.prog 18 #[v] w fun e w' => e = .returned (.int .i64 c) ∧ Up w w' := hp ▸ chk_Peak v l w hv hwf hlen

def exActs : List Actn := [(1, 1, 0), (2, 1, 0), (1, 2, 0), (4, 3, 0), (3, 1, 0), (4, 2, 0), (3, 0, -1), (4, 1, 0)]
theorem ex1 : (costF 10 3 : Int) = 14 := by decide +kernel
theorem ex2 : planGo (3 : Nat) (1 : Nat) exActs 0 0 (st0 (3 : Nat)) = (2, 0) := by decide +kernel
theorem ex3 : planGo (3 : Nat) (1 : Nat) (exActs.drop 3) 0 0 (st0 (3 : Nat)) = (0, 26) := by decide +kernel
theorem ex4 : (peakP exActs : Int) = 1 := by kernel_rfl
theorem ex5 : ∀ a ∈ exActs, (Lit.int .i64 a.2.2).wf = true := by decide +kernel

theorem SlAt.of_row {w : World} {b len k : Nat} {cs : Array Value} {T : TypeId} {f : Nat → Nat → Value} (hb : w.heap[b]? = some (.cells cs T (0, 0))) (hlt : b < w.heap.size) (off cap : Nat) (hmax : len ≤ 9223372036854775807)
    (h : ∀ i j, i < len → j < k → cs[off + i * k + j]? = some (f i j)) : SlAt w (.slice (some ⟨b, off, none⟩) len cap) len k f :=
  ⟨⟨some ⟨b, off, none⟩, cap, rfl, (fun e => nomatch e), (fun x hx _ => by
    cases hx
    exact ⟨rfl, hlt, fun i j hi hj => by rw [cell_of_row _ _ _ _ _ _ hb]; exact h i j hi hj⟩)⟩, hmax⟩

def exCells : Array Value := #[.int .i64 1, .int .i64 1, .int .i64 0, .int .i64 2, .int .i64 1, .int .i64 0, .int .i64 1, .int .i64 2, .int .i64 0, .int .i64 4, .int .i64 3, .int .i64 0, .int .i64 3, .int .i64 1, .int .i64 0, .int .i64 4, .int .i64 2, .int .i64 0, .int .i64 3, .int .i64 0, .int .i64 (-1), .int .i64 4, .int .i64 1, .int .i64 0]
theorem exCells_at (i j : Nat) (hi : i < 8) (hj : j < 3) : exCells[0 + i * 3 + j]? = some (actF exActs i j) := by
  rcases (by omega : i = 0 ∨ i = 1 ∨ i = 2 ∨ i = 3 ∨ i = 4 ∨ i = 5 ∨ i = 6 ∨ i = 7) with rfl | rfl | rfl | rfl | rfl | rfl | rfl | rfl <;> rcases (by omega : j = 0 ∨ j = 1 ∨ j = 2) with rfl | rfl | rfl <;> rfl
theorem exCells_at3 (i j : Nat) (hi : i < 5) (hj : j < 3) : exCells[9 + i * 3 + j]? = some (actF (exActs.drop 3) i j) := by
  rcases (by omega : i = 0 ∨ i = 1 ∨ i = 2 ∨ i = 3 ∨ i = 4) with rfl | rfl | rfl | rfl | rfl <;> rcases (by omega : j = 0 ∨ j = 1 ∨ j = 2) with rfl | rfl | rfl <;> rfl

set_option maxHeartbeats 1000000 in
theorem law28_examples (w : World) :
    Calls Try.prog 13 #[] w fun e w' => e = .returned (.bool true) ∧ Up w w' := by
  have hrow : (w.alloc (.cells exCells 42)).heap[w.heap.size]? = some (.cells exCells 42 (0, 0)) := heap_alloc_last _ _
  have hA : IsActs (w.alloc (.cells exCells 42)) (.slice (some ⟨w.heap.size, 0, none⟩) 8 8) exActs := SlAt.of_row hrow (by simp) 0 8 (by decide) exCells_at
  have hB : IsActs (w.alloc (.cells exCells 42)) (.slice (some ⟨w.heap.size, 9, none⟩) 5 5) (exActs.drop 3) := SlAt.of_row hrow (by simp) 9 5 (by decide) exCells_at3
  have hU := Up.refl (w.alloc (.cells exCells 42))
  have HA := Lib.hid hA
  have HB := Lib.hid hB
  clear hrow hA hB
  go_enter Try.func13, Try.ntmps13
  go_wp2_with fail
  refine (chk_Cost_at 10 3 14 10 3 rfl rfl (by decide) (by decide) ex1 _).mono ?_
  rintro e x1 ⟨rfl, hx1⟩
  replace hU : Up (w.alloc (.cells exCells 42)) x1 := hx1
  go_wp2_with fail
  refine (chk_CheckPlan_at 3 1 2 0 3 1 rfl rfl (by decide) (by decide) _ exActs (by decide) ex2 _ (HA.out.up hU)).mono ?_
  rintro e x2 ⟨rfl, hx2⟩
  replace hU := hU.trans hx2
  go_wp2_with fail
  refine (chk_CheckPlan_at 3 1 0 26 3 1 rfl rfl (by decide) (by decide) _ (exActs.drop 3) (by decide) ex3 _ (HB.out.up hU)).mono ?_
  rintro e x3 ⟨rfl, hx3⟩
  replace hU := hU.trans hx3
  go_wp2_with fail
  refine (chk_Peak_at 1 _ exActs ex4 _ (HA.out.up hU) ex5 (by decide)).mono ?_
  rintro e x4 ⟨rfl, hx4⟩
  replace hU := hU.trans hx4
  go_wp2_with fail
  go_ret
  exact ⟨rfl, ((Up.refl w).alloc _).trans hU⟩
end Go.Proofs.Ytdanjghefhjmcaa
