/-
  Blocks that were boxed at a call's begin, as facts on cells. No program is named here.
-/
import Derived.Test.YtdanjghefhjmcaaSl
namespace Go.Proofs.Ytdanjghefhjmcaa
open Go.ChangeShapes Go.WideShapes Go.ChangeAt Go.RowKit
set_option linter.unusedVariables false

theorem setRowCell {w : World} {b : Nat} {cs : Array Value} {t : TypeId} (h : w.heap[b]? = some (.cells cs t (0, 0))) (o i : Nat) (u : Value) : (w.setCell ⟨b, o, none⟩ u).cell? ⟨b, i, none⟩ = (cs.setIfInBounds o u)[i]? := by
  have hh : (w.setCell ⟨b, o, none⟩ u).heap[b]? = some (.cells (cs.setIfInBounds o u) t (0, 0)) := by simp [World.setCell, Array.getElem?_modify, h]
  exact cell_of_row _ _ _ _ _ _ hh
/-- Three boxes and some draws: what the world is, by its cells. -/
structure Box3 (w W : World) (A : Array Value) (tA : TypeId) (B : Array Value) (tB : TypeId) (C : Array Value) (tC : TypeId) : Prop where
  a : W.heap[w.heap.size]? = some (.cells A tA (0, 0))
  b : W.heap[w.heap.size + 1]? = some (.cells B tB (0, 0))
  c : W.heap[w.heap.size + 1 + 1]? = some (.cells C tC (0, 0))
  size : w.heap.size + 1 + 1 + 1 ≤ W.heap.size
  up : Up w W
theorem size_alloc (x : World) (o : Obj) : (x.alloc o).heap.size = x.heap.size + 1 := by simp
theorem box3 (w : World) (A : Array Value) (tA : TypeId) (B : Array Value) (tB : TypeId) (C : Array Value) (tC : TypeId) (n : Nat) : Box3 w ((((w.alloc (.cells A tA)).alloc (.cells B tB)).alloc (.cells C tC)).drewN n) A tA B tB C tC := by
  have hc : (((w.alloc (.cells A tA)).alloc (.cells B tB)).alloc (.cells C tC)).heap[w.heap.size + 1 + 1]? = some (.cells C tC (0, 0)) := by
    have := heap_alloc_new ((w.alloc (.cells A tA)).alloc (.cells B tB)) (.cells C tC)
    rw [size_alloc, size_alloc] at this; exact this
  have hb : (((w.alloc (.cells A tA)).alloc (.cells B tB)).alloc (.cells C tC)).heap[w.heap.size + 1]? = some (.cells B tB (0, 0)) := by
    have := heap_alloc_new (w.alloc (.cells A tA)) (.cells B tB)
    rw [size_alloc] at this
    exact (Below.heap_alloc _ _ _ (by rw [size_alloc, size_alloc]; omega)).trans this
  have ha : (((w.alloc (.cells A tA)).alloc (.cells B tB)).alloc (.cells C tC)).heap[w.heap.size]? = some (.cells A tA (0, 0)) :=
    (Below.heap_alloc _ _ _ (by rw [size_alloc, size_alloc]; omega)).trans ((Below.heap_alloc _ _ _ (by rw [size_alloc]; omega)).trans (heap_alloc_new w _))
  exact ⟨ha, hb, hc, by show _ ≤ (((w.alloc (.cells A tA)).alloc (.cells B tB)).alloc (.cells C tC)).heap.size; rw [size_alloc, size_alloc, size_alloc]; omega, (((Up.refl w).alloc _).alloc _).alloc _ |>.drewN n⟩

section
variable {w W W' : World} {A B C : Array Value} {tA tB tC : TypeId}
/-- What turns no block below the boxes' end leaves them as they are. -/
theorem Box3.keep (h : Box3 w W A tA B tB C tC) (k : ∀ i, i < w.heap.size + 1 + 1 + 1 → W'.heap[i]? = W.heap[i]?) (hs : W.heap.size ≤ W'.heap.size) (hu : Up w W') : Box3 w W' A tA B tB C tC :=
  ⟨(k _ (by omega)).trans h.a, (k _ (by omega)).trans h.b, (k _ (by omega)).trans h.c, Nat.le_trans h.size hs, hu⟩
theorem Box3.ups (h : Box3 w W A tA B tB C tC) (k : Up W W') : Box3 w W' A tA B tB C tC :=
  h.keep (fun i hi => k.heap i (Nat.lt_of_lt_of_le hi h.size)) k.size (h.up.trans k)
theorem Box3.grown (h : Box3 w W A tA B tB C tC) {row : Option Nat} (hg : W.grownBy W' row) (hr : ∀ k, row = some k → w.heap.size + 1 + 1 + 1 ≤ k) : Box3 w W' A tA B tB C tC :=
  h.keep (fun i hi => hg.block i (Nat.lt_of_lt_of_le hi h.size) (fun e => by have := hr i e.symm; omega)) hg.size (h.up.grown hg (fun k hk => by have := hr k hk; omega))
end
end Go.Proofs.Ytdanjghefhjmcaa
