/-
  isa: keep, wellFormed, valid, Validate. Printed by mkPeY.py.
-/
import Derived.Test.YtlglfdhiopnglaaGreatDoorPeX
namespace Go.Proofs.YtlglfdhiopnglaaGreatDoor
open Go.ChangeShapes Go.WideShapes Go.ChangeAt Go.RowKit
set_option linter.unusedVariables false
set_option linter.unusedSimpArgs false
set_option maxRecDepth 100000

/-- An instruction's box. -/
def BoxI (w : World) (g : Nat) (u : Ins) : Prop := w.heap[g]? = some (.cells #[.int .i64 u.1, .int .i64 u.2.1, .int .i64 u.2.2.1, .int .i64 u.2.2.2.1, .int .i64 u.2.2.2.2.1.1, .int .i64 u.2.2.2.2.1.2, .int .i64 u.2.2.2.2.2.1, .int .i64 u.2.2.2.2.2.2.1, .int .i64 u.2.2.2.2.2.2.2.1, .int .i64 u.2.2.2.2.2.2.2.2.1, .int .i64 u.2.2.2.2.2.2.2.2.2] 42 (0, 0))
def keepF (u i : Ins) (k : Int) : Ins :=
  if k = 1 ∨ k = 4 ∨ k = 7 then (u.1, i.2.1, u.2.2) else if k = 2 ∨ k = 5 ∨ k = 8 then (u.1, u.2.1, i.2.2.1, u.2.2.2)
  else if k = 3 ∨ k = 6 ∨ k = 9 ∨ k = 11 ∨ k = 13 then (u.1, u.2.1, u.2.2.1, i.2.2.2.1, u.2.2.2.2)
  else if k = 10 ∨ k = 12 ∨ k = 15 ∨ k = 16 then (u.1, u.2.1, u.2.2.1, u.2.2.2.1, (i.2.2.2.2.1.1, 1), u.2.2.2.2.2)
  else if k = 14 then (u.1, u.2.1, u.2.2.1, u.2.2.2.1, i.2.2.2.2.1, u.2.2.2.2.2) else if k = 17 then (u.1, u.2.1, u.2.2.1, u.2.2.2.1, u.2.2.2.2.1, i.2.2.2.2.2) else u
theorem BoxI.cell {w : World} {g : Nat} {u : Ins} (h : BoxI w g u) (j : Nat) (hj : j < 11) : w.cell? ⟨g, j, none⟩ = some (.int .i64 (insC u j)) := by
  rw [cell_of_row _ _ _ _ _ _ h]
  rcases (by omega : j = 0 ∨ j = 1 ∨ j = 2 ∨ j = 3 ∨ j = 4 ∨ j = 5 ∨ j = 6 ∨ j = 7 ∨ j = 8 ∨ j = 9 ∨ j = 10) with rfl | rfl | rfl | rfl | rfl | rfl | rfl | rfl | rfl | rfl | rfl <;> rfl
theorem BoxI.lt {w : World} {g : Nat} {u : Ins} (h : BoxI w g u) : g < w.heap.size := (Array.getElem?_eq_some_iff.1 h).1
theorem BoxI.frozen {w : World} {g : Nat} {u : Ins} (h : BoxI w g u) (o : Nat) : w.frozen? ⟨g, o, none⟩ = false := frozen_of_row _ _ _ _ _ h
theorem BoxI.up {w w' : World} {g : Nat} {u : Ins} (h : BoxI w g u) (hu : Up w w') : BoxI w' g u := (hu.heap g h.lt).trans h
theorem BoxI.eq {w : World} {g : Nat} {u v : Ins} (h : BoxI w g u) (e : v = u) : BoxI w g v := e ▸ h
theorem BoxI.set {w : World} {g : Nat} {u v : Ins} (h : BoxI w g u) (j : Nat) (c : Int) (hv : (#[.int .i64 u.1, .int .i64 u.2.1, .int .i64 u.2.2.1, .int .i64 u.2.2.2.1, .int .i64 u.2.2.2.2.1.1, .int .i64 u.2.2.2.2.1.2, .int .i64 u.2.2.2.2.2.1, .int .i64 u.2.2.2.2.2.2.1, .int .i64 u.2.2.2.2.2.2.2.1, .int .i64 u.2.2.2.2.2.2.2.2.1, .int .i64 u.2.2.2.2.2.2.2.2.2] : Array Value).setIfInBounds j (.int .i64 c) = (#[.int .i64 v.1, .int .i64 v.2.1, .int .i64 v.2.2.1, .int .i64 v.2.2.2.1, .int .i64 v.2.2.2.2.1.1, .int .i64 v.2.2.2.2.1.2, .int .i64 v.2.2.2.2.2.1, .int .i64 v.2.2.2.2.2.2.1, .int .i64 v.2.2.2.2.2.2.2.1, .int .i64 v.2.2.2.2.2.2.2.2.1, .int .i64 v.2.2.2.2.2.2.2.2.2] : Array Value)) : BoxI (w.setCell ⟨g, j, none⟩ (.int .i64 c)) g v := by
  have := set_heap (o := j) h (Value.int .i64 c)
  rw [hv] at this; exact this

theorem boxA {w : World} {g : Nat} {u : Ins} (h : BoxI w g u) (A : Int) : BoxI (w.setCell ⟨g, 1, none⟩ (.int .i64 A)) g (u.1, A, u.2.2.1, u.2.2.2.1, (u.2.2.2.2.1.1, u.2.2.2.2.1.2), u.2.2.2.2.2.1, u.2.2.2.2.2.2.1, u.2.2.2.2.2.2.2.1, u.2.2.2.2.2.2.2.2.1, u.2.2.2.2.2.2.2.2.2) := (BoxI.set (v := (u.1, A, u.2.2.1, u.2.2.2.1, (u.2.2.2.2.1.1, u.2.2.2.2.1.2), u.2.2.2.2.2.1, u.2.2.2.2.2.2.1, u.2.2.2.2.2.2.2.1, u.2.2.2.2.2.2.2.2.1, u.2.2.2.2.2.2.2.2.2)) h 1 A rfl)
theorem boxB {w : World} {g : Nat} {u : Ins} (h : BoxI w g u) (b : Int) : BoxI (w.setCell ⟨g, 2, none⟩ (.int .i64 b)) g (u.1, u.2.1, b, u.2.2.2.1, (u.2.2.2.2.1.1, u.2.2.2.2.1.2), u.2.2.2.2.2.1, u.2.2.2.2.2.2.1, u.2.2.2.2.2.2.2.1, u.2.2.2.2.2.2.2.2.1, u.2.2.2.2.2.2.2.2.2) := (BoxI.set (v := (u.1, u.2.1, b, u.2.2.2.1, (u.2.2.2.2.1.1, u.2.2.2.2.1.2), u.2.2.2.2.2.1, u.2.2.2.2.2.2.1, u.2.2.2.2.2.2.2.1, u.2.2.2.2.2.2.2.2.1, u.2.2.2.2.2.2.2.2.2)) h 2 b rfl)
theorem boxC {w : World} {g : Nat} {u : Ins} (h : BoxI w g u) (c : Int) : BoxI (w.setCell ⟨g, 3, none⟩ (.int .i64 c)) g (u.1, u.2.1, u.2.2.1, c, (u.2.2.2.2.1.1, u.2.2.2.2.1.2), u.2.2.2.2.2.1, u.2.2.2.2.2.2.1, u.2.2.2.2.2.2.2.1, u.2.2.2.2.2.2.2.2.1, u.2.2.2.2.2.2.2.2.2) := (BoxI.set (v := (u.1, u.2.1, u.2.2.1, c, (u.2.2.2.2.1.1, u.2.2.2.2.1.2), u.2.2.2.2.2.1, u.2.2.2.2.2.2.1, u.2.2.2.2.2.2.2.1, u.2.2.2.2.2.2.2.2.1, u.2.2.2.2.2.2.2.2.2)) h 3 c rfl)
theorem boxV {w : World} {g : Nat} {u : Ins} (h : BoxI w g u) (n d : Int) : BoxI ((w.setCell ⟨g, 4, none⟩ (.int .i64 n)).setCell ⟨g, 5, none⟩ (.int .i64 d)) g (u.1, u.2.1, u.2.2.1, u.2.2.2.1, (n, d), u.2.2.2.2.2.1, u.2.2.2.2.2.2.1, u.2.2.2.2.2.2.2.1, u.2.2.2.2.2.2.2.2.1, u.2.2.2.2.2.2.2.2.2) := (BoxI.set (v := (u.1, u.2.1, u.2.2.1, u.2.2.2.1, (n, d), u.2.2.2.2.2.1, u.2.2.2.2.2.2.1, u.2.2.2.2.2.2.2.1, u.2.2.2.2.2.2.2.2.1, u.2.2.2.2.2.2.2.2.2)) (BoxI.set (v := (u.1, u.2.1, u.2.2.1, u.2.2.2.1, (n, u.2.2.2.2.1.2), u.2.2.2.2.2.1, u.2.2.2.2.2.2.1, u.2.2.2.2.2.2.2.1, u.2.2.2.2.2.2.2.2.1, u.2.2.2.2.2.2.2.2.2)) h 4 n rfl) 5 d rfl)
theorem boxT {w : World} {g : Nat} {u : Ins} (h : BoxI w g u) (kd bi fr ro ov : Int) : BoxI (((((w.setCell ⟨g, 6, none⟩ (.int .i64 kd)).setCell ⟨g, 7, none⟩ (.int .i64 bi)).setCell ⟨g, 8, none⟩ (.int .i64 fr)).setCell ⟨g, 9, none⟩ (.int .i64 ro)).setCell ⟨g, 10, none⟩ (.int .i64 ov)) g (u.1, u.2.1, u.2.2.1, u.2.2.2.1, (u.2.2.2.2.1.1, u.2.2.2.2.1.2), kd, bi, fr, ro, ov) := (BoxI.set (v := (u.1, u.2.1, u.2.2.1, u.2.2.2.1, (u.2.2.2.2.1.1, u.2.2.2.2.1.2), kd, bi, fr, ro, ov)) (BoxI.set (v := (u.1, u.2.1, u.2.2.1, u.2.2.2.1, (u.2.2.2.2.1.1, u.2.2.2.2.1.2), kd, bi, fr, ro, u.2.2.2.2.2.2.2.2.2)) (BoxI.set (v := (u.1, u.2.1, u.2.2.1, u.2.2.2.1, (u.2.2.2.2.1.1, u.2.2.2.2.1.2), kd, bi, fr, u.2.2.2.2.2.2.2.2.1, u.2.2.2.2.2.2.2.2.2)) (BoxI.set (v := (u.1, u.2.1, u.2.2.1, u.2.2.2.1, (u.2.2.2.2.1.1, u.2.2.2.2.1.2), kd, bi, u.2.2.2.2.2.2.2.1, u.2.2.2.2.2.2.2.2.1, u.2.2.2.2.2.2.2.2.2)) (BoxI.set (v := (u.1, u.2.1, u.2.2.1, u.2.2.2.1, (u.2.2.2.2.1.1, u.2.2.2.2.1.2), kd, u.2.2.2.2.2.2.1, u.2.2.2.2.2.2.2.1, u.2.2.2.2.2.2.2.2.1, u.2.2.2.2.2.2.2.2.2)) h 6 kd rfl) 7 bi rfl) 8 fr rfl) 9 ro rfl) 10 ov rfl)

set_option maxHeartbeats 8000000 in
theorem isa_keep (u x : Ins) (k : Int) (g : Nat) (w : World) (hb : BoxI w g u) :
    Calls Tryz.prog 53 #[.pointer (some ⟨g, 0, none⟩), insV x, .int .i64 k] w fun e w' => e = .returned (.tuple #[]) ∧ BoxI w' g (keepF u x k) ∧ UpBut g w w' := by
  have hg := hb.lt
  have HB := Lib.hid hb
  have f0 := fun o => hb.frozen o
  have c1 := hb.cell 1 (by omega)
  have c2 := hb.cell 2 (by omega)
  have c3 := hb.cell 3 (by omega)
  have c4 := hb.cell 4 (by omega)
  have c5 := hb.cell 5 (by omega)
  have c6 := hb.cell 6 (by omega)
  have c7 := hb.cell 7 (by omega)
  have c8 := hb.cell 8 (by omega)
  have c9 := hb.cell 9 (by omega)
  have c10 := hb.cell 10 (by omega)
  have hne : ¬ g = w.heap.size := by omega
  have hne2 : ¬ w.heap.size = g := by omega
  obtain ⟨op, A, b, c, ⟨n, d⟩, kd, bi, fr, ro, ov⟩ := x
  have HV := Lib.hid ((Up.refl w).alloc (.cells #[.int .i64 op, .int .i64 A, .int .i64 b, .int .i64 c, .int .i64 n, .int .i64 d, .int .i64 kd, .int .i64 bi, .int .i64 fr, .int .i64 ro, .int .i64 ov] 42))
  clear hb
  go_enter Tryz.func53, Tryz.ntmps53
  go_wp2
  all_goals try simp only [Bool.not_eq_false', Bool.not_eq_true', bne_iff_ne, ne_eq, bne_eq_false_iff_eq, beq_iff_eq, beq_eq_false_iff_ne, decide_eq_true_eq, decide_eq_false_iff_not] at *
  all_goals go_end0
  all_goals
    refine ⟨rfl, BoxI.up ?_ ((Up.refl _).alloc _), ?_⟩
    · first
        | (with_reducible refine BoxI.eq (boxA HB.out _) ?_)
        | (with_reducible refine BoxI.eq (boxB HB.out _) ?_)
        | (with_reducible refine BoxI.eq (boxC HB.out _) ?_)
        | (with_reducible refine BoxI.eq (boxV HB.out _ _) ?_)
        | (with_reducible refine BoxI.eq (boxT HB.out _ _ _ _ _) ?_)
        | (with_reducible refine BoxI.eq (HB.out) ?_)
      clear c1 c2 c3 c4 c5 c6 c7 c8 c9 c10 f0 hne hne2 hg
      simp [keepF, *]
    · refine UpBut.trans ?_ (((Up.refl _).alloc _).but g)
      repeat (first | exact UpBut.refl g w | refine UpBut.setCell ?_ _ _ _)

end Go.Proofs.YtlglfdhiopnglaaGreatDoor

