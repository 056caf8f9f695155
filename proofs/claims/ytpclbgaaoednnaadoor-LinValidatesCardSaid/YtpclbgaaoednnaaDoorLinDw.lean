/-
  The reference's wide integers: digit.
-/
import Derived.Test.YtpclbgaaoednnaaDoorLinD
namespace Go.Proofs.YtpclbgaaoednnaaDoor
open Go.ChangeShapes Go.WideShapes Go.ChangeAt Go.RowKit
set_option linter.unusedVariables false
set_option linter.unusedSimpArgs false

/-- Six cells of block b. -/
structure W6 (w : World) (b : Nat) (D : Nat → Int) : Prop where
  lt : b < w.heap.size
  cell : ∀ j, j < 6 → w.cell? ⟨b, j, none⟩ = some (.int .u64 (D j))
  fz : ∀ o, w.frozen? ⟨b, o, none⟩ = false
theorem W6.set {w : World} {b : Nat} {D : Nat → Int} (x : W6 w b D) (k : Nat) (hk : k < 6) (u : Int) : W6 (w.setCell ⟨b, k, none⟩ (.int .u64 u)) b (updD D k u) where
  lt := by rw [set_size]; exact x.lt
  cell := fun j hj => by
    unfold updD
    by_cases h : j = k
    · subst h; rw [if_pos rfl]; exact set_eq _ _ _ _ _ (x.cell j hj)
    · rw [if_neg h]; exact (set_ne _ _ _ _ _ (fun e => h e.symm)).trans (x.cell j hj)
  fz := fun o => by rw [World.frozen?_setCell]; exact x.fz o
theorem W6.up {w w' : World} {b : Nat} {D : Nat → Int} (x : W6 w b D) (u : Up w w') : W6 w' b D :=
  ⟨Nat.lt_of_lt_of_le x.lt u.size, fun j hj => (u.cell _ _ x.lt).trans (x.cell j hj), fun o => (u.frozen _ _ x.lt).trans (x.fz o)⟩
theorem W6.six {w : World} {b : Nat} {D : Nat → Int} (x : W6 w b D) : w.cell? ⟨b, 0, none⟩ = some (.int .u64 (D 0)) ∧ w.cell? ⟨b, 1, none⟩ = some (.int .u64 (D 1)) ∧ w.cell? ⟨b, 2, none⟩ = some (.int .u64 (D 2)) ∧ w.cell? ⟨b, 3, none⟩ = some (.int .u64 (D 3)) ∧ w.cell? ⟨b, 4, none⟩ = some (.int .u64 (D 4)) ∧ w.cell? ⟨b, 5, none⟩ = some (.int .u64 (D 5)) :=
  ⟨x.cell 0 (by omega), x.cell 1 (by omega), x.cell 2 (by omega), x.cell 3 (by omega), x.cell 4 (by omega), x.cell 5 (by omega)⟩
theorem W6.new (w : World) (D : Nat → Int) (t : TypeId) : W6 (w.alloc (.cells #[.int .u64 (D 0), .int .u64 (D 1), .int .u64 (D 2), .int .u64 (D 3), .int .u64 (D 4), .int .u64 (D 5)] t)) w.heap.size D := by
  have h := heap_alloc_new w (.cells #[.int .u64 (D 0), .int .u64 (D 1), .int .u64 (D 2), .int .u64 (D 3), .int .u64 (D 4), .int .u64 (D 5)] t)
  refine ⟨by rw [size_alloc]; omega, fun j hj => ?_, fun o => frozen_of_row _ _ o _ _ h⟩
  rcases (by omega : j = 0 ∨ j = 1 ∨ j = 2 ∨ j = 3 ∨ j = 4 ∨ j = 5) with rfl | rfl | rfl | rfl | rfl | rfl <;> exact cell_of_row _ _ _ _ _ _ h
theorem W6.new0 (w : World) (t : TypeId) : W6 (w.alloc (.cells #[.int .u64 0, .int .u64 0, .int .u64 0, .int .u64 0, .int .u64 0, .int .u64 0] t)) w.heap.size (fun _ => 0) := W6.new w (fun _ => 0) t
theorem UpBut.frozen {b : Nat} {w w' : World} (h : UpBut b w w') (k o : Nat) (hk : k < w.heap.size) (hb : k ≠ b) : w'.frozen? ⟨k, o, none⟩ = w.frozen? ⟨k, o, none⟩ := by
  have := h.block k hk hb
  unfold World.frozen?; rw [this]
theorem W6.but {w w' : World} {b c : Nat} {D : Nat → Int} (x : W6 w b D) (u : UpBut c w w') (hb : b ≠ c) : W6 w' b D :=
  ⟨Nat.lt_of_lt_of_le x.lt u.size, fun j hj => (u.cell _ _ x.lt hb).trans (x.cell j hj), fun o => (u.frozen _ _ x.lt hb).trans (x.fz o)⟩

def WideIs (T : Int) (e : Ending) : Prop := ∃ D : Nat → Int, e = .returned (.agg #[.int .u64 (D 0), .int .u64 (D 1), .int .u64 (D 2), .int .u64 (D 3), .int .u64 (D 4), .int .u64 (D 5)]) ∧ Dig6 D ∧ val6 D = T
/-- The world after a wide integer has been stored. -/
def put6 (w : World) (b : Nat) (D : Nat → Int) : World := (((((w.setCell ⟨b, 0, none⟩ (.int .u64 (D 0))).setCell ⟨b, 1, none⟩ (.int .u64 (D 1))).setCell ⟨b, 2, none⟩ (.int .u64 (D 2))).setCell ⟨b, 3, none⟩ (.int .u64 (D 3))).setCell ⟨b, 4, none⟩ (.int .u64 (D 4))).setCell ⟨b, 5, none⟩ (.int .u64 (D 5))
theorem put6_but (w : World) (b : Nat) (D : Nat → Int) : UpBut b w (put6 w b D) := ((((((UpBut.refl b w).setCell _ _ _).setCell _ _ _).setCell _ _ _).setCell _ _ _).setCell _ _ _).setCell _ _ _
theorem put6_at {w : World} {b : Nat} {E : Nat → Int} (h : W6 w b E) (D : Nat → Int) : W6 (put6 w b D) b D := by
  have g := (((((h.set 0 (by omega) (D 0)).set 1 (by omega) (D 1)).set 2 (by omega) (D 2)).set 3 (by omega) (D 3)).set 4 (by omega) (D 4)).set 5 (by omega) (D 5)
  refine ⟨g.lt, fun j hj => ?_, g.fz⟩
  rw [show (put6 w b D).cell? ⟨b, j, none⟩ = _ from g.cell j hj]
  rcases (by omega : j = 0 ∨ j = 1 ∨ j = 2 ∨ j = 3 ∨ j = 4 ∨ j = 5) with rfl | rfl | rfl | rfl | rfl | rfl <;> simp [updD]

end Go.Proofs.YtpclbgaaoednnaaDoor

