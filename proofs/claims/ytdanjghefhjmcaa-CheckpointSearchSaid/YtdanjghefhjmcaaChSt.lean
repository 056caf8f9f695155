/-
  The state of a plan's execution in memory, and one step of it (chapter 28, the program's side).
-/
import Derived.Test.YtdanjghefhjmcaaRows
import Derived.Test.YtdanjghefhjmcaaB
import Derived.RegionTactic
import Derived.ChangeAlike
import Derived.BigRegion
namespace Go.Proofs.Ytdanjghefhjmcaa
open Go.ChangeShapes Go.WideShapes Go.ChangeAt Go.RowKit
set_option linter.unusedVariables false

structure PSt where
  now : Int
  left : Int
  held : Nat → Int
  full : Nat → Bool

/-- One action: valid or not, and the state behind it. -/
def stepF (st : PSt) (op at' sl steps slots : Int) : Bool × PSt :=
  if op = 1 then (if sl ≠ 0 ∨ at' ≠ st.now + 1 ∨ steps < at' then (false, st) else (true, { st with now := at' }))
  else if op = 2 then (if at' ≠ st.now ∨ ¬ (0 ≤ sl ∧ sl < slots) then (false, st) else (true, { st with held := fun i => if i = sl.toNat then at' else st.held i, full := fun i => if i = sl.toNat then true else st.full i }))
  else if op = 3 then (if ¬ (sl = -1 ∧ at' = 0) ∧ (¬ (0 ≤ sl ∧ sl < slots) ∨ st.full sl.toNat = false ∨ st.held sl.toNat ≠ at') then (false, st) else (true, { st with now := at' }))
  else if op = 4 then (if sl ≠ 0 ∨ st.left < 1 ∨ at' ≠ st.left ∨ st.now ≠ st.left - 1 then (false, st) else (true, { st with left := st.left - 1 }))
  else (false, st)

/-- The state lies in block b. -/
structure StAt (w : World) (b : Nat) (st : PSt) : Prop where
  lt : b < w.heap.size
  now : w.cell? ⟨b, 0, none⟩ = some (.int .i64 st.now)
  left : w.cell? ⟨b, 1, none⟩ = some (.int .i64 st.left)
  held : ∀ i, i < 64 → w.cell? ⟨b, 2 + i, none⟩ = some (.int .i64 (st.held i))
  full : ∀ i, i < 64 → w.cell? ⟨b, 66 + i, none⟩ = some (.bool (st.full i))
  froz : ∀ o, w.frozen? ⟨b, o, none⟩ = false

/-- The world only grew, but for block b. -/
structure UpBut (b : Nat) (w w' : World) : Prop where
  os : w'.os = w.os
  tape : w'.tape = w.tape
  output : w'.output = w.output
  size : w.heap.size ≤ w'.heap.size
  block : ∀ k, k < w.heap.size → k ≠ b → w'.heap[k]? = w.heap[k]?

theorem Up.but {w w' : World} (h : Up w w') (b : Nat) : UpBut b w w' := ⟨Below.os h, Below.tape h, Below.output h, Below.size h, fun k hk _ => Below.block h k hk⟩
theorem UpBut.trans {b : Nat} {x y z : World} (h : UpBut b x y) (k : UpBut b y z) : UpBut b x z :=
  ⟨k.os.trans h.os, k.tape.trans h.tape, k.output.trans h.output, Nat.le_trans h.size k.size, fun i hi hb => (k.block i (Nat.lt_of_lt_of_le hi h.size) hb).trans (h.block i hi hb)⟩
theorem UpBut.setCell {b : Nat} {w w' : World} (h : UpBut b w w') (o : Nat) (s : Option Nat) (v : Value) : UpBut b w (w'.setCell ⟨b, o, s⟩ v) :=
  h.trans ⟨rfl, rfl, rfl, by simp [World.setCell], fun k hk hb => Below.heap_setCell _ _ _ _ hb⟩
/-- A block of the call's own, laid behind, is no block that was there. -/
theorem UpBut.up {b : Nat} {w w1 w2 : World} (h : Up w w1) (hb : w.heap.size ≤ b) (k : UpBut b w1 w2) : Up w w2 :=
  ⟨k.os.trans (Below.os h), k.tape.trans (Below.tape h), k.output.trans (Below.output h), Nat.le_trans (Below.size h) k.size, fun i hi => (k.block i (Nat.lt_of_lt_of_le hi (Below.size h)) (by omega)).trans (Below.block h i hi)⟩

theorem StAt.up {w w' : World} {b : Nat} {st : PSt} (h : StAt w b st) (k : Up w w') : StAt w' b st :=
  ⟨Nat.lt_of_lt_of_le h.lt k.size, (k.cell _ _ h.lt).trans h.now, (k.cell _ _ h.lt).trans h.left, fun i hi => (k.cell _ _ h.lt).trans (h.held i hi), fun i hi => (k.cell _ _ h.lt).trans (h.full i hi), fun o => (k.frozen _ _ h.lt).trans (h.froz o)⟩

theorem set_ne (w : World) (b o o' : Nat) (v : Value) (h : o ≠ o') : (w.setCell ⟨b, o, none⟩ v).cell? ⟨b, o', none⟩ = w.cell? ⟨b, o', none⟩ := World.cell?_setCell_other _ _ _ _ (fun e => h (congrArg Addr.off e))
theorem set_eq (w : World) (b o : Nat) (v u : Value) (h : w.cell? ⟨b, o, none⟩ = some u) : (w.setCell ⟨b, o, none⟩ v).cell? ⟨b, o, none⟩ = some v := World.cell?_setCell_same _ _ _ h
theorem set_size (w : World) (a : Addr) (v : Value) : (w.setCell a v).heap.size = w.heap.size := by simp [World.setCell]

theorem StAt.setNow {w : World} {b : Nat} {st : PSt} (h : StAt w b st) (n : Int) : StAt (w.setCell ⟨b, 0, none⟩ (.int .i64 n)) b { st with now := n } where
  lt := by rw [set_size]; exact h.lt
  now := set_eq _ _ _ _ _ h.now
  left := (set_ne _ _ _ _ _ (by omega)).trans h.left
  held := fun i hi => (set_ne _ _ _ _ _ (by omega)).trans (h.held i hi)
  full := fun i hi => (set_ne _ _ _ _ _ (by omega)).trans (h.full i hi)
  froz := fun o => by rw [World.frozen?_setCell]; exact h.froz o

theorem StAt.setLeft {w : World} {b : Nat} {st : PSt} (h : StAt w b st) (n : Int) : StAt (w.setCell ⟨b, 1, none⟩ (.int .i64 n)) b { st with left := n } where
  lt := by rw [set_size]; exact h.lt
  now := (set_ne _ _ _ _ _ (by omega)).trans h.now
  left := set_eq _ _ _ _ _ h.left
  held := fun i hi => (set_ne _ _ _ _ _ (by omega)).trans (h.held i hi)
  full := fun i hi => (set_ne _ _ _ _ _ (by omega)).trans (h.full i hi)
  froz := fun o => by rw [World.frozen?_setCell]; exact h.froz o

theorem StAt.setHeld {w : World} {b : Nat} {st : PSt} (h : StAt w b st) (j : Nat) (hj : j < 64) (n : Int) : StAt (w.setCell ⟨b, 2 + j, none⟩ (.int .i64 n)) b { st with held := fun i => if i = j then n else st.held i } where
  lt := by rw [set_size]; exact h.lt
  now := (set_ne _ _ _ _ _ (by omega)).trans h.now
  left := (set_ne _ _ _ _ _ (by omega)).trans h.left
  held := fun i hi => by
    by_cases e : i = j
    · subst e; simp only [if_true]; exact set_eq _ _ _ _ _ (h.held i hi)
    · simp only [e, if_false]; exact (set_ne _ _ _ _ _ (by omega)).trans (h.held i hi)
  full := fun i hi => (set_ne _ _ _ _ _ (by omega)).trans (h.full i hi)
  froz := fun o => by rw [World.frozen?_setCell]; exact h.froz o

theorem StAt.setFull {w : World} {b : Nat} {st : PSt} (h : StAt w b st) (j : Nat) (hj : j < 64) (n : Bool) : StAt (w.setCell ⟨b, 66 + j, none⟩ (.bool n)) b { st with full := fun i => if i = j then n else st.full i } where
  lt := by rw [set_size]; exact h.lt
  now := (set_ne _ _ _ _ _ (by omega)).trans h.now
  left := (set_ne _ _ _ _ _ (by omega)).trans h.left
  held := fun i hi => (set_ne _ _ _ _ _ (by omega)).trans (h.held i hi)
  full := fun i hi => by
    by_cases e : i = j
    · subst e; simp only [if_true]; exact set_eq _ _ _ _ _ (h.full i hi)
    · simp only [e, if_false]; exact (set_ne _ _ _ _ _ (by omega)).trans (h.full i hi)
  froz := fun o => by rw [World.frozen?_setCell]; exact h.froz o

theorem StAt.alike {w w' : World} {b : Nat} {st : PSt} (h : StAt w b st) (k : w'.Alike w) : StAt w' b st := by
  have hc : ∀ a, w'.cell? a = w.cell? a := fun a => by unfold World.cell?; rw [k.1]
  have hf : ∀ a, w'.frozen? a = w.frozen? a := fun a => by unfold World.frozen?; rw [k.1]
  exact ⟨by rw [k.1]; exact h.lt, (hc _).trans h.now, (hc _).trans h.left, fun i hi => (hc _).trans (h.held i hi), fun i hi => (hc _).trans (h.full i hi), fun o => (hf _).trans (h.froz o)⟩

def StepPost (b : Nat) (st : PSt) (w : World) (r : Bool × PSt) (e : Ending) (w' : World) : Prop := e = .returned (.bool r.1) ∧ StAt w' b r.2 ∧ UpBut b w w'
end Go.Proofs.Ytdanjghefhjmcaa
