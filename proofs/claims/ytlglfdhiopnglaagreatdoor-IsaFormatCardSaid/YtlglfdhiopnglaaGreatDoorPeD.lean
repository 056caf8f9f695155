/-
  What a step and a run of steps compute: plain.
-/
import Derived.Test.YtlglfdhiopnglaaGreatDoorGi
import Derived.Test.YtlglfdhiopnglaaGreatDoorPeP
namespace Go.Proofs.YtlglfdhiopnglaaGreatDoor
open Go.ChangeShapes Go.WideShapes Go.ChangeAt Go.RowKit
set_option linter.unusedVariables false
set_option linter.unusedSimpArgs false

def goneB (seen : List Bool) (i : Nat) : Bool := !seen.getD i false
def idleAt (l : List Ins) (i : Nat) : Bool := decide (i + 1 < l.length) && idleB (l.getD i i0) i
def threadB (l : List Ins) (i : Nat) : Bool := jumpsB (l.getD i i0).1 && decide (finF l (l.getD i i0).2.1 ≠ (l.getD i i0).2.1)
def actF (l : List Ins) (seen : List Bool) (i : Nat) : Option (List Ins) :=
  if goneB seen i then some (remF l i) else if idleAt l i then some (remF l i) else if threadB l i then some (setA l i (finF l (l.getD i i0).2.1)) else none
def scanF (l : List Ins) (seen : List Bool) : Nat → Nat → Option (List Ins)
  | 0, _ => none
  | k + 1, i => if goneB seen i then some (remF l i) else if idleAt l i then some (remF l i) else if threadB l i then some (setA l i (finF l (l.getD i i0).2.1)) else scanF l seen k (i + 1)
def stepF (l : List Ins) (ts : List Typ) (words : Int) : Option (List Ins) := if (validateF l ts words).2 = 0 then scanF l (reachF l) l.length 0 else none
/-- k steps lead from l to r, and no further. -/
def OptTo (ts : List Typ) (words : Int) : Nat → List Ins → List Ins → Prop
  | 0, l, r => stepF l ts words = none ∧ r = l
  | k + 1, l, r => ∃ l', stepF l ts words = some l' ∧ OptTo ts words k l' r
theorem remG_len : ∀ (l : List Ins) (k i : Int), (remG l k i).length ≤ l.length
  | [], _, _ => Nat.le_refl _
  | x :: r, k, i => by
    rw [remG_cons, List.length_append, List.length_cons]
    have := remG_len r (k + 1) i
    split <;> simp <;> omega
theorem remF_len (l : List Ins) (i : Int) : (remF l i).length ≤ l.length := remG_len l 0 i
theorem scanF_len {l : List Ins} {seen : List Bool} {r : List Ins} : ∀ (k i : Nat), scanF l seen k i = some r → r.length ≤ l.length
  | 0, _, h => by cases h
  | k + 1, i, h => by
    unfold scanF at h
    split at h
    · cases h; exact remF_len _ _
    · split at h
      · cases h; exact remF_len _ _
      · split at h
        · cases h; rw [setA_len]; exact Nat.le_refl _
        · exact scanF_len k _ h
theorem stepF_len {l r : List Ins} {ts : List Typ} {words : Int} (h : stepF l ts words = some r) : r.length ≤ l.length := by
  unfold stepF at h
  split at h
  · exact scanF_len _ _ h
  · cases h

/-- A unit in a box. -/
def UBox (w : World) (g : Nat) (t : TypeId) (a b c d : Value) : Prop := w.heap[g]? = some (.cells #[a, b, c, d] t (0, 0))
theorem UBox.lt {w : World} {g : Nat} {t : TypeId} {a b c d : Value} (h : UBox w g t a b c d) : g < w.heap.size := (Array.getElem?_eq_some_iff.1 h).1
theorem UBox.up {w w' : World} {g : Nat} {t : TypeId} {a b c d : Value} (h : UBox w g t a b c d) (u : Up w w') : UBox w' g t a b c d := (u.heap g h.lt).trans h
theorem UBox.all {w : World} {g : Nat} {t : TypeId} {a b c d : Value} (h : UBox w g t a b c d) : w.cell? ⟨g, 0, none⟩ = some a ∧ w.cell? ⟨g, 1, none⟩ = some b ∧ w.cell? ⟨g, 2, none⟩ = some c ∧ w.cell? ⟨g, 3, none⟩ = some d :=
  ⟨cell_of_row _ _ _ _ _ _ h, cell_of_row _ _ _ _ _ _ h, cell_of_row _ _ _ _ _ _ h, cell_of_row _ _ _ _ _ _ h⟩
theorem UBox.frozen {w : World} {g : Nat} {t : TypeId} {a b c d : Value} (h : UBox w g t a b c d) (o : Nat) : w.frozen? ⟨g, o, none⟩ = false := frozen_of_row _ _ _ _ _ h
theorem UBox.new (w : World) (t : TypeId) (a b c d : Value) : UBox (w.alloc (.cells #[a, b, c, d] t)) w.heap.size t a b c d := heap_alloc_new w _
theorem UBox.new2 (w : World) (t t2 : TypeId) (a b c d a2 b2 c2 d2 : Value) : UBox ((w.alloc (.cells #[a2, b2, c2, d2] t2)).alloc (.cells #[a, b, c, d] t)) (w.heap.size + 1) t a b c d := by
  have := heap_alloc_new (w.alloc (.cells #[a2, b2, c2, d2] t2)) (.cells #[a, b, c, d] t (0, 0))
  rw [show (w.alloc (.cells #[a2, b2, c2, d2] t2)).heap.size = w.heap.size + 1 by simp] at this
  exact this
end Go.Proofs.YtlglfdhiopnglaaGreatDoor

