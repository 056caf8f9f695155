/-
  Scale of the program's side.
-/
import Derived.Test.YtpclbgaaoednnaaDoorLinA
namespace Go.Proofs.YtpclbgaaoednnaaDoor
set_option linter.unusedSimpArgs false
open Go.ChangeShapes Go.WideShapes Go.ChangeAt Go.RowKit
set_option linter.unusedVariables false

def outL (y : Int) (l : List Mono) : List Mono := l.map fun m => (m.1, (mulR m.2 y).1)
def allFit (y : Int) (l : List Mono) : Bool := l.all fun m => fitB (m.2 * y)
def scaleF (K : Int) (l : List Mono) (y : Int) : Int × List Mono × Int :=
  if okL l then (if y = 0 then (0, [], 0) else if fitB (K * y) && allFit y l then (K * y, outL y l, 0) else (0, [], 3)) else (0, [], 1)

theorem cap_nil : CapOk (.slice none 0 0) := ⟨_, _, _, rfl, Nat.le_refl _⟩
theorem own_cap {w : World} {base n k : Nat} {e : TypeId} {v : Value} {xs : List Value} (h : w.ownsRow base e k v n xs) : CapOk v := by
  rcases h.2 with ⟨rfl, rfl⟩ | ⟨g, cap, cur, rfl, _, _, hnc, _⟩
  · exact cap_nil
  · exact ⟨_, _, _, rfl, hnc⟩
theorem take_snoc {l : List Mono} {k : Nat} (hk : k < l.length) {m : Mono} (h : l.getD k m0 = m) : l.take (k + 1) = l.take k ++ [m] := by
  have e : l[k]? = some m := by
    rw [List.getElem?_eq_getElem hk]
    rw [List.getD_eq_getElem?_getD, List.getElem?_eq_getElem hk] at h
    exact congrArg some h
  rw [List.take_add_one, e]; rfl
theorem outL_snoc (y : Int) (l : List Mono) (m : Mono) : outL y (l ++ [m]) = outL y l ++ [(m.1, (mulR m.2 y).1)] := by simp [outL]
theorem allFit_snoc (y : Int) (l : List Mono) (m : Mono) : allFit y (l ++ [m]) = (allFit y l && fitB (m.2 * y)) := by simp [allFit]
theorem mulR_snd (a b : Int) : (mulR a b).2 = fitB (a * b) := by
  unfold mulR; cases h : fitB (a * b) <;> simp

/-- A form and an error, as results. -/
def LinErr (e : Ending) (w' : World) (r : Int × List Mono × Int) : Prop := ∃ v, e = .returned (.tuple #[.agg #[.int .i64 r.1, v], .int .i64 r.2.2]) ∧ MonosAt w' v r.2.1 ∧ CapOk v

def FreshV (w : World) (v : Value) : Prop := ∀ a n c, v = .slice (some a) n c → w.heap.size ≤ a.block
theorem fresh_nil (w : World) : FreshV w (.slice none 0 0) := fun a n c h => by cases h
theorem own_fresh {w w' : World} {base n k : Nat} {e : TypeId} {v : Value} {xs : List Value} (h : w'.ownsRow base e k v n xs) (hb : w.heap.size ≤ base) : FreshV w v := fun a n' c hv => by
  rcases h.2 with ⟨rfl, rfl⟩ | ⟨g, cap, cur, rfl, hg, _⟩
  · cases hv
  · cases hv; exact Nat.le_trans hb hg
/-- A form and an error, as results; the form's monomials lie in memory of the call's own. -/
def LinErrF (w : World) (e : Ending) (w' : World) (r : Int × List Mono × Int) : Prop := ∃ v, e = .returned (.tuple #[.agg #[.int .i64 r.1, v], .int .i64 r.2.2]) ∧ MonosAt w' v r.2.1 ∧ CapOk v ∧ FreshV w v

end Go.Proofs.YtpclbgaaoednnaaDoor

