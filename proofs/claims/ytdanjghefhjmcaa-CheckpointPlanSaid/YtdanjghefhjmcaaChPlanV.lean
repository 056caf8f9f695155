/-
  Plain law: the plan runs through, and costs costF (chapter 28).
-/
import Derived.Test.YtdanjghefhjmcaaChPlanS
namespace Go.Proofs.Ytdanjghefhjmcaa
open Go.RowKit
set_option linter.unusedVariables false

/-- The list runs through from st to st', with c advances. -/
def Runs (N S : Int) (st : PSt) (l : List Actn) (c : Nat) (st' : PSt) : Prop := ∀ r i k, planGo N S (l ++ r) i k st = planGo N S r (i + l.length) (k + c) st'
theorem Runs.nil (N S : Int) (st : PSt) : Runs N S st [] 0 st := fun r i k => rfl
theorem Runs.comp {N S : Int} {a b d : PSt} {l m : List Actn} {c e : Nat} (p : Runs N S a l c b) (q : Runs N S b m e d) : Runs N S a (l ++ m) (c + e) d := fun r i k => by
  rw [List.append_assoc, p, q, List.length_append, Nat.add_assoc, Nat.add_assoc]
theorem Runs.one {N S : Int} {st st' : PSt} {a : Actn} (h : stepF st a.1 a.2.1 a.2.2 N S = (true, st')) : Runs N S st [a] (if a.1 = 1 then 1 else 0) st' := fun r i k => by
  show planGo N S (a :: r) i k st = _
  rw [planGo, h]
  simp only [List.length_singleton]
  split
  · rename_i h; exact absurd h (by simp)
  · split <;> rfl
theorem Runs.adv {N S : Int} (f : Nat) : ∀ (k : Nat) (st : PSt), st.now = f → ((f + k : Nat) : Int) ≤ N → Runs N S st (advL f (f + k)) k { st with now := ((f + k : Nat) : Int) }
  | 0, st, h, _ => by
    rw [advL_nil]
    have : ({ st with now := ((f + 0 : Nat) : Int) } : PSt) = st := by cases st; simp at h; simp [h]
    rw [this]; exact Runs.nil _ _ _
  | k + 1, st, h, hN => by
    rw [advL_succ]
    refine (Runs.adv f k st h (by omega)).comp (Runs.one (a := ((1 : Int), ((f + 1 + k : Nat) : Int), (0 : Int))) ?_)
    have e : ((f + 1 + k : Nat) : Int) = ((f + (k + 1) : Nat) : Int) := by omega
    simp only [stepF, if_true]
    rw [if_neg (by
      rintro (h1 | h1 | h1)
      · exact h1 rfl
      · exact h1 (show ((f + 1 + k : Nat) : Int) = ((f + k : Nat) : Int) + 1 by omega)
      · omega), e]
end Go.Proofs.Ytdanjghefhjmcaa
