/-
  Plain law: the plan runs through, and costs costF (chapter 28), the recursion.
-/
import Derived.Test.YtdanjghefhjmcaaChPlanV
namespace Go.Proofs.Ytdanjghefhjmcaa
open Go.RowKit
set_option linter.unusedVariables false

/-- The start f of the part may be restored from slot sl. -/
def Hold (S : Int) (st : PSt) (f : Nat) (sl : Int) : Prop := (sl = -1 ∧ f = 0) ∨ (0 ≤ sl ∧ sl < S ∧ st.full sl.toNat = true ∧ st.held sl.toNat = (f : Int))
theorem Runs.restore {N S : Int} {st : PSt} {f : Nat} {sl : Int} (h : Hold S st f sl) : Runs N S st [((3 : Int), (f : Int), sl)] 0 { st with now := (f : Int) } := by
  refine Runs.one (a := ((3 : Int), (f : Int), sl)) ?_
  simp only [stepF]
  rw [if_neg (by decide), if_neg (by decide), if_pos trivial, if_neg]
  rintro ⟨h1, h2⟩
  rcases h with ⟨a, b⟩ | ⟨a, b, c, d⟩
  · exact h1 ⟨a, by omega⟩
  · rcases h2 with h2 | h2 | h2
    · exact h2 ⟨a, b⟩
    · rw [c] at h2; cases h2
    · exact h2 d
theorem Runs.rev {N S : Int} {st : PSt} {f : Nat} (h1 : st.now = (f : Int)) (h2 : st.left = ((f + 1 : Nat) : Int)) : Runs N S st [((4 : Int), ((f + 1 : Nat) : Int), (0 : Int))] 0 { st with left := (f : Int) } := by
  refine Runs.one (a := ((4 : Int), ((f + 1 : Nat) : Int), (0 : Int))) ?_
  simp only [stepF]
  rw [if_neg (by decide), if_neg (by decide), if_neg (by decide), if_pos trivial, if_neg (by rw [h1, h2]; omega), show st.left - 1 = (f : Int) by omega]
theorem Runs.store {N S : Int} {st : PSt} {f : Nat} {sl : Int} (h1 : st.now = (f : Int)) (h2 : 0 ≤ sl) (h3 : sl < S) : Runs N S st [((2 : Int), (f : Int), sl)] 0 { st with held := fun i => if i = sl.toNat then (f : Int) else st.held i, full := fun i => if i = sl.toNat then true else st.full i } := by
  refine Runs.one (a := ((2 : Int), (f : Int), sl)) ?_
  simp only [stepF]
  rw [if_neg (by decide), if_pos trivial, if_neg (by rw [h1]; omega)]
def triQ : Nat → Nat
  | 0 => 0
  | j + 1 => j + triQ j
theorem Runs.quad {N S : Int} (f : Nat) (sl : Int) : ∀ (j : Nat) (st : PSt), st.now = (f : Int) → st.left = ((f + j : Nat) : Int) → ((f + j : Nat) : Int) ≤ N → Hold S st f sl → ∃ st', Runs N S st (quadL f sl j) (triQ j) st' ∧ st'.left = (f : Int) ∧ st'.held = st.held ∧ st'.full = st.full
  | 0, st, _, h2, _, _ => ⟨st, Runs.nil _ _ _, h2, rfl, rfl⟩
  | j + 1, st, h1, h2, hN, hh => by
    have p1 := (Runs.adv (N := N) (S := S) f j st h1 (by omega)).comp (Runs.rev (N := N) (S := S) (st := { st with now := ((f + j : Nat) : Int) }) (f := f + j) rfl h2)
    rcases Nat.eq_zero_or_pos j with rfl | hj
    · refine ⟨{ ({ st with now := ((f + 0 : Nat) : Int) } : PSt) with left := ((f + 0 : Nat) : Int) }, ?_, rfl, rfl, rfl⟩
      simpa [quadL, triQ] using p1
    · have p2 := p1.comp (Runs.restore (f := f) (sl := sl) hh)
      obtain ⟨st', q1, q2, q3, q4⟩ := Runs.quad (N := N) (S := S) f sl j { ({ ({ st with now := ((f + j : Nat) : Int) } : PSt) with left := ((f + j : Nat) : Int) } : PSt) with now := (f : Int) } rfl rfl (by omega) hh
      refine ⟨st', ?_, q2, q3, q4⟩
      rw [quadL, if_pos hj]
      have := p2.comp q1
      simpa only [triQ, Nat.add_zero] using this
end Go.Proofs.Ytdanjghefhjmcaa
