/-
  Well formed, of both sides: the same. Printed by mkPeQ.py.
-/
import Derived.Test.YtbpojmhgifgfdaaDoorPeO
namespace Go.Proofs.YtbpojmhgifgfdaaDoor
open Go.ChangeShapes Go.WideShapes Go.ChangeAt Go.RowKit
set_option linter.unusedVariables false
set_option linter.unusedSimpArgs false
set_option maxRecDepth 100000

set_option maxHeartbeats 8000000 in
theorem wf_form (x : Ins) : wfB x = formB x := by
  obtain ⟨op, A, b, c, ⟨n, d⟩, kd, bi, fr, ro, ov⟩ := x
  by_cases hk : knownB op = true
  · obtain ⟨o, rfl⟩ : ∃ o : Nat, op = o := ⟨op.toNat, by simp [knownB] at hk; omega⟩
    have ho : o < 17 := by simp [knownB] at hk; omega
    clear hk
    rw [Bool.eq_iff_iff]
    by_cases h8 : n = 8
    · subst h8
      obtain ⟨vf, hvf⟩ : ∃ vf, validF 8 d = vf := ⟨_, rfl⟩
      obtain ⟨tb, htb⟩ : ∃ tb, typB (kd, bi, fr, ro, ov) = tb := ⟨_, rfl⟩
      rcases (by omega : o = 0 ∨ o = 1 ∨ o = 2 ∨ o = 3 ∨ o = 4 ∨ o = 5 ∨ o = 6 ∨ o = 7 ∨ o = 8 ∨ o = 9 ∨ o = 10 ∨ o = 11 ∨ o = 12 ∨ o = 13 ∨ o = 14 ∨ o = 15 ∨ o = 16) with rfl | rfl | rfl | rfl | rfl | rfl | rfl | rfl | rfl | rfl | rfl | rfl | rfl | rfl | rfl | rfl | rfl
      all_goals cases vf <;> cases tb
      all_goals simp [hvf, htb, wfB, formB, opsF, tabF, tabL, skB, wfG, eqI, keepF, fitsB, kdN, kdS, fieldB, vlB, numB, inB, knownB, typedB]
      all_goals try omega
    · have hd : True := trivial
      obtain ⟨vf, hvf⟩ : ∃ vf, validF n d = vf := ⟨_, rfl⟩
      obtain ⟨tb, htb⟩ : ∃ tb, typB (kd, bi, fr, ro, ov) = tb := ⟨_, rfl⟩
      rcases (by omega : o = 0 ∨ o = 1 ∨ o = 2 ∨ o = 3 ∨ o = 4 ∨ o = 5 ∨ o = 6 ∨ o = 7 ∨ o = 8 ∨ o = 9 ∨ o = 10 ∨ o = 11 ∨ o = 12 ∨ o = 13 ∨ o = 14 ∨ o = 15 ∨ o = 16) with rfl | rfl | rfl | rfl | rfl | rfl | rfl | rfl | rfl | rfl | rfl | rfl | rfl | rfl | rfl | rfl | rfl
      all_goals cases vf <;> cases tb
      all_goals simp [h8, hvf, htb, wfB, formB, opsF, tabF, tabL, skB, wfG, eqI, keepF, fitsB, kdN, kdS, fieldB, vlB, numB, inB, knownB, typedB]
      all_goals try omega
  · have hk2 : knownB op = false := by simpa using hk
    simp [wfB, formB, hk2]
end Go.Proofs.YtbpojmhgifgfdaaDoor
