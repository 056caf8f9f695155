/-
  Substitution, plain.
-/
import Derived.Test.YtpclbgaaoednnaaDoorLinAd
namespace Go.Proofs.YtpclbgaaoednnaaDoor
set_option linter.unusedSimpArgs false
open Go.ChangeShapes Go.WideShapes Go.ChangeAt Go.RowKit
set_option linter.unusedVariables false

def byF (s : List UInt8) : List Mono → Int → Int
  | [], a => a
  | m :: r, a => byF s r (if m.1.toList == s then m.2 else a)
def restL (s : List UInt8) (l : List Mono) : List Mono := l.filter fun m => !(m.1.toList == s)
def substF (K : Int) (l : List Mono) (s : List UInt8) (K' : Int) (l' : List Mono) : Int × List Mono × Int :=
  if okL l && nameB s && okL l' then
    (if (scaleF K' l' (byF s l 0)).2.2 ≠ 0 then (0, [], (scaleF K' l' (byF s l 0)).2.2)
      else addF K (restL s l) (scaleF K' l' (byF s l 0)).1 (scaleF K' l' (byF s l 0)).2.1)
  else (0, [], 1)

theorem mulR_in64 (a b : Int) : In64 (mulR a b).1 := by
  unfold mulR
  cases h : fitB (a * b)
  · exact (⟨by decide, by decide⟩ : In64 0)
  · unfold fitB at h; simp at h; exact h
theorem outL_rng (y : Int) (l : List Mono) : Rng (outL y l) := fun k hk => by
  have hk' : k < l.length := by simpa [outL] using hk
  have : (outL y l).getD k m0 = ((l.getD k m0).1, (mulR (l.getD k m0).2 y).1) := by
    unfold outL
    rw [List.getD_eq_getElem?_getD, List.getElem?_map, List.getD_eq_getElem?_getD, List.getElem?_eq_getElem hk']; rfl
  rw [this]
  exact mulR_in64 _ _
theorem scaleF_facts (K : Int) (l : List Mono) (y : Int) : In64 (scaleF K l y).1 ∧ Rng (scaleF K l y).2.1 ∧ (scaleF K l y).2.1.length ≤ l.length := by
  have h0 : In64 0 := ⟨by decide, by decide⟩
  have hn : Rng [] := fun k hk => absurd hk (by simp)
  unfold scaleF
  split
  · split
    · exact ⟨h0, hn, by simp⟩
    · split
      · rename_i h
        have hf := (Bool.and_eq_true_iff.1 h).1
        unfold fitB at hf; simp at hf
        exact ⟨hf, outL_rng y l, by simp [outL]⟩
      · exact ⟨h0, hn, by simp⟩
  · exact ⟨h0, hn, by simp⟩
theorem restL_snoc (s : List UInt8) (l : List Mono) (m : Mono) : restL s (l ++ [m]) = restL s l ++ (if m.1.toList == s then [] else [m]) := by
  unfold restL
  rw [List.filter_append]
  congr 1
  cases h : (m.1.toList == s) <;> simp [List.filter, h]
theorem restL_rng {s : List UInt8} {l : List Mono} (h : ∀ m ∈ l, In64 m.2) : Rng (restL s l) := fun k hk => by
  have : (restL s l).getD k m0 ∈ restL s l := by
    rw [List.getD_eq_getElem?_getD, List.getElem?_eq_getElem hk]; exact List.getElem_mem hk
  exact h _ (List.mem_filter.1 this).1
theorem Rng.mem {l : List Mono} (h : Rng l) : ∀ m ∈ l, In64 m.2 := fun m hm => by
  obtain ⟨k, hk, rfl⟩ := List.getElem_of_mem hm
  have := h k hk
  rw [List.getD_eq_getElem?_getD, List.getElem?_eq_getElem hk] at this
  exact this

end Go.Proofs.YtpclbgaaoednnaaDoor

