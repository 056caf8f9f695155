/-
  Plain law: a plan that stores into the slots below S uses at most S of them (chapter 28).
-/
import Derived.Test.YtdanjghefhjmcaaChPeakEq
import Derived.Test.YtdanjghefhjmcaaChPlanX
namespace Go.Proofs.Ytdanjghefhjmcaa
open Go.RowKit
set_option linter.unusedVariables false

def cntS (p : Int → Bool) : Nat → Nat
  | 0 => 0
  | S + 1 => cntS p S + (if p S then 1 else 0)
theorem cntS_le (p : Int → Bool) : ∀ S, cntS p S ≤ S
  | 0 => Nat.le_refl _
  | S + 1 => by have := cntS_le p S; rw [cntS]; split <;> omega
theorem cntS_mono (p q : Int → Bool) (h : ∀ x, p x = true → q x = true) : ∀ S, cntS p S ≤ cntS q S
  | 0 => Nat.le_refl _
  | S + 1 => by
    have := cntS_mono p q h S
    rw [cntS, cntS]
    by_cases hp : p S = true
    · rw [if_pos hp, if_pos (h _ hp)]; omega
    · rw [if_neg hp]; split <;> omega
theorem cntS_more (p q : Int → Bool) (h : ∀ x, p x = true → q x = true) (j : Nat) (h1 : p j = false) (h2 : q j = true) : ∀ S, j < S → cntS p S + 1 ≤ cntS q S
  | 0, hj => absurd hj (by omega)
  | S + 1, hj => by
    rw [cntS, cntS]
    by_cases e : j = S
    · subst e
      have := cntS_mono p q h j
      rw [h1, h2]; simp; exact this
    · have := cntS_more p q h j h1 h2 S (by omega)
      by_cases hp : p S = true
      · rw [if_pos hp, if_pos (h _ hp)]; omega
      · rw [if_neg hp]; split <;> omega

theorem anyB_mono (l : List Actn) (i : Nat) (x : Int) (h : anyB (l.take i) x = true) : anyB (l.take (i + 1)) x = true := by
  unfold anyB at *
  rw [List.any_eq_true] at *
  obtain ⟨y, hy, h2⟩ := h
  exact ⟨y, (List.take_sublist_take_left (Nat.le_succ i)).mem hy, h2⟩
theorem mAt_le (l : List Actn) (S : Nat) (hl : ∀ a ∈ l, a.1 = 2 → 0 ≤ a.2.2 ∧ a.2.2 < S) : ∀ i, i ≤ l.length → mAt l i ≤ cntS (anyB (l.take i)) S
  | 0, _ => by simp [mAt, stored, keysI, Maps.setOf, Maps.size]
  | i + 1, hi => by
    have := mAt_le l S hl i (by omega)
    rw [mAt_succ l i hi]
    have hm := cntS_mono _ _ (anyB_mono l i) S
    split
    · omega
    · rename_i hg
      rw [againP, Bool.or_eq_true, not_or] at hg
      obtain ⟨g1, g2⟩ := hg
      have g3 : l[i].1 = 2 := by simpa using g1
      obtain ⟨b1, b2⟩ := hl l[i] (List.getElem_mem _) g3
      have := cntS_more (anyB (l.take i)) (anyB (l.take (i + 1))) (anyB_mono l i) l[i].2.2.toNat (by
        rw [show ((l[i].2.2.toNat : Nat) : Int) = l[i].2.2 by omega]; simpa using g2) (by
        rw [show ((l[i].2.2.toNat : Nat) : Int) = l[i].2.2 by omega, anyB, List.any_eq_true]
        refine ⟨l[i], ?_, by simp [g3]⟩
        rw [List.take_succ_eq_append_getElem hi]; exact List.mem_append_right _ (List.mem_singleton.2 rfl)) S (by omega)
      omega
theorem peakP_le (l : List Actn) (S : Nat) (hl : ∀ a ∈ l, a.1 = 2 → 0 ≤ a.2.2 ∧ a.2.2 < S) : peakP l ≤ S := by
  have := mAt_le l S hl l.length (Nat.le_refl _)
  rw [mAt, List.take_length] at this
  exact Nat.le_trans this (cntS_le _ _)

/-- What is said of each action of a plan. -/
def ActOk (S : Int) (a : Actn) : Prop := (a.1 = 2 → 0 ≤ a.2.2 ∧ a.2.2 < S) ∧ 0 ≤ a.2.1 ∧ a.2.1 ≤ 64 ∧ -1 ≤ a.2.2 ∧ a.2.2 ≤ 64
theorem advL_ok (S : Int) (f t : Nat) (ht : t ≤ 64) : ∀ a ∈ advL f t, ActOk S a := fun a ha => by
  unfold advL at ha
  obtain ⟨k, hk, rfl⟩ := List.mem_map.1 ha
  rw [List.mem_range] at hk
  exact ⟨fun h => absurd h (by simp), by show (0 : Int) ≤ ((f + 1 + k : Nat) : Int); omega, by show ((f + 1 + k : Nat) : Int) ≤ 64; omega, by simp, by simp⟩
theorem quadL_ok (S : Int) (f : Nat) (sl : Int) (h1 : -1 ≤ sl) (h2 : sl ≤ 64) : ∀ j, f + j ≤ 64 → ∀ a ∈ quadL f sl j, ActOk S a
  | 0, _, a, ha => by simp [quadL] at ha
  | j + 1, hj, a, ha => by
    simp only [quadL, List.mem_append] at ha
    rcases ha with ((ha | ha) | ha) | ha
    · exact advL_ok S f (f + j) (by omega) a ha
    · rw [List.mem_singleton] at ha; subst ha
      exact ⟨fun h => absurd h (by simp), by show (0 : Int) ≤ ((f + j + 1 : Nat) : Int); omega, by show ((f + j + 1 : Nat) : Int) ≤ 64; omega, by simp, by simp⟩
    · split at ha
      · rw [List.mem_singleton] at ha; subst ha
        exact ⟨fun h => absurd h (by simp), by show (0 : Int) ≤ (f : Int); omega, by show (f : Int) ≤ 64; omega, h1, h2⟩
      · simp at ha
    · exact quadL_ok S f sl h1 h2 j (by omega) a ha
theorem revF_ok (S : Nat) (hS : S ≤ 64) : ∀ k f n sl fr, f + n ≤ 64 → fr ≤ S → -1 ≤ sl → sl ≤ 64 → ∀ a ∈ revF S k f (f + n) sl fr, ActOk S a
  | 0, _, _, _, _, _, _, _, _, a, ha => by simp [revF] at ha
  | k + 1, f, n, sl, fr, ht, hfr, h1, h2, a, ha => by
    rw [revF] at ha
    split at ha
    · simp at ha
    · split at ha
      · rw [List.mem_singleton] at ha; subst ha
        exact ⟨fun h => absurd h (by simp), by show (0 : Int) ≤ ((f + n : Nat) : Int); omega, by show ((f + n : Nat) : Int) ≤ 64; omega, by simp, by simp⟩
      · split at ha
        · exact quadL_ok S f sl h1 h2 _ (by omega) a ha
        · rw [show f + n - f = n by omega] at ha
          obtain ⟨a1, a2, _⟩ := first_split n fr (by omega) (by omega) (by omega) (by omega)
          generalize firstF n fr = m at *
          simp only [List.mem_append] at ha
          rcases ha with (((ha | ha) | ha) | ha) | ha
          · exact advL_ok S f _ (by omega) a ha
          · rw [List.mem_singleton] at ha; subst ha
            exact ⟨fun _ => ⟨by show (0 : Int) ≤ (S : Int) - fr; omega, by show (S : Int) - fr < S; omega⟩, by show (0 : Int) ≤ ((f + m : Nat) : Int); omega, by show ((f + m : Nat) : Int) ≤ 64; omega, by show (-1 : Int) ≤ (S : Int) - fr; omega, by show (S : Int) - fr ≤ 64; omega⟩
          · have := revF_ok S hS k (f + m) (n - m) ((S : Int) - fr) (fr - 1) (by omega) (by omega) (by omega) (by omega) a
            rw [show f + m + (n - m) = f + n by omega] at this
            exact this ha
          · rw [List.mem_singleton] at ha; subst ha
            exact ⟨fun h => absurd h (by simp), by show (0 : Int) ≤ (f : Int); omega, by show (f : Int) ≤ 64; omega, h1, h2⟩
          · exact revF_ok S hS k f m sl fr (by omega) hfr h1 h2 a ha
end Go.Proofs.Ytdanjghefhjmcaa
