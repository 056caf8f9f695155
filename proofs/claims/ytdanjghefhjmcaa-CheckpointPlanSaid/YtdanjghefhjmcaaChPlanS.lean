/-
  The planner's recursion, whole (chapter 28, the program's side).
-/
import Derived.Test.YtdanjghefhjmcaaChPlanR
namespace Go.Proofs.Ytdanjghefhjmcaa
open Go.ChangeShapes Go.WideShapes Go.ChangeAt Go.RowKit
set_option linter.unusedVariables false
set_option linter.unusedSimpArgs false

/-- The plan that the recursion writes. -/
def revF (slots : Int) : Nat → Nat → Nat → Int → Nat → List Actn
  | 0, _, _, _, _ => []
  | k + 1, f, t, sl, fr =>
    if t = f then [] else if t = f + 1 then [((4 : Int), (t : Int), (0 : Int))] else if fr = 0 then quadL f sl (t - f) else
      advL f (f + firstF (t - f) fr) ++ [((2 : Int), ((f + firstF (t - f) fr : Nat) : Int), slots - fr)] ++ revF slots k (f + firstF (t - f) fr) t (slots - fr) (fr - 1) ++ [((3 : Int), (f : Int), sl)] ++ revF slots k f (f + firstF (t - f) fr) sl fr

theorem quadL_len2 (f : Nat) (sl : Int) : ∀ j, (quadL f sl j).length ≤ 2 * (j * j)
  | 0 => by simp [quadL]
  | j + 1 => by
    have := quadL_len2 f sl j
    have h2 : (j + 1) * (j + 1) = j * j + 2 * j + 1 := by rw [Nat.mul_add, Nat.add_mul]; omega
    rcases Nat.eq_zero_or_pos j with rfl | hj
    · simp [quadL, advL]
    · simp only [quadL, List.length_append, advL_len, if_pos hj, List.length_singleton]
      omega
theorem split_sq (a b : Nat) (ha : 1 ≤ a) (hb : 1 ≤ b) : a + 2 + 2 * (a * a) + 2 * (b * b) ≤ 2 * ((a + b) * (a + b)) := by
  obtain ⟨a, rfl⟩ : ∃ x, a = x + 1 := ⟨a - 1, by omega⟩
  obtain ⟨b, rfl⟩ : ∃ x, b = x + 1 := ⟨b - 1, by omega⟩
  have e : (a + 1 + (b + 1)) * (a + 1 + (b + 1)) = (a + 1) * (a + 1) + (b + 1) * (b + 1) + 2 * ((a + 1) * (b + 1)) := by
    simp only [Nat.add_mul, Nat.mul_add, Nat.mul_comm b a]; omega
  have e2 : (a + 1) * (b + 1) = a * b + a + b + 1 := by simp only [Nat.add_mul, Nat.mul_add]; omega
  rw [e, e2]
  generalize (a + 1) * (a + 1) = A
  generalize (b + 1) * (b + 1) = B
  generalize a * b = C
  omega
theorem revF_len (slots : Int) : ∀ k f t sl fr, f ≤ t → t - f ≤ 64 → fr ≤ 64 → (revF slots k f t sl fr).length ≤ 2 * ((t - f) * (t - f))
  | 0, _, _, _, _, _, _, _ => by simp [revF]
  | k + 1, f, t, sl, fr, h1, h2, h3 => by
    rw [revF]
    split
    · simp
    · split
      · have : t - f = 1 := by omega
        rw [this]; simp
      · split
        · exact quadL_len2 f sl _
        · obtain ⟨a1, a2, _⟩ := first_split (t - f) fr h2 h3 (by omega) (by omega)
          generalize hm : firstF (t - f) fr = m at *
          have q1 := revF_len slots k (f + m) t (slots - fr) (fr - 1) (by omega) (by omega) (by omega)
          have q2 := revF_len slots k f (f + m) sl fr (by omega) (by omega) (by omega)
          have q3 := split_sq m (t - (f + m)) (by omega) (by omega)
          rw [show m + (t - (f + m)) = t - f by omega] at q3
          rw [show f + m - f = m by omega] at q2
          simp only [List.length_append, advL_len, List.length_singleton]
          omega

/-- The table of first splits lies in block fb. -/
structure FirstAt (w : World) (h b fb : Nat) : Prop where
  tab : TabIs w fb firstF
  lt : fb < h
  ne : fb ≠ b
theorem FirstAt.up {w w' : World} {h b fb : Nat} (p : FirstAt w h b fb) (u : UpPlan h b w w') : FirstAt w' h b fb := by
  have hb := u.block fb p.lt p.ne
  refine ⟨⟨Nat.lt_of_lt_of_le p.tab.lt u.size, fun n s hn hs => ?_, fun o => ?_⟩, p.lt, p.ne⟩
  · rw [← p.tab.cell n s hn hs]; simp only [World.cell?, hb]
  · rw [← p.tab.froz o]; simp only [World.frozen?, hb]
end Go.Proofs.Ytdanjghefhjmcaa
