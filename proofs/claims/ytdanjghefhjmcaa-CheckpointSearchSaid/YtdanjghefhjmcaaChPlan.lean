/-
  CheckPlan (chapter 28, the program's side).
-/
import Derived.Test.YtdanjghefhjmcaaChSt
import Derived.Test.YtdanjghefhjmcaaChCost
import Derived.Test.YtdanjghefhjmcaaSl
namespace Go.Proofs.Ytdanjghefhjmcaa
open Go.ChangeShapes Go.WideShapes Go.ChangeAt Go.RowKit
set_option linter.unusedVariables false

abbrev Actn := Int × Int × Int
def actF (l : List Actn) (i j : Nat) : Value := match j with
  | 0 => .int .i64 (l.getD i (0, 0, 0)).1
  | 1 => .int .i64 (l.getD i (0, 0, 0)).2.1
  | _ => .int .i64 (l.getD i (0, 0, 0)).2.2
def IsActs (w : World) (v : Value) (l : List Actn) : Prop := SlAt w v l.length 3 (actF l)

theorem SlAt.but {w w' : World} {v : Value} {len k b : Nat} {f : Nat → Nat → Value} (h : SlAt w v len k f) (u : UpBut b w w') (hb : ∀ a cap, v = .slice (some a) len cap → a.block ≠ b) : SlAt w' v len k f := by
  obtain ⟨⟨a, cap, hv, h0, h1⟩, h2⟩ := h
  refine ⟨⟨a, cap, hv, h0, fun x hx hl => ?_⟩, h2⟩
  obtain ⟨g1, g2, g3⟩ := h1 x hx hl
  refine ⟨g1, Nat.lt_of_lt_of_le g2 u.size, fun i j hi hj => ?_⟩
  rw [← g3 i j hi hj]
  exact World.cell?_of_block (w := w) (u.block x.block g2 (hb x cap (by rw [hv, hx])))

/-- The plan's execution: the number of done actions, the cost, the state; stopped at the first action that is not valid. -/
def planGo (steps slots : Int) : List Actn → Nat → Nat → PSt → Int × Int
  | [], i, cost, st => if st.left ≠ 0 then ((i : Int), 6) else ((cost : Int), 0)
  | a :: r, i, cost, st =>
    if (stepF st a.1 a.2.1 a.2.2 steps slots).1 = false then ((i : Int), 26)
    else planGo steps slots r (i + 1) (if a.1 = 1 then cost + 1 else cost) (stepF st a.1 a.2.1 a.2.2 steps slots).2
def st0 (steps : Int) : PSt := ⟨0, steps, fun _ => 0, fun _ => false⟩

/-- The numbers of a state stay in their range. -/
def StOk (st : PSt) : Prop := 0 ≤ st.now ∧ st.now ≤ 64 ∧ 0 ≤ st.left ∧ st.left ≤ 64 ∧ ∀ i, 0 ≤ st.held i ∧ st.held i ≤ 64

theorem StOk.step {st : PSt} (h : StOk st) (op at' sl steps slots : Int) (hs : steps ≤ 64) : StOk (stepF st op at' sl steps slots).2 := by
  obtain ⟨a, b, c, d, e⟩ := h
  unfold stepF
  split
  · split
    · exact ⟨a, b, c, d, e⟩
    · rename_i g
      exact ⟨by show 0 ≤ at'; omega, by show at' ≤ 64; omega, c, d, e⟩
  split
  · split
    · exact ⟨a, b, c, d, e⟩
    · rename_i g
      have : at' = st.now := by omega
      refine ⟨a, b, c, d, fun i => ?_⟩
      show 0 ≤ (if i = sl.toNat then at' else st.held i) ∧ (if i = sl.toNat then at' else st.held i) ≤ 64
      split
      · omega
      · exact e i
  split
  · split
    · exact ⟨a, b, c, d, e⟩
    · rename_i g
      have e1 := e sl.toNat
      refine ⟨?_, ?_, c, d, e⟩
      · show 0 ≤ at'
        by_cases hi : sl = -1 ∧ at' = 0
        · omega
        · by_cases hq : st.held sl.toNat = at'
          · omega
          · exact absurd ⟨hi, Or.inr (Or.inr hq)⟩ g
      · show at' ≤ 64
        by_cases hi : sl = -1 ∧ at' = 0
        · omega
        · by_cases hq : st.held sl.toNat = at'
          · omega
          · exact absurd ⟨hi, Or.inr (Or.inr hq)⟩ g
  split
  · split
    · exact ⟨a, b, c, d, e⟩
    · rename_i g
      exact ⟨a, b, by show 0 ≤ st.left - 1; omega, by show st.left - 1 ≤ 64; omega, e⟩
  · exact ⟨a, b, c, d, e⟩
end Go.Proofs.Ytdanjghefhjmcaa
