/-
  Equality of linear forms: slices.Equal, Same, and Lin of the base package; the constant form and the form of one variable.
-/
import Derived.Test.YtpclbgaaoednnaaDoorLin1
import Derived.Laws.StructEq
namespace Go.Proofs.YtpclbgaaoednnaaDoor
set_option linter.unusedSimpArgs false
open Go.ChangeShapes Go.WideShapes Go.ChangeAt Go.RowKit
set_option linter.unusedVariables false

def eqM (l l' : List Mono) : Bool := decide (l = l')
theorem eqM_cons (m m' : Mono) (l l' : List Mono) : eqM (m :: l) (m' :: l') = (decide (m.1 = m'.1) && decide (m.2 = m'.2) && eqM l l') := by
  obtain ⟨a, b⟩ := m
  obtain ⟨c, d⟩ := m'
  unfold eqM
  simp [Bool.and_assoc]
theorem toList_inj {s t : ByteArray} (h : s.toList = t.toList) : s = t := by
  rw [Lib.toList_data, Lib.toList_data] at h
  rw [← Lib.mk_data s, ← Lib.mk_data t, h]
theorem eqM_len {l l' : List Mono} (h : l.length ≠ l'.length) : eqM l l' = false := by
  unfold eqM
  exact decide_eq_false fun e => h (by rw [e])

/-- An element of such a slice, met in a later world. -/
theorem MonosAt.elem {w wr : World} {v : Value} {l : List Mono} (h : MonosAt w v l) (hU : Up w wr) (k : Nat) (hk : k < l.length) {n : Nat} (hn : l.length = n) {a : Option Addr} {cap : Nat} (hv : v = .slice a n cap) :
    ∃ bl off s b, a = some ⟨bl, off, none⟩ ∧ bl < w.heap.size ∧ l.getD k m0 = (s, b) ∧ wr.cell? ⟨bl, off + k * 2, none⟩ = some (.string s) ∧ wr.cell? ⟨bl, off + k * 2 + 1, none⟩ = some (.int .i64 b) := by
  subst hn
  obtain ⟨⟨a', cap', hv', h0, hc⟩, hmax⟩ := h
  rw [hv'] at hv
  simp only [Value.slice.injEq] at hv
  obtain ⟨rfl, -, rfl⟩ := hv
  clear hv'
  cases a' with
  | none => exact absurd (h0 rfl) (by omega)
  | some x =>
    obtain ⟨g1, g2, g3⟩ := hc x rfl (by omega)
    obtain ⟨bl, off, sp⟩ := x
    have g1' : sp = none := g1
    subst g1'
    have g2' : bl < w.heap.size := g2
    have g4 : ∀ i j, i < l.length → j < 2 → wr.cell? ⟨bl, off + i * 2 + j, none⟩ = some (monoF l i j) := fun i j hi hj => (hU.cell _ _ g2').trans (g3 i j hi hj)
    obtain ⟨s, b, hm⟩ : ∃ s b, l.getD k m0 = (s, b) := ⟨_, _, rfl⟩
    obtain ⟨c0, c1⟩ := mono_at l.length g4 hk hm
    exact ⟨bl, off, s, b, rfl, g2', hm, c0, c1⟩
theorem MonosAt.slice {w : World} {v : Value} {l : List Mono} (h : MonosAt w v l) : ∃ a cap, v = .slice a l.length cap := by
  obtain ⟨⟨a, cap, hv, _, _⟩, _⟩ := h
  exact ⟨a, cap, hv⟩
theorem MonosAt.up {w w' : World} {v : Value} {l : List Mono} (h : MonosAt w v l) (u : Up w w') : MonosAt w' v l := SlAt.up h u

end Go.Proofs.YtpclbgaaoednnaaDoor

