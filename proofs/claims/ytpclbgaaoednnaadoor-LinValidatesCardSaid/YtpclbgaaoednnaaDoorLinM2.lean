/-
  Add of the program's side: merge.
-/
import Derived.Test.YtpclbgaaoednnaaDoorLinM
namespace Go.Proofs.YtpclbgaaoednnaaDoor
set_option linter.unusedSimpArgs false
open Go.ChangeShapes Go.WideShapes Go.ChangeAt Go.RowKit
set_option linter.unusedVariables false

def mergeF : List Mono → List Mono → List Mono × Bool → List Mono × Bool
  | [], [], acc => acc
  | m :: r, [], acc => mergeF r [] (stepA acc m.1 m.2 0)
  | [], m' :: r', acc => mergeF [] r' (stepA acc m'.1 0 m'.2)
  | m :: r, m' :: r', acc =>
    if Op.bytesLess m.1.toList m'.1.toList then mergeF r (m' :: r') (stepA acc m.1 m.2 0)
    else if Op.bytesLess m'.1.toList m.1.toList then mergeF (m :: r) r' (stepA acc m'.1 0 m'.2)
    else mergeF r r' (stepA acc m.1 m.2 m'.2)
termination_by l l' _ => l.length + l'.length

def lenV (v : Value) : Nat := match v with
  | .slice _ n _ => n
  | _ => 0

/-- A list as it stands for merge: its cells, in a world that was there before; its length, its capacity, its numbers. -/
def Part (w0 : World) (v : Value) (l : List Mono) : Prop := MonosAt w0 v l ∧ Rng l ∧ CapOk v

theorem Part.nil (w : World) (a : Option Addr) (cap : Nat) : Part w (.slice a 0 cap) [] :=
  ⟨⟨⟨a, cap, rfl, (fun _ => rfl), fun x hx hl => absurd hl (by simp)⟩, by decide⟩, fun k hk => absurd hk (by simp), ⟨_, _, _, rfl, by omega⟩⟩
theorem Part.form {w0 : World} {v : Value} {m : Mono} {l : List Mono} (h : Part w0 v (m :: l)) :
    ∃ bl off cap, v = .slice (some ⟨bl, off, none⟩) (l.length + 1) cap ∧ l.length + 1 ≤ cap ∧ l.length + 1 ≤ 9223372036854775807 ∧ bl < w0.heap.size ∧ In64 m.2 ∧ (∀ w, Up w0 w → w.cell? ⟨bl, off, none⟩ = some (.string m.1) ∧ w.cell? ⟨bl, off + 1, none⟩ = some (.int .i64 m.2)) ∧
      Part w0 (.slice (if cap = 1 then some ⟨bl, off, none⟩ else some ⟨bl, off + 2, none⟩) l.length (cap - 1)) l := by
  obtain ⟨hm, hr, ⟨a, n, c, rfl, hnc⟩⟩ := h
  obtain ⟨⟨a', cap, hv, h0, hc⟩, hmax⟩ := hm
  simp only [Value.slice.injEq] at hv
  obtain ⟨rfl, rfl, rfl⟩ := hv
  simp only [List.length_cons] at hnc hmax h0 hc
  cases a with
  | none => exact absurd (h0 rfl) (by omega)
  | some x =>
    obtain ⟨g1, g2, g3⟩ := hc x rfl (by omega)
    obtain ⟨bl, off, sp⟩ := x
    have g1' : sp = none := g1
    subst g1'
    have g2' : bl < w0.heap.size := g2
    have hi : In64 m.2 := hr 0 (by simp)
    refine ⟨bl, off, c, rfl, hnc, hmax, g2', hi, fun w u => ⟨?_, ?_⟩, ⟨⟨⟨_, c - 1, rfl, ?_, fun x hx hl => ?_⟩, by omega⟩, fun k hk => ?_, ⟨_, _, _, rfl, by omega⟩⟩⟩
    · have := g3 0 0 (by omega) (by omega)
      simp only [Nat.zero_mul, Nat.add_zero] at this
      exact (u.cell _ _ g2').trans this
    · have := g3 0 1 (by omega) (by omega)
      simp only [Nat.zero_mul, Nat.add_zero] at this
      exact (u.cell _ _ g2').trans this
    · intro e
      split at e <;> cases e
    · rw [if_neg (by omega)] at hx
      cases hx
      refine ⟨rfl, g2', fun i j hi hj => ?_⟩
      have := g3 (i + 1) j (by omega) hj
      rw [show off + (i + 1) * 2 + j = off + 2 + i * 2 + j by omega] at this
      exact this
    · exact hr (k + 1) (by simpa using hk)

theorem stepA_len (acc : List Mono × Bool) (s : ByteArray) (x y : Int) : (stepA acc s x y).1.length ≤ acc.1.length + 1 := by
  unfold stepA
  split
  · simp
  · simp
theorem in64_0 : In64 0 := ⟨by omega, by omega⟩

end Go.Proofs.YtpclbgaaoednnaaDoor

