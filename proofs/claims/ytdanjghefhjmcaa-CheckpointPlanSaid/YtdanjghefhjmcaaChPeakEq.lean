/-
  The number of slots that a plan uses, in two spellings (plain law).
-/
import Derived.Test.YtdanjghefhjmcaaChPeak
namespace Go.Proofs.Ytdanjghefhjmcaa
open Go.RowKit
set_option linter.unusedVariables false

/-- The reference's count: an action that stores into a slot that no action ahead of it stores into. -/
def anyB (l : List Actn) (x : Int) : Bool := l.any fun b => b.1 == 2 && b.2.2 == x
def againP (l : List Actn) (i : Nat) (a : Actn) : Bool := !(a.1 == 2) || anyB (l.take i) a.2.2
def peakGo (l : List Actn) : List Actn → Nat → Nat → Nat
  | [], _, n => n
  | a :: r, i, n => peakGo l r (i + 1) (if againP l i a then n else n + 1)
def peakR (l : List Actn) : Nat := peakGo l l 0 0

theorem any_stored (l : List Actn) (x : Int) : anyB l x = (stored l).any (· == x) := by
  unfold stored anyB
  rw [List.any_map, List.any_filter]
  rfl

theorem isKey_int (n : Int) : WideAt.IsKeyLit (Lit.int .i64 n) := by simp [WideAt.IsKeyLit]
theorem keysI_key (l : List Int) : ∀ x ∈ keysI l, WideAt.IsKeyLit x := fun x hx => by
  obtain ⟨n, _, rfl⟩ := List.mem_map.1 hx
  exact isKey_int n

theorem keysI_snoc (l : List Int) (x : Int) : keysI (l ++ [x]) = keysI l ++ [.int .i64 x] := by simp [keysI]
theorem has_stored (l : List Actn) (x : Int) : Maps.has (Maps.setOf tru (keysI (stored l))) (.int .i64 x) = anyB l x := by
  rw [Maps.has_setOf _ _ _ (keysI_key _), any_stored, keysI, List.any_map, Bool.eq_iff_iff, List.any_eq_true, List.any_eq_true]
  refine exists_congr fun y => and_congr_right fun _ => ?_
  rw [Function.comp, WideAt.sameKey_iff (isKey_int x)]
  simp

def mAt (l : List Actn) (i : Nat) : Nat := Maps.size (Maps.setOf tru (keysI (stored (l.take i))))

theorem mAt_succ (l : List Actn) (i : Nat) (hi : i < l.length) : mAt l (i + 1) = if againP l i l[i] then mAt l i else mAt l i + 1 := by
  unfold mAt againP
  rw [List.take_succ_eq_append_getElem hi, stored_snoc]
  by_cases h : l[i].1 = 2
  · have hb : (l[i].1 == 2) = true := by simpa using h
    rw [if_pos h, hb, keysI_snoc, Maps.setOf_snoc, Maps.size_put (Maps.tidy_setOf _ _ (keysI_key _)), has_stored]
    simp
  · have hb : (l[i].1 == 2) = false := by simpa using h
    rw [if_neg h, hb]; simp

theorem peakGo_eq (l : List Actn) : ∀ (r : List Actn) (i : Nat), r = l.drop i → peakGo l r i (mAt l i) = peakP l
  | [], i, h => by
    have : l.length ≤ i := by
      have := congrArg List.length h; simp at this; omega
    rw [peakGo, mAt, List.take_of_length_le this]; rfl
  | a :: r, i, h => by
    have hi : i < l.length := by
      have := congrArg List.length h; simp at this; omega
    rw [List.drop_eq_getElem_cons hi] at h
    injection h with h1 h2
    rw [peakGo, h1, ← mAt_succ l i hi]
    exact peakGo_eq l r (i + 1) h2
theorem peak_eq (l : List Actn) : peakR l = peakP l := peakGo_eq l l 0 rfl
end Go.Proofs.Ytdanjghefhjmcaa
