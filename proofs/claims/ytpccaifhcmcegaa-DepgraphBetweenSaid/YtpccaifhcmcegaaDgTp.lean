/-
  What TopoSort computes: plain.
-/
import Derived.Test.YtpccaifhcmcegaaDgX
namespace Go.Proofs.Ytpccaifhcmcegaa
set_option linter.unusedSimpArgs false
open Go.ChangeShapes Go.WideShapes Go.ChangeAt Go.RowKit
set_option linter.unusedVariables false
set_option maxRecDepth 100000

/-- The definitions in their order, or none where some remain that cannot be removed. -/
def topoL : Nat → List Df → List Df → Option (List Df)
  | 0, rest, out => if rest.length = 0 then some out else none
  | f + 1, rest, out =>
    if rest.length = 0 then some out
    else if h : rest.findIdx (rdyB rest) < rest.length then topoL f (rest.take (rest.findIdx (rdyB rest)) ++ rest.drop (rest.findIdx (rdyB rest) + 1)) (out ++ [rest[rest.findIdx (rdyB rest)]]) else none
theorem topoL_nil (f : Nat) (out : List Df) : topoL f [] out = some out := by
  cases f <;> rfl
theorem topoL_step {f k n : Nat} {rest out : List Df} (hn : rest.length = n) (hf : n ≤ f + 1) (hk : k < n) (h1 : rdyB rest (rest[k]'(by omega)) = true) (h2 : ∀ j (h : j < k), rdyB rest (rest[j]'(by omega)) = false) :
    topoL (f + 1) rest out = topoL f (rest.take k ++ rest.drop (k + 1)) (out ++ [rest[k]'(by omega)]) := by
  subst hn
  have e : rest.findIdx (rdyB rest) = k := (List.findIdx_eq hk).2 ⟨h1, h2⟩
  rw [topoL, if_neg (by omega), dif_pos (by rw [e]; exact hk)]
  simp only [e]
theorem topoL_stop {f n : Nat} {rest out : List Df} (hn : rest.length = n) (h0 : 0 < n) (h2 : ∀ j (h : j < n), rdyB rest (rest[j]'(by omega)) = false) : topoL (f + 1) rest out = none := by
  subst hn
  have e : ¬ rest.findIdx (rdyB rest) < rest.length := by
    rw [List.findIdx_lt_length]
    rintro ⟨x, hx, h⟩
    obtain ⟨j, hj, rfl⟩ := List.mem_iff_getElem.1 hx
    rw [h2 j hj] at h
    cases h
  rw [topoL, if_neg (by omega), dif_neg e]
def zeroP : Pg := ⟨[], [], [], [], []⟩
/-- What TopoSort returns. -/
def topoF (p : Pg) : Pg × Int := match topoL p.defs.length p.defs [] with
  | some l => ({ p with defs := l }, 0)
  | none => (zeroP, 9)
theorem topoF_some {p : Pg} {l : List Df} (h : topoL p.defs.length p.defs [] = some l) : topoF p = ({ p with defs := l }, 0) := by unfold topoF; rw [h]
theorem topoF_none {p : Pg} (h : topoL p.defs.length p.defs [] = none) : topoF p = (zeroP, 9) := by unfold topoF; rw [h]
theorem zeroP_at (N : Nat) (w : World) : ProgAt N w (.agg #[.slice none 0 0, .slice none 0 0, .slice none 0 0, .slice none 0 0, .slice none 0 0]) zeroP :=
  ProgAt.mk (LsAt.nil _ _ _ _) (LsAt.nil _ _ _ _) (LsAt.nil _ _ _ _) (LsAt.nil _ _ _ _) (LsAt.nil _ _ _ _)
/-- The first k are not ready. -/
def NotR (rest : List Df) (k : Nat) : Prop := ∀ j (h : j < rest.length), j < k → rdyB rest rest[j] = false
theorem NotR.zero (rest : List Df) : NotR rest 0 := fun j _ h => absurd h (Nat.not_lt_zero _)
theorem NotR.next {rest : List Df} {k : Nat} (h : NotR rest k) {hk : k < rest.length} (hb : rdyB rest rest[k] = false) : NotR rest (k + 1) := fun j hj hjk => by
  by_cases e : j = k
  · subst e; exact hb
  · exact h j hj (by omega)
def lenOf' (v : Value) : Nat := match v with | .slice _ n _ => n | _ => 0
/-- What a round knows of the two rows. -/
def SumT (T : Option (List Df)) (rest out : List Df) : Prop := topoL rest.length rest out = T ∧ rest.length + out.length ≤ 40 ∧ ∀ d ∈ rest, tot d.body ≤ 1500
end Go.Proofs.Ytpccaifhcmcegaa
