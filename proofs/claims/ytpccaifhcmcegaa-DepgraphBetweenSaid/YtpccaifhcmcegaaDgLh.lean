/-
  What the laws' walks of chapter 20 share.
-/
import Derived.Test.YtpccaifhcmcegaaDgXm
import Derived.Test.YtpccaifhcmcegaaDgE5
import Derived.Test.YtpccaifhcmcegaaDgPl
namespace Go.Proofs.Ytpccaifhcmcegaa
set_option linter.unusedSimpArgs false
open Go.ChangeShapes Go.WideShapes Go.ChangeAt Go.RowKit
set_option linter.unusedVariables false
set_option maxRecDepth 100000

theorem mem_sum : ∀ (l : List Nat) (n : Nat), n ∈ l → n ≤ l.sum
  | [], n, h => by simp at h
  | x :: r, n, h => by
    rw [List.sum_cons]
    rcases List.mem_cons.1 h with rfl | h
    · omega
    · have := mem_sum r n h; omega
theorem small_tot {p : Pg} (h : SmallP p) : ∀ d ∈ p.defs, tot d.body ≤ 1500 := fun d hd => by
  have h1 := h.sum
  have h2 : defW d ≤ (p.defs.map defW).sum := mem_sum _ _ (List.mem_map.2 ⟨d, hd, rfl⟩)
  have h3 : tot d.body ≤ defW d := Nat.le_add_left _ _
  omega
theorem rowR_up : UpR rowR := fun _ _ _ _ h u => LsAt.up strR_up h u
theorem open_Strs {H : Type} {enc : TypeId × Value → H} {w : World} {base : Nat} {spare : Nat → Bool} {held : Bool} {r : Reach} {b0 : Nat} {v : Value} {d : DataW H} {p : List MemPlace}
    (hv : Value.okWide Try.prog w r b0 22 v) (hw : Wt 22 d) (h : DataW.Trod enc Try.prog w base spare held 22 v d p) : ∃ l, LsAt 1 16 strR w v l := by
  obtain ⟨a0, len, cap, rfl⟩ := okWide_slice Try.underlying22 hv
  obtain ⟨fuel, hf⟩ := h
  obtain ⟨v, l, hcs, hl⟩ := trod_strs hw hf
  simp only [Value.cells, List.cons.injEq, and_true] at hcs
  subst hcs
  exact ⟨l, hl⟩
theorem progAt_one {N : Nat} {w : World} {a b c d e : Value} {p : Pg} (h : ProgAt N w (.agg #[a, b, c, d, e]) p) : (#[a, b, c, d, e] : Array Value).all (·.oneCell') = true := by
  obtain ⟨sa, sc, ca, cc, pa, pc, da, dc, oa, oc, e, -⟩ := h.open
  simp only [Value.agg.injEq, Array.mk.injEq, List.cons.injEq, and_true] at e
  obtain ⟨rfl, rfl, rfl, rfl, rfl⟩ := e
  simp [Value.oneCell']
end Go.Proofs.Ytpccaifhcmcegaa
