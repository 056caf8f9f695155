/-
  How an argument that is a constraint, a list of constraints, or a list of numbers reads.
-/
import Derived.Test.YtahlecmlhdikjaaDoorGe
namespace Go.Proofs.YtahlecmlhdikjaaDoor
set_option linter.unusedSimpArgs false
open Go.ChangeShapes Go.WideShapes Go.ChangeAt Go.RowKit Go.Joins Go.Deep
set_option linter.unusedVariables false


def ConsArg (w : World) (v : Value) (cs : List Con) : Prop := ConsAt w v cs

set_option maxRecDepth 100000 in
theorem trod_Cons {H : Type} {enc : TypeId × Value → H} {w : World} {base : Nat} {spare : Nat → Bool} {held : Bool} {fuel : Nat} {cs : List Value} {x : DataW H × List MemPlace}
    (hf : DataW.trod enc Tryd.prog w base spare held fuel 28 cs = some x) : ∃ v l, cs = [v] ∧ ConsAt w v l := by
  rcases open_slice Tryd.underlying28 hf with ⟨hcs, _⟩ | ⟨a, len, cap, m, n, D, Pl, hcs, hb, hl, hm, hmm, hx, hi⟩
  · exact ⟨_, [], hcs, fun _ => .bool false, SlAt.nil w 3 _, fun i hi => absurd hi (by simp)⟩
  · rw [cellsCon] at hi
    have hlm : len ≤ m := by rw [hmm]; split <;> omega
    have key : ∀ i, i < len → ∃ (c : Con) (lv : Value), w.cell? (a.add (i * 3)) = some (.int .i64 c.1) ∧ w.cell? (a.add (i * 3 + 1)) = some lv ∧ w.cell? (a.add (i * 3 + 2)) = some (.bool c.2.2) ∧ Part w lv c.2.1 ∧ In64 c.1 := by
      intro i hil
      obtain ⟨cs', hc, ht⟩ := hi i (by omega)
      obtain ⟨_, hcl, hat⟩ := World.cells?_some hc
      match cs', hcl, ht, hat with
      | [d0, d1, d2], _, ht, hat =>
        obtain ⟨c, lv, e, hp, hK⟩ := trod_Con ht
        obtain ⟨rfl, rfl, rfl⟩ : d0 = .int .i64 c.1 ∧ d1 = lv ∧ d2 = .bool c.2.2 := by injection e with e; injection e with e; injection e with e2 e; injection e with e3 e; injection e with e4 e; exact ⟨e2, e3, e4⟩
        have h0 := hat 0 (by decide)
        have h1 := hat 1 (by decide)
        have h2 := hat 2 (by decide)
        rw [Go.Deep.add_add] at h0 h1 h2
        exact ⟨c, d1, h0, h1, h2, hp, hK⟩
    by_cases h0 : len = 0
    · subst h0
      exact ⟨_, [], hcs, fun _ => .bool false, ⟨⟨some a, cap, rfl, (fun e => nomatch e), fun x hx hl => absurd hl (by decide)⟩, by decide⟩, fun i hi => absurd hi (by simp)⟩
    · have hs : a.spot = none := by
        obtain ⟨c, lv, hn, _⟩ := key 0 (by omega)
        have := World.cell?_spot hn
        simpa [Addr.add] using this
      obtain ⟨b, o, sp⟩ := a
      have hs' : sp = none := hs
      subst hs'
      have hlt : b < w.heap.size := by
        obtain ⟨c, lv, hn, _⟩ := key 0 (by omega)
        rw [add_lit_ne] at hn
        exact World.block_lt_of_cell? _ _ hn
      have key2 : ∀ i, ∃ z : Con × Value, i < len → w.cell? ⟨b, o + i * 3, none⟩ = some (.int .i64 z.1.1) ∧ w.cell? ⟨b, o + i * 3 + 1, none⟩ = some z.2 ∧ w.cell? ⟨b, o + i * 3 + 2, none⟩ = some (.bool z.1.2.2) ∧ Part w z.2 z.1.2.1 ∧ In64 z.1.1 := fun i => by
        by_cases hi : i < len
        · obtain ⟨c, lv, h1, h2, h3, h4, h5⟩ := key i hi
          rw [add_lit_ne] at h1 h2 h3
          exact ⟨(c, lv), fun _ => ⟨h1, by rw [show o + i * 3 + 1 = o + (i * 3 + 1) by omega]; exact h2, by rw [show o + i * 3 + 2 = o + (i * 3 + 2) by omega]; exact h3, h4, h5⟩⟩
        · exact ⟨(c0, .bool false), fun h => absurd h hi⟩
      obtain ⟨z, hz⟩ := Classical.axiomOfChoice key2
      have hlen : ((List.range len).map fun i => (z i).1).length = len := by simp
      have hget : ∀ i, i < len → ((List.range len).map fun i => (z i).1).getD i c0 = (z i).1 := fun i hi => by
        rw [List.getD_eq_getElem?_getD, List.getElem?_map, List.getElem?_range hi]; rfl
      refine ⟨_, (List.range len).map fun i => (z i).1, hcs, fun i => (z i).2, ?_, fun i hi => ?_⟩
      · rw [hlen]
        refine ⟨⟨some ⟨b, o, none⟩, cap, rfl, (fun e => nomatch e), fun x hx _ => ?_⟩, by have : maxLen = 9223372036854775807 := rfl; omega⟩
        cases hx
        refine ⟨rfl, hlt, fun i j hi hj => ?_⟩
        obtain ⟨h1, h2, h3, _⟩ := hz i hi
        unfold conF
        rcases (by omega : j = 0 ∨ j = 1 ∨ j = 2) with rfl | rfl | rfl
        · dsimp only; rw [hget i hi]; exact h1
        · exact h2
        · dsimp only; rw [hget i hi]; exact h3
      · rw [hlen] at hi
        rw [hget i hi]
        exact (hz i hi).2.2.2

set_option maxRecDepth 100000 in
theorem open_Cons {H : Type} {enc : TypeId × Value → H} {w : World} {base : Nat} {spare : Nat → Bool} {held : Bool} {r : Reach} {b0 : Nat} {v : Value} {d : DataW H} {p : List MemPlace}
    (hv : Value.okWide Tryd.prog w r b0 28 v) (h : DataW.Trod enc Tryd.prog w base spare held 28 v d p) : ∃ l, ConsAt w v l := by
  obtain ⟨a0, len, cap, rfl⟩ := okWide_slice Tryd.underlying28 hv
  obtain ⟨fuel, hf⟩ := h
  obtain ⟨v, l, hcs, hl⟩ := trod_Cons hf
  simp only [Value.cells, List.cons.injEq, and_true] at hcs
  subst hcs
  exact ⟨l, hl⟩
end Go.Proofs.YtahlecmlhdikjaaDoor
