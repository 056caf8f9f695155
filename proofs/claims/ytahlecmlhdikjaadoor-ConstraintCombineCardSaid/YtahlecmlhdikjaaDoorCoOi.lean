/-
  How an argument that is a list of numbers reads.
-/
import Derived.Test.YtahlecmlhdikjaaDoorCoOs
import Derived.Test.YtahlecmlhdikjaaDoorCoCw
namespace Go.Proofs.YtahlecmlhdikjaaDoor
open Go.ChangeShapes Go.WideShapes Go.ChangeAt Go.RowKit Go.Joins Go.Deep
set_option linter.unusedVariables false
set_option linter.unusedSimpArgs false

theorem cellsI64 : Tryd.prog.cellsOf 2 = 1 := by kernel_rfl

set_option maxRecDepth 100000 in
theorem trod_Ints {H : Type} {enc : TypeId × Value → H} {w : World} {base : Nat} {spare : Nat → Bool} {held : Bool} {fuel : Nat} {cs : List Value} {x : DataW H × List MemPlace}
    (hf : DataW.trod enc Tryd.prog w base spare held fuel 50 cs = some x) : ∃ v l, cs = [v] ∧ IntsAt w v l := by
  rcases open_slice Tryd.underlying50 hf with ⟨hcs, _⟩ | ⟨a, len, cap, m, n, D, Pl, hcs, hb, hl, hm, hmm, hx, hi⟩
  · exact ⟨_, [], hcs, SlAt.nil w 1 _, fun b hb => by cases hb⟩
  · rw [cellsI64] at hi
    have hlm : len ≤ m := by rw [hmm]; split <;> omega
    have key : ∀ i, i < len → ∃ y : Int, w.cell? (a.add (i * 1)) = some (.int .i64 y) ∧ In64 y := by
      intro i hil
      obtain ⟨cs', hc, ht⟩ := hi i (by omega)
      obtain ⟨_, hcl, hat⟩ := World.cells?_some hc
      match cs', hcl, ht, hat with
      | [d0], _, ht, hat =>
        obtain ⟨y, e, _, hw⟩ := DataW.trod_int Tryd.underlying2 ht
        have e' : [d0] = [.int .i64 y] := e
        simp only [List.cons.injEq, and_true] at e'
        subst e'
        have h0 := hat 0 (by decide)
        rw [Go.Deep.add_add] at h0
        exact ⟨y, h0, in64_wf hw⟩
    by_cases h0 : len = 0
    · subst h0
      exact ⟨_, [], hcs, ⟨⟨some a, cap, rfl, (fun e => nomatch e), fun x hx hl => absurd hl (by decide)⟩, by decide⟩, fun b hb => by cases hb⟩
    · have hs : a.spot = none := by
        obtain ⟨y, hn, _⟩ := key 0 (by omega)
        have := World.cell?_spot hn
        simpa [Addr.add] using this
      obtain ⟨b, o, sp⟩ := a
      have hs' : sp = none := hs
      subst hs'
      have hlt : b < w.heap.size := by
        obtain ⟨y, hn, _⟩ := key 0 (by omega)
        rw [add_lit_ne] at hn
        exact World.block_lt_of_cell? _ _ hn
      have key2 : ∀ i, ∃ z : Int, i < len → w.cell? ⟨b, o + i * 1, none⟩ = some (.int .i64 z) ∧ In64 z := fun i => by
        by_cases hi : i < len
        · obtain ⟨y, h1, h2⟩ := key i hi
          rw [add_lit_ne] at h1
          exact ⟨y, fun _ => ⟨h1, h2⟩⟩
        · exact ⟨0, fun h => absurd h hi⟩
      obtain ⟨z, hz⟩ := Classical.axiomOfChoice key2
      have hlen : ((List.range len).map z).length = len := by simp
      have hget : ∀ i, i < len → ((List.range len).map z).getD i 0 = z i := fun i hi => by
        rw [List.getD_eq_getElem?_getD, List.getElem?_map, List.getElem?_range hi]; rfl
      refine ⟨_, (List.range len).map z, hcs, ?_, fun y hy => ?_⟩
      · rw [hlen]
        refine ⟨⟨some ⟨b, o, none⟩, cap, rfl, (fun e => nomatch e), fun x hx _ => ?_⟩, by have : maxLen = 9223372036854775807 := rfl; omega⟩
        cases hx
        refine ⟨rfl, hlt, fun i j hi hj => ?_⟩
        obtain rfl : j = 0 := by omega
        dsimp only
        rw [hget i hi]; exact (hz i hi).1
      · obtain ⟨i, hi, rfl⟩ := List.mem_map.1 hy
        exact (hz i (List.mem_range.1 hi)).2

set_option maxRecDepth 100000 in
theorem open_Ints {H : Type} {enc : TypeId × Value → H} {w : World} {base : Nat} {spare : Nat → Bool} {held : Bool} {r : Reach} {b0 : Nat} {v : Value} {d : DataW H} {p : List MemPlace}
    (hv : Value.okWide Tryd.prog w r b0 50 v) (h : DataW.Trod enc Tryd.prog w base spare held 50 v d p) : ∃ l, IntsAt w v l := by
  obtain ⟨a0, len, cap, rfl⟩ := okWide_slice Tryd.underlying50 hv
  obtain ⟨fuel, hf⟩ := h
  obtain ⟨v, l, hcs, hl⟩ := trod_Ints hf
  simp only [Value.cells, List.cons.injEq, and_true] at hcs
  subst hcs
  exact ⟨l, hl⟩
end Go.Proofs.YtahlecmlhdikjaaDoor
