/-
  How an argument that is a list of linear forms reads.
-/
import Derived.Test.YtpclbgaaoednnaaLinO
import Derived.Test.YtpclbgaaoednnaaLinRw
namespace Go.Proofs.Ytpclbgaaoednnaa
open Go.ChangeShapes Go.WideShapes Go.ChangeAt Go.RowKit Go.Joins Go.Deep
set_option linter.unusedVariables false

def LinsArg (w : World) (v : Value) (ls : List (Int × List Mono)) : Prop := LinsAt w v ls ∧ ∀ x ∈ ls, Rng x.2

theorem lins_arg {w : World} {b o len cap : Nat} (hlc : len ≤ cap) (hmax : len ≤ 9223372036854775807) (hlt : b < w.heap.size)
    (key : ∀ i, i < len → ∃ (K : Int) (lv : Value) (l : List Mono), w.cell? ⟨b, o + i * 2, none⟩ = some (.int .i64 K) ∧ w.cell? ⟨b, o + i * 2 + 1, none⟩ = some lv ∧ MonosArg w lv l) :
    ∃ ls, LinsArg w (.slice (some ⟨b, o, none⟩) len cap) ls := by
  have hc : ∀ i, ∃ (p : Int × Value × List Mono), i < len → w.cell? ⟨b, o + i * 2, none⟩ = some (.int .i64 p.1) ∧ w.cell? ⟨b, o + i * 2 + 1, none⟩ = some p.2.1 ∧ MonosArg w p.2.1 p.2.2 := fun i => by
    by_cases h : i < len
    · obtain ⟨K, lv, l, h1, h2, h3⟩ := key i h
      exact ⟨(K, lv, l), fun _ => ⟨h1, h2, h3⟩⟩
    · exact ⟨(0, .int .i64 0, []), fun g => absurd g h⟩
  obtain ⟨f, hf⟩ := Classical.axiomOfChoice hc
  have hlen : ((List.range len).map fun i => ((f i).1, (f i).2.2)).length = len := by simp
  have hget : ∀ i, i < len → ((List.range len).map fun i => ((f i).1, (f i).2.2)).getD i (0, []) = ((f i).1, (f i).2.2) := fun i hi => by
    rw [List.getD_eq_getElem?_getD, List.getElem?_map, List.getElem?_range hi]; rfl
  refine ⟨(List.range len).map fun i => ((f i).1, (f i).2.2), ⟨fun i => (f i).2.1, ⟨⟨some ⟨b, o, none⟩, cap, by rw [hlen], (fun e => nomatch e), fun x hx _ => ?_⟩, by rw [hlen]; exact hmax⟩, fun i hi => ?_⟩, fun x hx => ?_⟩
  · cases hx
    refine ⟨rfl, hlt, fun i j hi hj => ?_⟩
    rw [hlen] at hi
    obtain ⟨h1, h2, h3⟩ := hf i hi
    rcases (by omega : j = 0 ∨ j = 1) with rfl | rfl
    · simp only [linF, hget i hi]; exact h1
    · exact h2
  · rw [hlen] at hi
    rw [hget i hi]
    exact (hf i hi).2.2.1
  · obtain ⟨i, hi, rfl⟩ := List.mem_map.1 hx
    exact (hf i (List.mem_range.1 hi)).2.2.2.1

set_option maxRecDepth 100000 in
theorem trod_Lins {H : Type} {enc : TypeId × Value → H} {w : World} {base : Nat} {spare : Nat → Bool} {held : Bool} {fuel : Nat} {cs : List Value} {x : DataW H × List MemPlace}
    (hf : DataW.trod enc Try.prog w base spare held fuel 49 cs = some x) : ∃ v ls, cs = [v] ∧ LinsArg w v ls := by
  rcases open_slice Try.underlying49 hf with ⟨hcs, _⟩ | ⟨a, len, cap, m, n, D, Pl, hcs, hb, hl, hm, hmm, hx, hi⟩
  · exact ⟨_, [], hcs, ⟨fun _ => .int .i64 0, SlAt.nil w 2 _, fun i hi => absurd hi (by simp)⟩, fun x hx => nomatch hx⟩
  · rw [cellsLin] at hi
    have hlm : len ≤ m := by rw [hmm]; split <;> omega
    have key : ∀ i, i < len → ∃ (K : Int) (lv : Value) (l : List Mono), w.cell? (a.add (i * 2)) = some (.int .i64 K) ∧ w.cell? (a.add (i * 2 + 1)) = some lv ∧ MonosArg w lv l := by
      intro i hil
      obtain ⟨cs', hc, ht⟩ := hi i (by omega)
      obtain ⟨_, hcl, hat⟩ := World.cells?_some hc
      match cs', hcl with
      | [c0, c1], _ =>
        obtain ⟨K, l, lv, he, hm, _⟩ := trod_Lin ht
        simp only [Value.agg.injEq, Array.mk.injEq, List.cons.injEq, and_true] at he
        obtain ⟨rfl, rfl⟩ := he
        have h0 := hat 0 (by simp)
        have h1 := hat 1 (by simp)
        rw [Go.Deep.add_add] at h0 h1
        exact ⟨K, _, l, h0, h1, hm⟩
    by_cases h0 : len = 0
    · subst h0
      exact ⟨_, [], hcs, ⟨fun _ => .int .i64 0, ⟨⟨some a, cap, rfl, (fun e => nomatch e), fun x hx hl => absurd hl (by decide)⟩, by decide⟩, fun i hi => absurd hi (by simp)⟩, fun x hx => nomatch hx⟩
    · have hs : a.spot = none := by
        obtain ⟨K, lv, l, hn, _⟩ := key 0 (by omega)
        have := World.cell?_spot hn
        simpa [Addr.add] using this
      obtain ⟨b, o, sp⟩ := a
      have hs' : sp = none := hs
      subst hs'
      have hlt : b < w.heap.size := by
        obtain ⟨K, lv, l, hn, _⟩ := key 0 (by omega)
        rw [add_lit_ne] at hn
        exact World.block_lt_of_cell? _ _ hn
      obtain ⟨ls, hls⟩ := lins_arg (w := w) (b := b) (o := o) (len := len) (cap := cap) hl (by have : maxLen = 9223372036854775807 := rfl; omega) hlt (fun i hi => by
        obtain ⟨K, lv, l, h1, h2, h3⟩ := key i hi
        rw [add_lit_ne] at h1 h2
        exact ⟨K, lv, l, h1, by rw [show o + i * 2 + 1 = o + (i * 2 + 1) by omega]; exact h2, h3⟩)
      exact ⟨_, ls, hcs, hls⟩

set_option maxRecDepth 100000 in
theorem open_Lins {H : Type} {enc : TypeId × Value → H} {w : World} {base : Nat} {spare : Nat → Bool} {held : Bool} {r : Reach} {b0 : Nat} {v : Value} {d : DataW H} {p : List MemPlace}
    (hv : Value.okWide Try.prog w r b0 49 v) (h : DataW.Trod enc Try.prog w base spare held 49 v d p) : ∃ ls, LinsArg w v ls := by
  obtain ⟨a0, len, cap, rfl⟩ := okWide_slice Try.underlying49 hv
  obtain ⟨fuel, hf⟩ := h
  obtain ⟨v, ls, hcs, hl⟩ := trod_Lins hf
  simp only [Value.cells, List.cons.injEq, and_true] at hcs
  subst hcs
  exact ⟨ls, hl⟩
end Go.Proofs.Ytpclbgaaoednnaa
