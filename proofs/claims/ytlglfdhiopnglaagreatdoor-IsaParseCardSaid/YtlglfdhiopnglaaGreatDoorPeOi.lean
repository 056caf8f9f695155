/-
  How an argument that is a list of instructions, or a unit, reads.
-/
import Derived.Test.YtlglfdhiopnglaaGreatDoorGb
import Derived.Test.YtlglfdhiopnglaaGreatDoorPeX
import Derived.Deep.Slices
import Derived.Deep.Fields
import Derived.ChangeSame
import Derived.Lib.SmallJoins
namespace Go.Proofs.YtlglfdhiopnglaaGreatDoor
set_option linter.unusedSimpArgs false
open Go.ChangeShapes Go.WideShapes Go.ChangeAt Go.RowKit Go.Joins Go.Deep
set_option linter.unusedVariables false
set_option maxRecDepth 100000

theorem r64_wf {a : Int} (h : (Lit.int .i64 a).wf = true) : R64 a := by
  have := bounds_i64 h
  exact ⟨this.1, this.2⟩
section
variable {H : Type} {enc : TypeId × Value → H} {w : World} {base : Nat} {spare : Nat → Bool} {held : Bool}
theorem one_int {n : Nat} {c : Value} {y : DataW H × List MemPlace} (hy : DataW.trod enc Tryz.prog w base spare held n 3 [c] = some y) : ∃ a, c = .int .i64 a ∧ R64 a := by
  obtain ⟨a, e0, _, hw⟩ := DataW.trod_int Tryz.underlying3 hy
  exact ⟨a, by simpa using e0, r64_wf hw⟩
theorem one_int64 {n : Nat} {c : Value} {y : DataW H × List MemPlace} (hy : DataW.trod enc Tryz.prog w base spare held n 2 [c] = some y) : ∃ a, c = .int .i64 a ∧ R64 a := by
  obtain ⟨a, e0, _, hw⟩ := DataW.trod_int Tryz.underlying2 hy
  exact ⟨a, by simpa using e0, r64_wf hw⟩
theorem trod_Typ {fuel : Nat} {c0 c1 c2 c3 c4 : Value} {x : DataW H × List MemPlace} (hf : DataW.trod enc Tryz.prog w base spare held fuel 40 [c0, c1, c2, c3, c4] = some x) :
    ∃ t : Typ, TyR t ∧ c0 = .int .i64 t.1 ∧ c1 = .int .i64 t.2.1 ∧ c2 = .int .i64 t.2.2.1 ∧ c3 = .int .i64 t.2.2.2.1 ∧ c4 = .int .i64 t.2.2.2.2 := by
  obtain ⟨xs, n, _, hx, _, hlen, hg⟩ := DataW.trod_struct Tryz.underlying40 hf
  have hl : xs.length = 5 := hlen
  obtain ⟨a0, e0, r0⟩ := one_int ((hg 0 _ rfl).trans (List.getElem?_eq_getElem (by omega : 0 < xs.length)))
  obtain ⟨a1, e1, r1⟩ := one_int ((hg 1 _ rfl).trans (List.getElem?_eq_getElem (by omega : 1 < xs.length)))
  obtain ⟨a2, e2, r2⟩ := one_int ((hg 2 _ rfl).trans (List.getElem?_eq_getElem (by omega : 2 < xs.length)))
  obtain ⟨a3, e3, r3⟩ := one_int ((hg 3 _ rfl).trans (List.getElem?_eq_getElem (by omega : 3 < xs.length)))
  obtain ⟨a4, e4, r4⟩ := one_int ((hg 4 _ rfl).trans (List.getElem?_eq_getElem (by omega : 4 < xs.length)))
  exact ⟨(a0, a1, a2, a3, a4), fun j => (match j with
    | 0 => r0
    | 1 => r1
    | 2 => r2
    | 3 => r3
    | j + 4 => r4), e0, e1, e2, e3, e4⟩
theorem trod_Val2 {fuel : Nat} {c0 c1 : Value} {x : DataW H × List MemPlace} (hf : DataW.trod enc Tryz.prog w base spare held fuel 38 [c0, c1] = some x) :
    ∃ a b : Int, R64 a ∧ R64 b ∧ c0 = .int .i64 a ∧ c1 = .int .i64 b := by
  obtain ⟨xs, n, _, hx, _, hlen, hg⟩ := DataW.trod_struct Tryz.underlying38 hf
  have hl : xs.length = 2 := hlen
  obtain ⟨a0, e0, r0⟩ := one_int64 ((hg 0 _ rfl).trans (List.getElem?_eq_getElem (by omega : 0 < xs.length)))
  obtain ⟨a1, e1, r1⟩ := one_int64 ((hg 1 _ rfl).trans (List.getElem?_eq_getElem (by omega : 1 < xs.length)))
  exact ⟨a0, a1, r0, r1, e0, e1⟩
theorem trod_Ins {fuel : Nat} {c0 c1 c2 c3 c4 c5 c6 c7 c8 c9 c10 : Value} {x : DataW H × List MemPlace} (hf : DataW.trod enc Tryz.prog w base spare held fuel 42 [c0, c1, c2, c3, c4, c5, c6, c7, c8, c9, c10] = some x) :
    ∃ u : Ins, InR u ∧ ∀ j, j < 11 → ([c0, c1, c2, c3, c4, c5, c6, c7, c8, c9, c10] : List Value)[j]? = some (.int .i64 (insC u j)) := by
  obtain ⟨xs, n, _, hx, _, hlen, hg⟩ := DataW.trod_struct Tryz.underlying42 hf
  have hl : xs.length = 6 := hlen
  obtain ⟨a0, rfl, r0⟩ := one_int ((hg 0 _ rfl).trans (List.getElem?_eq_getElem (by omega : 0 < xs.length)))
  obtain ⟨a1, rfl, r1⟩ := one_int ((hg 1 _ rfl).trans (List.getElem?_eq_getElem (by omega : 1 < xs.length)))
  obtain ⟨a2, rfl, r2⟩ := one_int ((hg 2 _ rfl).trans (List.getElem?_eq_getElem (by omega : 2 < xs.length)))
  obtain ⟨a3, rfl, r3⟩ := one_int ((hg 3 _ rfl).trans (List.getElem?_eq_getElem (by omega : 3 < xs.length)))
  obtain ⟨a4, a5, r4, r5, rfl, rfl⟩ := trod_Val2 (c0 := c4) (c1 := c5) ((hg 4 _ rfl).trans (List.getElem?_eq_getElem (by omega : 4 < xs.length)))
  obtain ⟨t, rt, rfl, rfl, rfl, rfl, rfl⟩ := trod_Typ (c0 := c6) (c1 := c7) (c2 := c8) (c3 := c9) (c4 := c10) ((hg 5 _ rfl).trans (List.getElem?_eq_getElem (by omega : 5 < xs.length)))
  refine ⟨(a0, a1, a2, a3, (a4, a5), t), fun j => (match j with
    | 0 => r0
    | 1 => r1
    | 2 => r2
    | 3 => r3
    | 4 => r4
    | 5 => r5
    | 6 => rt 0
    | 7 => rt 1
    | 8 => rt 2
    | 9 => rt 3
    | j + 10 => rt 4), fun j hj => ?_⟩
  rcases (by omega : j = 0 ∨ j = 1 ∨ j = 2 ∨ j = 3 ∨ j = 4 ∨ j = 5 ∨ j = 6 ∨ j = 7 ∨ j = 8 ∨ j = 9 ∨ j = 10) with rfl | rfl | rfl | rfl | rfl | rfl | rfl | rfl | rfl | rfl | rfl <;> rfl
/-- A slice whose elements read as F of something of which P holds. -/
theorem trod_rows {α : Type} (d : α) (F : α → Nat → Value) (P : α → Prop) (k : Nat) (hk : 0 < k) {t T : TypeId} (hu : Tryz.prog.underlying T = some (.slice t)) (hc : Tryz.prog.cellsOf t = k)
    (hel : ∀ fuel cs x, cs.length = k → DataW.trod enc Tryz.prog w base spare held fuel t cs = some x → ∃ a, P a ∧ ∀ j, j < k → cs[j]? = some (F a j))
    {fuel : Nat} {cs : List Value} {x : DataW H × List MemPlace} (hf : DataW.trod enc Tryz.prog w base spare held fuel T cs = some x) :
    ∃ (v : Value) (l : List α), cs = [v] ∧ SlAt w v l.length k (fun i j => F (l.getD i d) j) ∧ ∀ a ∈ l, P a := by
  rcases open_slice hu hf with ⟨hcs, _⟩ | ⟨a, len, cap, m, n, D, Pl, hcs, hb, hl, hm, hmm, hx, hi⟩
  · exact ⟨_, [], hcs, SlAt.nil w k _, fun a h => by cases h⟩
  · rw [hc] at hi
    have hlm : len ≤ m := by rw [hmm]; split <;> omega
    have key : ∀ i, i < len → ∃ c : α, P c ∧ ∀ j, j < k → w.cell? (a.add (i * k + j)) = some (F c j) := by
      intro i hil
      obtain ⟨cs', hcc, ht⟩ := hi i (by omega)
      obtain ⟨_, hcl, hat⟩ := World.cells?_some hcc
      obtain ⟨c, hP, hF⟩ := hel _ cs' _ hcl ht
      refine ⟨c, hP, fun j hj => ?_⟩
      have h1 := hat j hj
      rw [Go.Deep.add_add] at h1
      rw [h1]
      exact hF j hj
    by_cases h0 : len = 0
    · subst h0
      exact ⟨_, [], hcs, ⟨⟨some a, cap, rfl, (fun e => nomatch e), fun x hx hl => absurd hl (by simp)⟩, by simp⟩, fun a h => by cases h⟩
    · have hs : a.spot = none := by
        obtain ⟨c, _, hF⟩ := key 0 (by omega)
        have := World.cell?_spot (hF 0 hk)
        simpa [Addr.add] using this
      obtain ⟨b, o, sp⟩ := a
      have hs' : sp = none := hs
      subst hs'
      have hlt : b < w.heap.size := by
        obtain ⟨c, _, hF⟩ := key 0 (by omega)
        have := hF 0 hk
        rw [add_lit_ne] at this
        exact World.block_lt_of_cell? _ _ this
      have key2 : ∀ i, ∃ z : α, i < len → P z ∧ ∀ j, j < k → w.cell? ⟨b, o + i * k + j, none⟩ = some (F z j) := fun i => by
        by_cases hi : i < len
        · obtain ⟨c, hP, hF⟩ := key i hi
          refine ⟨c, fun _ => ⟨hP, fun j hj => ?_⟩⟩
          have := hF j hj
          rw [add_lit_ne] at this
          rw [show o + i * k + j = o + (i * k + j) by omega]; exact this
        · exact ⟨d, fun h => absurd h hi⟩
      obtain ⟨z, hz⟩ := Classical.axiomOfChoice key2
      have hlen : ((List.range len).map z).length = len := by simp
      have hget : ∀ i, i < len → ((List.range len).map z).getD i d = z i := fun i hi => by
        rw [List.getD_eq_getElem?_getD, List.getElem?_map, List.getElem?_range hi]; rfl
      refine ⟨_, (List.range len).map z, hcs, ?_, fun x hx => ?_⟩
      · rw [hlen]
        refine ⟨⟨some ⟨b, o, none⟩, cap, rfl, (fun e => nomatch e), fun x hx _ => ?_⟩, by have : maxLen = 9223372036854775807 := rfl; omega⟩
        cases hx
        refine ⟨rfl, hlt, fun i j hi hj => ?_⟩
        rw [hget i hi]
        exact (hz i hi).2 j hj
      · obtain ⟨i, hi, rfl⟩ := List.mem_map.1 hx
        exact (hz i (List.mem_range.1 hi)).1

theorem trod_Inss {fuel : Nat} {cs : List Value} {x : DataW H × List MemPlace} (hf : DataW.trod enc Tryz.prog w base spare held fuel 22 cs = some x) : ∃ v l, cs = [v] ∧ InsAt w v l :=
  let ⟨v, l, h1, h2, h3⟩ := trod_rows i0 (fun u j => .int .i64 (insC u j)) InR 11 (by decide) Tryz.underlying22 (by kernel_rfl) (fun fuel cs x hl ht => by
    match cs, hl, ht with
    | [c0, c1, c2, c3, c4, c5, c6, c7, c8, c9, c10], _, ht => exact trod_Ins ht) hf
  ⟨v, l, h1, h2, h3⟩
theorem trod_Typs {fuel : Nat} {cs : List Value} {x : DataW H × List MemPlace} (hf : DataW.trod enc Tryz.prog w base spare held fuel 23 cs = some x) : ∃ v l, cs = [v] ∧ TypAt w v l :=
  let ⟨v, l, h1, h2, h3⟩ := trod_rows y0 (fun u j => .int .i64 (typC u j)) TyR 5 (by decide) Tryz.underlying23 (by kernel_rfl) (fun fuel cs x hl ht => by
    match cs, hl, ht with
    | [c0, c1, c2, c3, c4], _, ht =>
      obtain ⟨t, hty, rfl, rfl, rfl, rfl, rfl⟩ := trod_Typ ht
      refine ⟨t, hty, fun j hj => ?_⟩
      rcases (by omega : j = 0 ∨ j = 1 ∨ j = 2 ∨ j = 3 ∨ j = 4) with rfl | rfl | rfl | rfl | rfl <;> rfl) hf
  ⟨v, l, h1, h2, h3⟩
theorem open_Inss {r : Reach} {b0 : Nat} {v : Value} {d : DataW H} {p : List MemPlace} (hv : Value.okWide Tryz.prog w r b0 22 v) (h : DataW.Trod enc Tryz.prog w base spare held 22 v d p) : ∃ l, InsAt w v l := by
  obtain ⟨a0, len, cap, rfl⟩ := okWide_slice Tryz.underlying22 hv
  obtain ⟨fuel, hf⟩ := h
  obtain ⟨v, l, hcs, hl⟩ := trod_Inss hf
  simp only [Value.cells, List.cons.injEq, and_true] at hcs
  subst hcs
  exact ⟨l, hl⟩
/-- A unit as an argument. -/
def UnArg (w : World) (v : Value) (u : List Ins × List Typ × List Slt × Int) : Prop := ∃ c t s, v = .agg #[c, t, s, .int .i64 u.2.2.2] ∧ InsAt w c u.1 ∧ TypAt w t u.2.1 ∧ SltAt w s u.2.2.1
end
end Go.Proofs.YtlglfdhiopnglaaGreatDoor

