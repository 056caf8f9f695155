/-
  Merged by a program (tools/mrg.py): PeOi, PeTm.
-/
import Derived.Test.YtbpojmhgifgfdaaDoorPeC
import Derived.Test.YtbpojmhgifgfdaaDoorPeX
import Derived.Deep.Slices
import Derived.Deep.Fields
import Derived.ChangeSame
import Derived.Lib.SmallJoins
import Derived.Test.YtbpojmhgifgfdaaDoorPeVd

section
namespace Go.Proofs.YtbpojmhgifgfdaaDoor
set_option linter.unusedSimpArgs false
open Go.ChangeShapes Go.WideShapes Go.ChangeAt Go.RowKit Go.Joins Go.Deep
set_option linter.unusedVariables false
set_option maxRecDepth 100000

theorem r64_wf {a : Int} (h : (Lit.int .i64 a).wf = true) : R64 a := by
  have := bounds_i64 h
  exact ⟨this.1, this.2⟩
section
variable {H : Type} {enc : TypeId × Value → H} {w : World} {base : Nat} {spare : Nat → Bool} {held : Bool}
theorem one_int {n : Nat} {c : Value} {y : DataW H × List MemPlace} (hy : DataW.trod enc Tryd.prog w base spare held n 3 [c] = some y) : ∃ a, c = .int .i64 a ∧ R64 a := by
  obtain ⟨a, e0, _, hw⟩ := DataW.trod_int Tryd.underlying3 hy
  exact ⟨a, by simpa using e0, r64_wf hw⟩
theorem one_int64 {n : Nat} {c : Value} {y : DataW H × List MemPlace} (hy : DataW.trod enc Tryd.prog w base spare held n 2 [c] = some y) : ∃ a, c = .int .i64 a ∧ R64 a := by
  obtain ⟨a, e0, _, hw⟩ := DataW.trod_int Tryd.underlying2 hy
  exact ⟨a, by simpa using e0, r64_wf hw⟩
theorem trod_Typ {fuel : Nat} {c0 c1 c2 c3 c4 : Value} {x : DataW H × List MemPlace} (hf : DataW.trod enc Tryd.prog w base spare held fuel 62 [c0, c1, c2, c3, c4] = some x) :
    ∃ t : Typ, TyR t ∧ c0 = .int .i64 t.1 ∧ c1 = .int .i64 t.2.1 ∧ c2 = .int .i64 t.2.2.1 ∧ c3 = .int .i64 t.2.2.2.1 ∧ c4 = .int .i64 t.2.2.2.2 := by
  obtain ⟨xs, n, _, hx, _, hlen, hg⟩ := DataW.trod_struct Tryd.underlying62 hf
  have hl : xs.length = 5 := hlen
  obtain ⟨a0, e0, r0⟩ := one_int ((hg 0 _ rfl).trans (List.getElem?_eq_getElem (by omega : 0 < xs.length)))
  obtain ⟨a1, e1, r1⟩ := one_int ((hg 1 _ rfl).trans (List.getElem?_eq_getElem (by omega : 1 < xs.length)))
  obtain ⟨a2, e2, r2⟩ := one_int ((hg 2 _ rfl).trans (List.getElem?_eq_getElem (by omega : 2 < xs.length)))
  obtain ⟨a3, e3, r3⟩ := one_int ((hg 3 _ rfl).trans (List.getElem?_eq_getElem (by omega : 3 < xs.length)))
  obtain ⟨a4, e4, r4⟩ := one_int ((hg 4 _ rfl).trans (List.getElem?_eq_getElem (by omega : 4 < xs.length)))
  exact ⟨(a0, a1, a2, a3, a4), fun j => (match j with
    | 0 => r0
    | 1 => r1
    | 2 => r2
    | 3 => r3
    | j + 4 => r4), e0, e1, e2, e3, e4⟩
theorem trod_Val2 {fuel : Nat} {c0 c1 : Value} {x : DataW H × List MemPlace} (hf : DataW.trod enc Tryd.prog w base spare held fuel 60 [c0, c1] = some x) :
    ∃ a b : Int, R64 a ∧ R64 b ∧ c0 = .int .i64 a ∧ c1 = .int .i64 b := by
  obtain ⟨xs, n, _, hx, _, hlen, hg⟩ := DataW.trod_struct Tryd.underlying60 hf
  have hl : xs.length = 2 := hlen
  obtain ⟨a0, e0, r0⟩ := one_int64 ((hg 0 _ rfl).trans (List.getElem?_eq_getElem (by omega : 0 < xs.length)))
  obtain ⟨a1, e1, r1⟩ := one_int64 ((hg 1 _ rfl).trans (List.getElem?_eq_getElem (by omega : 1 < xs.length)))
  exact ⟨a0, a1, r0, r1, e0, e1⟩
theorem trod_Ins {fuel : Nat} {c0 c1 c2 c3 c4 c5 c6 c7 c8 c9 c10 : Value} {x : DataW H × List MemPlace} (hf : DataW.trod enc Tryd.prog w base spare held fuel 64 [c0, c1, c2, c3, c4, c5, c6, c7, c8, c9, c10] = some x) :
    ∃ u : Ins, InR u ∧ ∀ j, j < 11 → ([c0, c1, c2, c3, c4, c5, c6, c7, c8, c9, c10] : List Value)[j]? = some (.int .i64 (insC u j)) := by
  obtain ⟨xs, n, _, hx, _, hlen, hg⟩ := DataW.trod_struct Tryd.underlying64 hf
  have hl : xs.length = 6 := hlen
  obtain ⟨a0, rfl, r0⟩ := one_int ((hg 0 _ rfl).trans (List.getElem?_eq_getElem (by omega : 0 < xs.length)))
  obtain ⟨a1, rfl, r1⟩ := one_int ((hg 1 _ rfl).trans (List.getElem?_eq_getElem (by omega : 1 < xs.length)))
  obtain ⟨a2, rfl, r2⟩ := one_int ((hg 2 _ rfl).trans (List.getElem?_eq_getElem (by omega : 2 < xs.length)))
  obtain ⟨a3, rfl, r3⟩ := one_int ((hg 3 _ rfl).trans (List.getElem?_eq_getElem (by omega : 3 < xs.length)))
  obtain ⟨a4, a5, r4, r5, rfl, rfl⟩ := trod_Val2 (c0 := c4) (c1 := c5) ((hg 4 _ rfl).trans (List.getElem?_eq_getElem (by omega : 4 < xs.length)))
  obtain ⟨t, rt, rfl, rfl, rfl, rfl, rfl⟩ := trod_Typ (c0 := c6) (c1 := c7) (c2 := c8) (c3 := c9) (c4 := c10) ((hg 5 _ rfl).trans (List.getElem?_eq_getElem (by omega : 5 < xs.length)))
  refine ⟨(a0, a1, a2, a3, (a4, a5), t), fun j => (match j with
    | 0 => r0
    | 1 => r1
    | 2 => r2
    | 3 => r3
    | 4 => r4
    | 5 => r5
    | 6 => rt 0
    | 7 => rt 1
    | 8 => rt 2
    | 9 => rt 3
    | j + 10 => rt 4), fun j hj => ?_⟩
  rcases (by omega : j = 0 ∨ j = 1 ∨ j = 2 ∨ j = 3 ∨ j = 4 ∨ j = 5 ∨ j = 6 ∨ j = 7 ∨ j = 8 ∨ j = 9 ∨ j = 10) with rfl | rfl | rfl | rfl | rfl | rfl | rfl | rfl | rfl | rfl | rfl <;> rfl
theorem trod_Slt {fuel : Nat} {c0 c1 c2 : Value} {x : DataW H × List MemPlace} (hf : DataW.trod enc Tryd.prog w base spare held fuel 86 [c0, c1, c2] = some x) :
    ∃ u : Slt, c0 = .string u.1 ∧ c1 = .int .i64 u.2.1 ∧ c2 = .int .i64 u.2.2 := by
  obtain ⟨xs, n, _, hx, _, hlen, hg⟩ := DataW.trod_struct Tryd.underlying86 hf
  have hl : xs.length = 3 := hlen
  obtain ⟨s, e0, _⟩ := DataW.trod_string Tryd.underlying9 ((hg 0 _ rfl).trans (List.getElem?_eq_getElem (by omega : 0 < xs.length)))
  obtain ⟨a1, e1, r1⟩ := one_int ((hg 1 _ rfl).trans (List.getElem?_eq_getElem (by omega : 1 < xs.length)))
  obtain ⟨a2, e2, r2⟩ := one_int ((hg 2 _ rfl).trans (List.getElem?_eq_getElem (by omega : 2 < xs.length)))
  have e0' : [c0] = [.string s] := e0
  simp only [List.cons.injEq, and_true] at e0'
  exact ⟨(s, a1, a2), e0', e1, e2⟩

/-- A slice whose elements read as F of something of which P holds. -/
theorem trod_rows {α : Type} (d : α) (F : α → Nat → Value) (P : α → Prop) (k : Nat) (hk : 0 < k) {t T : TypeId} (hu : Tryd.prog.underlying T = some (.slice t)) (hc : Tryd.prog.cellsOf t = k)
    (hel : ∀ fuel cs x, cs.length = k → DataW.trod enc Tryd.prog w base spare held fuel t cs = some x → ∃ a, P a ∧ ∀ j, j < k → cs[j]? = some (F a j))
    {fuel : Nat} {cs : List Value} {x : DataW H × List MemPlace} (hf : DataW.trod enc Tryd.prog w base spare held fuel T cs = some x) :
    ∃ (v : Value) (l : List α), cs = [v] ∧ SlAt w v l.length k (fun i j => F (l.getD i d) j) ∧ ∀ a ∈ l, P a := by
  rcases open_slice hu hf with ⟨hcs, _⟩ | ⟨a, len, cap, m, n, D, Pl, hcs, hb, hl, hm, hmm, hx, hi⟩
  · exact ⟨_, [], hcs, SlAt.nil w k _, fun a h => by cases h⟩
  · rw [hc] at hi
    have hlm : len ≤ m := by rw [hmm]; split <;> omega
    have key : ∀ i, i < len → ∃ c : α, P c ∧ ∀ j, j < k → w.cell? (a.add (i * k + j)) = some (F c j) := by
      intro i hil
      obtain ⟨cs', hcc, ht⟩ := hi i (by omega)
      obtain ⟨_, hcl, hat⟩ := World.cells?_some hcc
      obtain ⟨c, hP, hF⟩ := hel _ cs' _ hcl ht
      refine ⟨c, hP, fun j hj => ?_⟩
      have h1 := hat j hj
      rw [Go.Deep.add_add] at h1
      rw [h1]
      exact hF j hj
    by_cases h0 : len = 0
    · subst h0
      exact ⟨_, [], hcs, ⟨⟨some a, cap, rfl, (fun e => nomatch e), fun x hx hl => absurd hl (by simp)⟩, by simp⟩, fun a h => by cases h⟩
    · have hs : a.spot = none := by
        obtain ⟨c, _, hF⟩ := key 0 (by omega)
        have := World.cell?_spot (hF 0 hk)
        simpa [Addr.add] using this
      obtain ⟨b, o, sp⟩ := a
      have hs' : sp = none := hs
      subst hs'
      have hlt : b < w.heap.size := by
        obtain ⟨c, _, hF⟩ := key 0 (by omega)
        have := hF 0 hk
        rw [add_lit_ne] at this
        exact World.block_lt_of_cell? _ _ this
      have key2 : ∀ i, ∃ z : α, i < len → P z ∧ ∀ j, j < k → w.cell? ⟨b, o + i * k + j, none⟩ = some (F z j) := fun i => by
        by_cases hi : i < len
        · obtain ⟨c, hP, hF⟩ := key i hi
          refine ⟨c, fun _ => ⟨hP, fun j hj => ?_⟩⟩
          have := hF j hj
          rw [add_lit_ne] at this
          rw [show o + i * k + j = o + (i * k + j) by omega]; exact this
        · exact ⟨d, fun h => absurd h hi⟩
      obtain ⟨z, hz⟩ := Classical.axiomOfChoice key2
      have hlen : ((List.range len).map z).length = len := by simp
      have hget : ∀ i, i < len → ((List.range len).map z).getD i d = z i := fun i hi => by
        rw [List.getD_eq_getElem?_getD, List.getElem?_map, List.getElem?_range hi]; rfl
      refine ⟨_, (List.range len).map z, hcs, ?_, fun x hx => ?_⟩
      · rw [hlen]
        refine ⟨⟨some ⟨b, o, none⟩, cap, rfl, (fun e => nomatch e), fun x hx _ => ?_⟩, by have : maxLen = 9223372036854775807 := rfl; omega⟩
        cases hx
        refine ⟨rfl, hlt, fun i j hi hj => ?_⟩
        rw [hget i hi]
        exact (hz i hi).2 j hj
      · obtain ⟨i, hi, rfl⟩ := List.mem_map.1 hx
        exact (hz i (List.mem_range.1 hi)).1

theorem trod_Inss {fuel : Nat} {cs : List Value} {x : DataW H × List MemPlace} (hf : DataW.trod enc Tryd.prog w base spare held fuel 22 cs = some x) : ∃ v l, cs = [v] ∧ InsAt w v l :=
  let ⟨v, l, h1, h2, h3⟩ := trod_rows i0 (fun u j => .int .i64 (insC u j)) InR 11 (by decide) Tryd.underlying22 (by kernel_rfl) (fun fuel cs x hl ht => by
    match cs, hl, ht with
    | [c0, c1, c2, c3, c4, c5, c6, c7, c8, c9, c10], _, ht => exact trod_Ins ht) hf
  ⟨v, l, h1, h2, h3⟩
theorem trod_Typs {fuel : Nat} {cs : List Value} {x : DataW H × List MemPlace} (hf : DataW.trod enc Tryd.prog w base spare held fuel 28 cs = some x) : ∃ v l, cs = [v] ∧ TypAt w v l :=
  let ⟨v, l, h1, h2, h3⟩ := trod_rows y0 (fun u j => .int .i64 (typC u j)) TyR 5 (by decide) Tryd.underlying28 (by kernel_rfl) (fun fuel cs x hl ht => by
    match cs, hl, ht with
    | [c0, c1, c2, c3, c4], _, ht =>
      obtain ⟨t, hty, rfl, rfl, rfl, rfl, rfl⟩ := trod_Typ ht
      refine ⟨t, hty, fun j hj => ?_⟩
      rcases (by omega : j = 0 ∨ j = 1 ∨ j = 2 ∨ j = 3 ∨ j = 4) with rfl | rfl | rfl | rfl | rfl <;> rfl) hf
  ⟨v, l, h1, h2, h3⟩
theorem trod_Slts {fuel : Nat} {cs : List Value} {x : DataW H × List MemPlace} (hf : DataW.trod enc Tryd.prog w base spare held fuel 29 cs = some x) : ∃ v l, cs = [v] ∧ SltAt w v l := by
  obtain ⟨v, l, h1, h2, _⟩ := trod_rows s0 (fun u j => match j with
    | 0 => .string u.1
    | 1 => .int .i64 u.2.1
    | _ => .int .i64 u.2.2) (fun _ => True) 3 (by decide) Tryd.underlying29 (by kernel_rfl) (fun fuel cs x hl ht => by
    match cs, hl, ht with
    | [c0, c1, c2], _, ht =>
      obtain ⟨u, rfl, rfl, rfl⟩ := trod_Slt ht
      refine ⟨u, trivial, fun j hj => ?_⟩
      rcases (by omega : j = 0 ∨ j = 1 ∨ j = 2) with rfl | rfl | rfl <;> rfl) hf
  exact ⟨v, l, h1, h2⟩
theorem open_Inss {r : Reach} {b0 : Nat} {v : Value} {d : DataW H} {p : List MemPlace} (hv : Value.okWide Tryd.prog w r b0 22 v) (h : DataW.Trod enc Tryd.prog w base spare held 22 v d p) : ∃ l, InsAt w v l := by
  obtain ⟨a0, len, cap, rfl⟩ := okWide_slice Tryd.underlying22 hv
  obtain ⟨fuel, hf⟩ := h
  obtain ⟨v, l, hcs, hl⟩ := trod_Inss hf
  simp only [Value.cells, List.cons.injEq, and_true] at hcs
  subst hcs
  exact ⟨l, hl⟩
/-- A unit as an argument. -/
def UnArg (w : World) (v : Value) (u : List Ins × List Typ × List Slt × Int) : Prop := ∃ c t s, v = .agg #[c, t, s, .int .i64 u.2.2.2] ∧ InsAt w c u.1 ∧ TypAt w t u.2.1 ∧ SltAt w s u.2.2.1
theorem cellsUn : Tryd.prog.cellsOf 31 = 4 := by kernel_rfl
theorem open_Un {r : Reach} {b0 : Nat} {v : Value} {d : DataW H} {p : List MemPlace} (hv : Value.okWide Tryd.prog w r b0 31 v) (h : DataW.Trod enc Tryd.prog w base spare held 31 v d p) : ∃ u, UnArg w v u := by
  obtain ⟨cs, rfl, hsz⟩ := okWide_struct Tryd.underlying31 hv
  obtain ⟨l⟩ := cs
  match l, hsz.trans cellsUn with
  | [d0, d1, d2, d3], _ =>
    obtain ⟨fuel, hf⟩ := h
    obtain ⟨xs, n, _, hx, _, hlen, hg⟩ := DataW.trod_struct Tryd.underlying31 hf
    have hl : xs.length = 4 := hlen
    obtain ⟨v0, l0, e0, h0⟩ := trod_Inss ((hg 0 _ rfl).trans (List.getElem?_eq_getElem (by omega : 0 < xs.length)))
    obtain ⟨v1, l1, e1, h1⟩ := trod_Typs ((hg 1 _ rfl).trans (List.getElem?_eq_getElem (by omega : 1 < xs.length)))
    obtain ⟨v2, l2, e2, h2⟩ := trod_Slts ((hg 2 _ rfl).trans (List.getElem?_eq_getElem (by omega : 2 < xs.length)))
    obtain ⟨a3, e3, r3⟩ := one_int (c := d3) ((hg 3 _ rfl).trans (List.getElem?_eq_getElem (by omega : 3 < xs.length)))
    have e0' : [d0] = [v0] := e0
    have e1' : [d1] = [v1] := e1
    have e2' : [d2] = [v2] := e2
    simp only [List.cons.injEq, and_true] at e0' e1' e2'
    subst e0' e1' e2' e3
    exact ⟨(l0, l1, l2, a3), _, _, _, rfl, h0, h1, h2⟩
end
end Go.Proofs.YtbpojmhgifgfdaaDoor
end

section
namespace Go.Proofs.YtbpojmhgifgfdaaDoor
open Go.ChangeShapes Go.WideShapes Go.ChangeAt Go.RowKit
set_option linter.unusedVariables false
set_option linter.unusedSimpArgs false
set_option maxRecDepth 100000

/-! ### Termination -/
def opJ (l : List Ins) (a : Int) : Bool := decide (0 ≤ a ∧ a < l.length ∧ (l.getD a.toNat i0).1 = 7)
def toJ (l : List Ins) (x : Ins) : Bool := jumpsB x.1 && opJ l x.2.1
def muF (l : List Ins) : Nat := l.length * (l.length + 1) + l.countP (toJ l)
theorem getD_mem {l : List Ins} {i : Nat} (h : i < l.length) : l.getD i i0 ∈ l := by
  rw [List.getD_eq_getElem?_getD, List.getElem?_eq_getElem h]; exact List.getElem_mem _
theorem setA_op (l : List Ins) (i : Nat) (t : Int) (a : Nat) : ((setA l i t).getD a i0).1 = (l.getD a i0).1 := by
  unfold setA
  rw [List.getD_eq_getElem?_getD, List.getElem?_set]
  by_cases h : i = a
  · subst h
    rw [if_pos rfl]
    by_cases hi : i < l.length
    · rw [if_pos hi]; rfl
    · rw [if_neg hi, List.getD_eq_getElem?_getD, List.getElem?_eq_none (by omega)]
  · rw [if_neg h, List.getD_eq_getElem?_getD]
theorem opJ_set (l : List Ins) (i : Nat) (t a : Int) : opJ (setA l i t) a = opJ l a := by
  unfold opJ
  rw [setA_len, setA_op]
theorem toJ_set (l : List Ins) (i : Nat) (t : Int) : toJ (setA l i t) = toJ l := by
  funext x; unfold toJ; rw [opJ_set]
theorem countP_set1 (p : Ins → Bool) : ∀ (l : List Ins) (i : Nat) (y : Ins), i < l.length → p (l.getD i i0) = true → p y = false → (l.set i y).countP p + 1 = l.countP p
  | [], i, _, h, _, _ => absurd h (by simp)
  | x :: r, 0, y, _, h, g => by
    have h : p x = true := h
    show (y :: r).countP p + 1 = _
    rw [List.countP_cons, List.countP_cons, h, g]; simp
  | x :: r, i + 1, y, h, hp, g => by
    have ih := countP_set1 p r i y (by simpa using h) hp g
    show (x :: r.set i y).countP p + 1 = _
    rw [List.countP_cons, List.countP_cons]
    omega
theorem finG_end (l : List Ins) (t : Int) : ∀ (k : Nat) (a : Int), finG l t k a = t ∨ opJ l (finG l t k a) = false
  | 0, a => by
    unfold finG
    split
    · exact .inl rfl
    · rename_i h
      refine .inr ?_
      unfold opJ
      simpa using h
  | k + 1, a => by
    unfold finG
    split
    · rename_i h
      refine .inr ?_
      unfold opJ
      simp only [decide_eq_false_iff_not]
      intro h2
      rcases h with h | h | h
      · omega
      · omega
      · exact h h2.2.2
    · exact finG_end l t k _
theorem finF_jump {l : List Ins} {t : Int} (h : finF l t ≠ t) : opJ l t = true ∧ opJ l (finF l t) = false := by
  have h2 : opJ l (finF l t) = false := (finG_end l t l.length t).resolve_left h
  refine ⟨?_, h2⟩
  cases hj : opJ l t with
  | true => rfl
  | false =>
    refine absurd ?_ h
    unfold finF
    unfold opJ at hj
    simp only [decide_eq_false_iff_not] at hj
    cases hn : l.length with
    | zero => unfold finG; rw [if_neg (by rw [hn] at *; omega)]
    | succ k =>
      unfold finG
      rw [if_pos]
      by_cases h1 : t < 0
      · exact .inl h1
      · by_cases h3 : (l.length : Int) ≤ t
        · exact .inr (.inl h3)
        · exact .inr (.inr (fun h4 => hj ⟨by omega, by omega, h4⟩))
theorem remG_len1 : ∀ (l : List Ins) (k i : Int), k ≤ i → i < k + l.length → (remG l k i).length + 1 = l.length
  | [], k, i, h, g => by simp at g; omega
  | x :: r, k, i, h, g => by
    rw [remG_cons, List.length_append, List.length_cons]
    by_cases he : k = i
    · subst he
      rw [if_pos rfl]
      have : ∀ (r : List Ins) (j : Int), k < j → (remG r j k).length = r.length := by
        intro r
        induction r with
        | nil => intro j _; rfl
        | cons y s ih =>
          intro j hj
          rw [remG_cons, if_neg (by omega), List.length_append, ih (j + 1) (by omega)]
          simp; omega
      rw [this r (k + 1) (by omega)]; simp
    · rw [if_neg he]
      have := remG_len1 r (k + 1) i (by omega) (by simp at g; omega)
      simp; omega
/-- Where a scan stops. -/
theorem scanF_at {l : List Ins} {seen : List Bool} {r : List Ins} : ∀ (k i : Nat), i + k ≤ l.length → scanF l seen k i = some r →
    ∃ j, i ≤ j ∧ j < l.length ∧ (∀ p, i ≤ p → p < j → goneB seen p = false) ∧ ((goneB seen j = true ∧ r = remF l j) ∨ (goneB seen j = false ∧ idleAt l j = true ∧ r = remF l j) ∨ (goneB seen j = false ∧ threadB l j = true ∧ r = setA l j (finF l (l.getD j i0).2.1)))
  | 0, _, _, h => by cases h
  | k + 1, i, hl, h => by
    unfold scanF at h
    cases h0 : goneB seen i with
    | true => rw [h0, if_pos rfl] at h; cases h; exact ⟨i, Nat.le_refl _, by omega, fun p h1 h2 => by omega, .inl ⟨h0, rfl⟩⟩
    | false =>
      rw [h0, if_neg (by simp)] at h
      cases h1 : idleAt l i with
      | true => rw [h1, if_pos rfl] at h; cases h; exact ⟨i, Nat.le_refl _, by omega, fun p h1 h2 => by omega, .inr (.inl ⟨h0, h1, rfl⟩)⟩
      | false =>
        rw [h1, if_neg (by simp)] at h
        cases h2 : threadB l i with
        | true => rw [h2, if_pos rfl] at h; cases h; exact ⟨i, Nat.le_refl _, by omega, fun p h1 h2 => by omega, .inr (.inr ⟨h0, h2, rfl⟩)⟩
        | false =>
          rw [h2, if_neg (by simp)] at h
          obtain ⟨j, g1, g2, g3, g4⟩ := scanF_at k (i + 1) (by omega) h
          refine ⟨j, by omega, g2, fun p h1 h2 => ?_, g4⟩
          rcases Nat.eq_or_lt_of_le h1 with rfl | h1
          · exact h0
          · exact g3 p h1 h2
theorem mu_step {l r : List Ins} {ts : List Typ} {words : Int} (h : stepF l ts words = some r) : muF r < muF l := by
  unfold stepF at h
  split at h
  · obtain ⟨j, _, hj, _, hr⟩ := scanF_at l.length 0 (by omega) h
    have hrem : r = remF l j → muF r < muF l := fun e => by
      subst e
      have hlen : (remF l j).length + 1 = l.length := remG_len1 l 0 j (by omega) (by omega)
      unfold muF
      have hc : (remF l j).countP (toJ (remF l j)) ≤ (remF l j).length := List.countP_le_length
      generalize (remF l j).length = m at *
      rw [← hlen]
      have : m * (m + 1) + m < (m + 1) * (m + 1 + 1) := by
        have e1 : (m + 1) * (m + 1 + 1) = m * (m + 1) + 2 * (m + 1) := by rw [Nat.add_mul, Nat.mul_add m (m+1) 1]; omega
        omega
      omega
    rcases hr with ⟨_, hr⟩ | ⟨_, _, hr⟩ | ⟨_, ht, hr⟩
    · exact hrem hr
    · exact hrem hr
    · subst hr
      unfold threadB at ht
      simp only [Bool.and_eq_true, decide_eq_true_eq] at ht
      obtain ⟨hjm, hne⟩ := ht
      obtain ⟨h1, h2⟩ := finF_jump hne
      unfold muF
      rw [setA_len, toJ_set]
      have := countP_set1 (toJ l) l j ((l.getD j i0).1, finF l (l.getD j i0).2.1, (l.getD j i0).2.2) hj (by unfold toJ; rw [hjm, h1]; rfl) (by unfold toJ; dsimp only; rw [h2]; simp)
      have e : setA l j (finF l (l.getD j i0).2.1) = l.set j ((l.getD j i0).1, finF l (l.getD j i0).2.1, (l.getD j i0).2.2) := rfl
      rw [e]
      omega
  · cases h
theorem opt_ex (ts : List Typ) (words : Int) : ∀ (m : Nat) (l : List Ins), muF l ≤ m → ∃ k r, k ≤ m ∧ OptTo ts words k l r
  | 0, l, h => by
    cases hs : stepF l ts words with
    | none => exact ⟨0, l, Nat.le_refl _, hs, rfl⟩
    | some r => have := mu_step hs; omega
  | m + 1, l, h => by
    cases hs : stepF l ts words with
    | none => exact ⟨0, l, Nat.zero_le _, hs, rfl⟩
    | some r =>
      have := mu_step hs
      obtain ⟨k, q, h1, h2⟩ := opt_ex ts words m r (by omega)
      exact ⟨k + 1, q, by omega, r, hs, h2⟩
theorem mu_le (l : List Ins) (h : l.length ≤ 200) : muF l ≤ 41000 := by
  unfold muF
  have hc : l.countP (toJ l) ≤ l.length := List.countP_le_length
  have : l.length * (l.length + 1) ≤ 200 * 201 := Nat.mul_le_mul h (by omega)
  omega

/-! ### What is reached is closed -/
theorem getD_set_b (s : List Bool) (i j : Nat) (d : Bool) : (s.set i true).getD j d = if i = j ∧ j < s.length then true else s.getD j d := by
  rw [List.getD_eq_getElem?_getD, List.getElem?_set]
  by_cases h : i = j
  · subst h
    by_cases hi : i < s.length
    · simp [hi]
    · simp [hi]
  · simp [h]
def ClosedB (l : List Ins) (seen : List Bool) (st : List Int) : Prop := ∀ p, p < l.length → seen.getD p false = true → ∀ s ∈ succF (l.getD p i0) p, 0 ≤ s → s < l.length → seen.getD s.toNat false = true ∨ s ∈ st
theorem reach_closed (l : List Ins) : ∀ (f : Nat) (seen : List Bool) (st : List Int), 3 * unseen seen + st.length ≤ f → seen.length = l.length → ClosedB l seen st →
    ClosedB l (reachG l f seen st) [] ∧ (reachG l f seen st).length = l.length ∧ (∀ p, seen.getD p false = true → (reachG l f seen st).getD p false = true) ∧ (∀ s ∈ st, 0 ≤ s → s < l.length → (reachG l f seen st).getD s.toNat false = true)
  | f, seen, [], hf, hl, hc => by
    rw [reachG_nil]
    exact ⟨hc, hl, fun p h => h, fun s h => absurd h (by simp)⟩
  | 0, seen, i :: st, hf, hl, hc => absurd hf (by simp)
  | f + 1, seen, i :: st, hf, hl, hc => by
    rw [reachG_cons]
    simp only [List.length_cons] at hf
    by_cases h : i < 0 ∨ (l.length : Int) ≤ i ∨ seen.getD i.toNat true = true
    · rw [if_pos h]
      have hi : 0 ≤ i → i < l.length → seen.getD i.toNat false = true := fun h1 h2 => by
        rcases h with h | h | h
        · omega
        · omega
        · rw [List.getD_eq_getElem?_getD] at h ⊢
          rw [List.getElem?_eq_getElem (by omega)] at h ⊢
          exact h
      obtain ⟨g1, g2, g3, g4⟩ := reach_closed l f seen st (by omega) hl (fun p hp hs s hss h1 h2 => by
        rcases hc p hp hs s hss h1 h2 with h | h
        · exact .inl h
        · rcases List.mem_cons.1 h with rfl | h
          · exact .inl (hi h1 h2)
          · exact .inr h)
      refine ⟨g1, g2, g3, fun s hs h1 h2 => ?_⟩
      rcases List.mem_cons.1 hs with rfl | hs
      · exact g3 _ (hi h1 h2)
      · exact g4 s hs h1 h2
    · rw [if_neg h]
      have h1 : 0 ≤ i := by omega
      have h2 : i < l.length := by omega
      have h3 : seen.getD i.toNat true = false := by
        cases hb : seen.getD i.toNat true with
        | false => rfl
        | true => exact absurd (.inr (.inr hb)) h
      have hu := unseen_set seen i.toNat (by omega) h3
      have hsl := succF_len (l.getD i.toNat i0) i
      obtain ⟨g1, g2, g3, g4⟩ := reach_closed l f (seen.set i.toNat true) ((succF (l.getD i.toNat i0) i).reverse ++ st) (by
        rw [List.length_append, List.length_reverse]; omega) (by rw [List.length_set]; exact hl) (fun p hp hs s hss k1 k2 => by
        rw [getD_set_b] at hs
        by_cases he : i.toNat = p
        · subst he
          rw [Int.toNat_of_nonneg h1] at hss
          exact .inr (List.mem_append.2 (.inl (List.mem_reverse.2 hss)))
        · rw [if_neg (fun h => he h.1)] at hs
          rcases hc p hp hs s hss k1 k2 with h | h
          · left
            rw [getD_set_b]
            split
            · rfl
            · exact h
          · rcases List.mem_cons.1 h with rfl | h
            · left
              rw [getD_set_b, if_pos ⟨rfl, by omega⟩]
            · exact .inr (List.mem_append.2 (.inr h)))
      refine ⟨g1, g2, fun p hp => g3 p ?_, fun s hs k1 k2 => ?_⟩
      · rw [getD_set_b]
        split
        · rfl
        · exact hp
      · rcases List.mem_cons.1 hs with rfl | hs
        · exact g3 _ (by rw [getD_set_b, if_pos ⟨rfl, by omega⟩])
        · exact g4 s (List.mem_append.2 (.inr hs)) k1 k2
theorem unseen_rep (n : Nat) : unseen (List.replicate n false) = n := by simp [unseen]
theorem reachF_closed (l : List Ins) : ClosedB l (reachF l) [] ∧ (reachF l).length = l.length := by
  obtain ⟨h1, h2, _, _⟩ := reach_closed l (3 * l.length + 1) (List.replicate l.length false) [0] (by rw [unseen_rep]; simp) (by simp) (fun p hp hs => by
    exfalso
    rw [List.getD_eq_getElem?_getD] at hs
    simp [hp] at hs)
  exact ⟨h1, h2⟩
end Go.Proofs.YtbpojmhgifgfdaaDoor
end
