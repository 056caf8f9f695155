/-
  Stacks and marks: rows of integers that shrink, rows of booleans that are marked. General.
-/
import Derived.Test.YtbpojmhgifgfdaaDoorPeG
namespace Go.Proofs.YtbpojmhgifgfdaaDoor
open Go.ChangeShapes Go.WideShapes Go.ChangeAt Go.RowKit
set_option linter.unusedVariables false
set_option linter.unusedSimpArgs false

/-- The last element goes. -/
theorem own_pop {w : World} {B m cap : Nat} {e : TypeId} {a : Option Addr} {xs : List Value} {u : Value} (h : w.ownsRow B e 1 (.slice a (m + 1) cap) (m + 1) (xs ++ [u])) : w.ownsRow B e 1 (.slice a m cap) m xs := by
  have hl : xs.length = m := by have := h.1; simp at this; omega
  refine ⟨by omega, ?_⟩
  rcases h.2 with ⟨_, h0⟩ | ⟨g, cap', cur, hv, hb, hg, hnc, hcm, hcs, ht⟩
  · omega
  · cases hv
    refine .inr ⟨g, cap, cur, rfl, hb, hg, by omega, hcm, hcs, ?_⟩
    have : cur.toList.take (m * 1) = (cur.toList.take ((m + 1) * 1)).take m := by rw [List.take_take]; congr 1; omega
    rw [this, ht, List.take_left' hl]
/-- One row grows, a row of another type stays. -/
theorem own_other {w w' : World} {B B' k k' n m : Nat} {e t : TypeId} {v u : Value} {xs ys : List Value} (h : w.ownsRow B e k v n xs) (hu : w.ownsRow B' t k' u m ys) (hne : t ≠ e) (g : w.grownBy w' u.ownBlock) : w'.ownsRow B e k v n xs := by
  refine ⟨h.1, ?_⟩
  rcases h.2 with h0 | ⟨b, cap, cur, hv, hb, hg, hr⟩
  · exact .inl h0
  · refine .inr ⟨b, cap, cur, hv, hb, ?_, hr⟩
    rw [g.block b (Array.getElem?_eq_some_iff.1 hg).1 (fun e' => ?_)]
    · exact hg
    · rcases hu.2 with ⟨rfl, _⟩ | ⟨b', cap', cur', hv', _, hg', _⟩
      · cases e'
      · subst hv'
        have e2 : b = b' := Option.some.inj e'
        subst e2
        rw [hg] at hg'
        cases hg'
        exact hne rfl
/-- A store into a row, and a row of another type. -/
theorem own_mark {w : World} {B B' k k' n m g cap : Nat} {e t : TypeId} {v : Value} {xs ys : List Value} (h : w.ownsRow B e k v n xs) (hu : w.ownsRow B' t k' (.slice (some ⟨g, 0, none⟩) m cap) m ys) (hne : t ≠ e) (o : Nat) (y : Value) : (w.setCell ⟨g, o, none⟩ y).ownsRow B e k v n xs := by
  rcases hu.2 with ⟨hv, _⟩ | ⟨b', cap', cur', hv', _, hg', _⟩
  · cases hv
  · cases hv'
    exact own_far h hg' hne o y

def intV (l : List Int) : List Value := l.map fun x => .int .i64 x
def boolV (l : List Bool) : List Value := l.map fun x => .bool x
theorem intV_app (a b : List Int) : intV (a ++ b) = intV a ++ intV b := List.map_append
theorem intV_len (l : List Int) : (intV l).length = l.length := List.length_map _
theorem boolV_len (l : List Bool) : (boolV l).length = l.length := List.length_map _
theorem boolV_set (l : List Bool) (i : Nat) (b : Bool) : (boolV l).set i (.bool b) = boolV (l.set i b) := by simp [boolV, List.map_set]
theorem boolV_get (l : List Bool) (i : Nat) (d : Bool) (h : i < l.length) : (boolV l)[i]? = some (.bool (l.getD i d)) := by
  simp [boolV, List.getD_eq_getElem?_getD, List.getElem?_eq_getElem h]
theorem boolV_rep (n : Nat) : (madeCells (Value.bool false).cells (n * 1)).toList = boolV (List.replicate n false) := by
  refine List.ext_getElem? fun i => ?_
  simp only [madeCells, boolV, Value.cells]
  by_cases h : i < n
  · simp [h, Nat.mod_one]
  · simp [h]
/-- The marks that are still off, read out of the world. -/
def unW (w : World) (g n : Nat) : Nat := (List.range n).countP fun i => match w.cell? ⟨g, i, none⟩ with | some (.bool false) => true | _ => false
def lenOfV : Value → Nat
  | .slice _ n _ => n
  | _ => 0
theorem unseen_range : ∀ (l : List Bool), unseen l = (List.range l.length).countP fun i => !(l.getD i true)
  | [] => rfl
  | b :: r => by
    have ih := unseen_range r
    unfold unseen at ih ⊢
    rw [List.count_cons, ih, List.length_cons, List.range_succ_eq_map, List.countP_cons, List.countP_map]
    have : ((fun i => !(b :: r).getD i true) ∘ Nat.succ) = fun i => !(r.getD i true) := by funext i; rfl
    rw [this]
    cases b <;> rfl
theorem unW_eq {w : World} {B g n cap : Nat} {e : TypeId} {l : List Bool} (h : w.ownsRow B e 1 (.slice (some ⟨g, 0, none⟩) n cap) n (boolV l)) (hl : l.length = n) : unW w g n = unseen l := by
  subst hl
  rw [unseen_range]
  unfold unW
  refine List.countP_congr fun i hi => ?_
  have hi' := List.mem_range.1 hi
  obtain ⟨g', cap', hv, _, _, _, _, hc⟩ := own_get h (by omega)
  cases hv
  rw [hc i _ (boolV_get l i true hi')]
  cases l.getD i true <;> simp
def BoolsAt (w : World) (v : Value) (l : List Bool) : Prop := SlAt w v l.length 1 (fun j _ => .bool (l.getD j false))
theorem BoolsAt.up {w w' : World} {v : Value} {l : List Bool} (h : BoolsAt w v l) (u : Up w w') : BoolsAt w' v l := SlAt.up h u
theorem BoolsAt.own {w : World} {B n : Nat} {e : TypeId} {v : Value} {l : List Bool} (h : w.ownsRow B e 1 v n (boolV l)) (hl : l.length = n) (hn : n ≤ 9223372036854775807) : BoolsAt w v l := by
  subst hl
  exact SlAt.of_own h hn fun i j hi hj => by
    obtain rfl : j = 0 := by omega
    rw [Nat.mul_one, Nat.add_zero]; exact boolV_get l i false hi
theorem BoolsAt.elem {w wr : World} {v : Value} {l : List Bool} (h : BoolsAt w v l) (hU : Up w wr) (k : Nat) (hk : k < l.length) {n : Nat} (hn : l.length = n) {a : Option Addr} {cap : Nat} (hv : v = .slice a n cap) :
    ∃ bl off, a = some ⟨bl, off, none⟩ ∧ bl < w.heap.size ∧ wr.cell? ⟨bl, off + k, none⟩ = some (.bool (l.getD k false)) := by
  subst hn
  obtain ⟨⟨a', cap', hv', h0, hc⟩, hmax⟩ := h
  rw [hv'] at hv
  simp only [Value.slice.injEq] at hv
  obtain ⟨rfl, -, rfl⟩ := hv
  cases a' with
  | none => exact absurd (h0 rfl) (by omega)
  | some y =>
    obtain ⟨g1, g2, g3⟩ := hc y rfl (by omega)
    obtain ⟨bl, off, sp⟩ := y
    have g1' : sp = none := g1
    subst g1'
    have := g3 k 0 hk (by omega)
    rw [Nat.mul_one, Nat.add_zero] at this
    exact ⟨bl, off, rfl, g2, (hU.cell _ _ g2).trans this⟩
theorem BoolsAt.slice {w : World} {v : Value} {l : List Bool} (h : BoolsAt w v l) : (∃ a cap, v = .slice a l.length cap) ∧ l.length ≤ 9223372036854775807 := by
  obtain ⟨⟨a, cap, hv, _, _⟩, hm⟩ := h
  exact ⟨⟨a, cap, hv⟩, hm⟩
theorem IntsAt.up {w w' : World} {v : Value} {l : List Int} (h : IntsAt w v l) (u : Up w w') : IntsAt w' v l := SlAt.up h u
theorem IntsAt.slice {w : World} {v : Value} {l : List Int} (h : IntsAt w v l) : (∃ a cap, v = .slice a l.length cap) ∧ l.length ≤ 9223372036854775807 := by
  obtain ⟨⟨a, cap, hv, _, _⟩, hm⟩ := h
  exact ⟨⟨a, cap, hv⟩, hm⟩
theorem IntsAt.elem {w wr : World} {v : Value} {l : List Int} (h : IntsAt w v l) (hU : Up w wr) (k : Nat) (hk : k < l.length) {n : Nat} (hn : l.length = n) {a : Option Addr} {cap : Nat} (hv : v = .slice a n cap) :
    ∃ bl off, a = some ⟨bl, off, none⟩ ∧ bl < w.heap.size ∧ wr.cell? ⟨bl, off + k, none⟩ = some (.int .i64 (l.getD k 0)) := by
  subst hn
  obtain ⟨⟨a', cap', hv', h0, hc⟩, hmax⟩ := h
  rw [hv'] at hv
  simp only [Value.slice.injEq] at hv
  obtain ⟨rfl, -, rfl⟩ := hv
  cases a' with
  | none => exact absurd (h0 rfl) (by omega)
  | some y =>
    obtain ⟨g1, g2, g3⟩ := hc y rfl (by omega)
    obtain ⟨bl, off, sp⟩ := y
    have g1' : sp = none := g1
    subst g1'
    have := g3 k 0 hk (by omega)
    rw [Nat.mul_one, Nat.add_zero] at this
    exact ⟨bl, off, rfl, g2, (hU.cell _ _ g2).trans this⟩
theorem intV_get (l : List Int) (i : Nat) (h : i < l.length) : (intV l)[i]? = some (.int .i64 (l.getD i 0)) := by
  simp [intV, List.getD_eq_getElem?_getD, List.getElem?_eq_getElem h]
theorem intV_flat (l : List Int) : flat (fun j _ => .int .i64 (l.getD j 0)) l.length 1 = intV l := by
  rw [flat_one]
  refine List.ext_getElem? fun i => ?_
  by_cases h : i < l.length
  · rw [intV_get l i h, List.getElem?_map, List.getElem?_range h]; rfl
  · rw [List.getElem?_eq_none (by simp; omega), List.getElem?_eq_none (by rw [intV_len]; omega)]
theorem IntsAt.own {w : World} {B n : Nat} {e : TypeId} {v : Value} {l : List Int} (h : w.ownsRow B e 1 v n (intV l)) (hl : l.length = n) (hn : n ≤ 9223372036854775807) : IntsAt w v l := by
  subst hl
  exact SlAt.of_own h hn fun i j hi hj => by
    obtain rfl : j = 0 := by omega
    rw [Nat.mul_one, Nat.add_zero]; exact intV_get l i hi
theorem int_info : (Tryd.prog.info? 3).map (fun i => (i.zero, i.size, i.bytes)) = some (some (.int .i64 0), 1, 8) := by kernel_rfl
theorem bool_info : (Tryd.prog.info? 4).map (fun i => (i.zero, i.size, i.bytes)) = some (some (.bool false), 1, 1) := by kernel_rfl
theorem own_one {w : World} {B : Nat} (hB : B ≤ w.heap.size) (e : TypeId) (u : Value) : (w.alloc (.cells #[u] e)).ownsRow B e 1 (.slice (some ⟨w.heap.size, 0, none⟩) 1 1) 1 [u] :=
  ⟨rfl, .inr ⟨w.heap.size, 1, #[u], rfl, hB, heap_alloc_new w _, by decide, by decide, rfl, rfl⟩⟩
end Go.Proofs.YtbpojmhgifgfdaaDoor
