/-
  Merged by a program (tools/mrg.py): MkS, PeG, PeH.
-/
import Derived.Test.YtbpojmhgifgfdaaDoorMk
import Derived.Test.YtbpojmhgifgfdaaDoorSl
import Derived.Test.YtbpojmhgifgfdaaDoorPeA
import Derived.OwnWalk

section
namespace Go.Proofs.YtbpojmhgifgfdaaDoor
open Go.ChangeShapes Go.WideShapes Go.ChangeAt Go.RowKit
set_option linter.unusedVariables false
set_option linter.unusedSimpArgs false

theorem own_up' {w w' : World} {base n k : Nat} {e : TypeId} {v : Value} {xs : List Value} (h : w.ownsRow base e k v n xs) (u : Up w w') : w'.ownsRow base e k v n xs := by
  refine ⟨h.1, ?_⟩
  rcases h.2 with h0 | ⟨g, cap, cur, hv, hb, hg, hr⟩
  · exact .inl h0
  · exact .inr ⟨g, cap, cur, hv, hb, (u.heap g (Array.getElem?_eq_some_iff.1 hg).1).trans hg, hr⟩
/-- A store into a block of another type leaves the row as it is. -/
theorem own_far {w : World} {base n k b : Nat} {e t : TypeId} {v : Value} {xs : List Value} {cs : Array Value} (h : w.ownsRow base e k v n xs) (hb : w.heap[b]? = some (.cells cs t (0, 0))) (hne : t ≠ e) (o : Nat) (u : Value) : (w.setCell ⟨b, o, none⟩ u).ownsRow base e k v n xs := by
  refine ⟨h.1, ?_⟩
  rcases h.2 with h0 | ⟨g, cap, cur, hv, hb', hg, hr⟩
  · exact .inl h0
  · refine .inr ⟨g, cap, cur, hv, hb', ?_, hr⟩
    have hgb : b ≠ g := fun e => by subst e; rw [hb] at hg; cases hg; exact hne rfl
    simp only [World.setCell, Array.getElem?_modify, hgb, if_false]
    exact hg
theorem set_heap {w : World} {b o : Nat} {cs : Array Value} {t : TypeId} (h : w.heap[b]? = some (.cells cs t (0, 0))) (u : Value) : (w.setCell ⟨b, o, none⟩ u).heap[b]? = some (.cells (cs.setIfInBounds o u) t (0, 0)) := by
  simp [World.setCell, Array.getElem?_modify, h]
theorem own_from {w : World} {base n k : Nat} {e : TypeId} {v : Value} {xs : List Value} (h : w.ownsRow base e k v n xs) (B : Nat) (hB : B ≤ base) : w.ownsRow B e k v n xs := by
  refine ⟨h.1, ?_⟩
  rcases h.2 with h0 | ⟨g, cap, cur, hv, hb, hr⟩
  · exact .inl h0
  · exact .inr ⟨g, cap, cur, hv, by omega, hr⟩

theorem wpMk_append {P : Program} {ops : Array Oper} {w : World} {M : FuncId → Array Value → Value → World → Prop} {L : Act → (World → Prop) → Prop} (hL : AntiS (w := w) L) {o : Oper} {rest : List Oper} {a : Act} {S : World → Prop} (s x : Operand) (t : TypeId)
    (ho : o.op = .call { callee := .builtin .append, args := #[s, x], argTypes := #[t, t] })
    (e : TypeId) (i : TypeInfo) (z : Value) (size bytes : Nat) (ht : P.underlying t = some (.slice e)) (hi : P.info? e = some i) (hz : i.zero = some z)
    (hsize : i.size = size) (hby : i.bytes = bytes) (hzs : z.cells.size = size) (hsz : 0 < size)
    (hs : a.eval s = .slice none 0 0) (xv : Value) (m : Nat) (f : Nat → Nat → Value) (hxv : a.eval x = xv) (hx : SlAt w xv m size f) (h1 : ∀ i j, i < m → j < size → (f i j).oneCell' = true)
    (h63 : m ≤ maxLen) (hbytes : m * bytes ≤ 140737488355328) (hw : Region.wanted o (yielded ops a.tmps) = true)
    (h : ∀ vb vd, (∃ y, Up w y ∧ y.ownsRow w.heap.size e size (.slice vb m vd) m (flat f m size)) → wpMk P ops M w L rest (a.put o.dst (.slice vb m vd)) (fun y => S y ∧ y.ownsRow w.heap.size e size (.slice vb m vd) m (flat f m size))) : wpMk P ops M w L (o :: rest) a S := by
  refine wpMk_any hL (fun v y => y.ownsRow w.heap.size e size v m (flat f m size)) (fun v x y h hu => own_up' h hu) hw (fun y hy => ?_) (fun v hv => ?_)
  · obtain ⟨v', w', hrun, h2, h3, h4, h5⟩ := run_append_sl (P := P) y y.heap.size t o.type e i z size bytes ht hi hz hsize hby hzs hsz (.slice none 0 0) 0 [] (World.ownsRow_nil _ _ _ _) xv m f (hx.up hy) h1 (by omega) (by rw [Nat.zero_add]; exact hbytes) (Nat.le_refl _)
    refine ⟨v', w', ?_, grown_up h3 (fun k hk => by cases hk), ?_⟩
    · unfold execOp
      simp only [ho, resolve, invoke, builtin, Sem.run_bind, Sem.run_pure, Result.andThen_ok, List.map_toArray, List.map_cons, List.map_nil, hs, hxv, hrun]
    · rw [Nat.zero_add, List.nil_append] at h2
      exact own_from h2 _ hy.size
  · obtain ⟨y, hy, hv⟩ := hv
    obtain ⟨vb, vd, rfl⟩ := own_slice hv
    exact h vb vd ⟨y, hy, hv⟩
end Go.Proofs.YtbpojmhgifgfdaaDoor
end

section
namespace Go.Proofs.YtbpojmhgifgfdaaDoor
open Go.ChangeShapes Go.WideShapes Go.ChangeAt Go.RowKit
set_option linter.unusedVariables false
set_option linter.unusedSimpArgs false
set_option maxRecDepth 100000

theorem own_blk {w : World} {base n k : Nat} {e : TypeId} {v : Value} {xs : List Value} (h : w.ownsRow base e k v n xs) : ∀ g, v.ownBlock = some g → g < w.heap.size := fun g hg => by
  rcases h.2 with ⟨rfl, _⟩ | ⟨g', cap, cur, rfl, _, hr, _⟩
  · cases hg
  · cases hg; exact (Array.getElem?_eq_some_iff.1 hr).1
theorem own_base {w : World} {base n k : Nat} {e : TypeId} {v : Value} {xs : List Value} (h : w.ownsRow base e k v n xs) : ∀ g, v.ownBlock = some g → base ≤ g := fun g hg => by
  rcases h.2 with ⟨rfl, _⟩ | ⟨g', cap, cur, rfl, hb, _⟩
  · cases hg
  · cases hg; exact hb
/-- Rows behind one another. -/
theorem flat_snoc {f g h : Nat → Nat → Value} {n k : Nat} (hk : 0 < k) (h1 : ∀ i j, i < n → j < k → h i j = f i j) (h2 : ∀ j, j < k → h n j = g 0 j) : flat f n k ++ flat g 1 k = flat h (n + 1) k := by
  refine List.ext_getElem? fun q => ?_
  have hl1 : (flat f n k).length = n * k := flat_length _ _ _
  have hl2 : (flat h (n + 1) k).length = n * k + k := by rw [flat_length, Nat.add_mul]; omega
  have hl3 : (flat g 1 k).length = k := by rw [flat_length]; omega
  rcases Nat.lt_or_ge q (n * k) with hq | hq
  · rw [List.getElem?_append_left (by rw [hl1]; exact hq)]
    have hi : q / k < n := Nat.div_lt_of_lt_mul (by rw [Nat.mul_comm]; exact hq)
    have hj : q % k < k := Nat.mod_lt _ hk
    have e : q = q / k * k + q % k := by rw [Nat.mul_comm]; exact (Nat.div_add_mod q k).symm
    rw [e, flat_get _ _ _ _ _ hi hj, flat_get _ _ _ _ _ (by omega) hj, h1 _ _ hi hj]
  · rw [List.getElem?_append_right (by rw [hl1]; exact hq), hl1]
    rcases Nat.lt_or_ge (q - n * k) k with hj | hj
    · have e1 : q - n * k = 0 * k + (q - n * k) := by omega
      have e2 : q = n * k + (q - n * k) := by omega
      rw [e1, flat_get _ _ _ _ _ (by omega) hj]
      conv => rhs; rw [e2]
      rw [flat_get _ _ _ _ _ (by omega) hj, h2 _ hj]
    · rw [List.getElem?_eq_none (by omega), List.getElem?_eq_none (by omega)]

theorem ins_info : (Tryd.prog.info? 64).map (fun i => (i.zero, i.size, i.bytes)) = some (some (.agg #[.int .i64 0, .int .i64 0, .int .i64 0, .int .i64 0, .int .i64 0, .int .i64 0, .int .i64 0, .int .i64 0, .int .i64 0, .int .i64 0, .int .i64 0]), 11, 88) := by kernel_rfl
theorem insF_one (l : List Ins) (i j : Nat) : (insF l i j).oneCell' = true := rfl
theorem ins_snoc (ys : List Ins) (x : Ins) : flat (insF ys) ys.length 11 ++ flat (insF [x]) 1 11 = flat (insF (ys ++ [x])) (ys.length + 1) 11 :=
  flat_snoc (by decide) (fun i j hi _ => by
    unfold insF
    rw [List.getD_eq_getElem?_getD, List.getD_eq_getElem?_getD, List.getElem?_append_left hi]) (fun j _ => by
    unfold insF
    rw [List.getD_eq_getElem?_getD, List.getElem?_append_right (Nat.le_refl _), Nat.sub_self]; rfl)
theorem ins_one (w : World) (t : TypeId) (x : Ins) {g : Nat} (hg : g = w.heap.size) : SlAt (w.alloc (.cells #[.int .i64 x.1, .int .i64 x.2.1, .int .i64 x.2.2.1, .int .i64 x.2.2.2.1, .int .i64 x.2.2.2.2.1.1, .int .i64 x.2.2.2.2.1.2, .int .i64 x.2.2.2.2.2.1, .int .i64 x.2.2.2.2.2.2.1, .int .i64 x.2.2.2.2.2.2.2.1, .int .i64 x.2.2.2.2.2.2.2.2.1, .int .i64 x.2.2.2.2.2.2.2.2.2] t)) (.slice (some ⟨g, 0, none⟩) 1 1) 1 11 (insF [x]) :=
  hg ▸ SlAt.lay w t _ 1 11 _ (by decide) fun i j hi hj => by
    obtain rfl : i = 0 := by omega
    rcases (by omega : j = 0 ∨ j = 1 ∨ j = 2 ∨ j = 3 ∨ j = 4 ∨ j = 5 ∨ j = 6 ∨ j = 7 ∨ j = 8 ∨ j = 9 ∨ j = 10) with rfl | rfl | rfl | rfl | rfl | rfl | rfl | rfl | rfl | rfl | rfl <;> rfl
theorem InsAt.of_own {w : World} {base n : Nat} {e : TypeId} {v : Value} {l : List Ins} (h : w.ownsRow base e 11 v n (flat (insF l) n 11)) (hn : l.length = n) (hl : n ≤ 9223372036854775807) (hr : ∀ x ∈ l, InR x) : InsAt w v l := by
  subst hn
  exact ⟨SlAt.of_own h hl fun i j hi hj => flat_get _ _ _ _ _ hi hj, hr⟩
theorem InsAt.nil (w : World) : InsAt w (.slice none 0 0) [] := ⟨SlAt.nil _ _ _, fun x h => by cases h⟩
theorem drop_ins {l : List Ins} {k n : Nat} {x : Ins} (hn : l.length = n) (hk : k < n) (hx : l.getD k i0 = x) : l.drop k = x :: l.drop (k + 1) := by
  subst hn
  rw [List.drop_eq_getElem_cons hk, ← hx, List.getD_eq_getElem?_getD, List.getElem?_eq_getElem hk]; rfl
theorem R64.dec {a i : Int} (h : R64 a) (hi : 0 ≤ i) (hlt : i < a) : IntKind.i64.wrap (a - 1) = a - 1 := by
  obtain ⟨h1, h2⟩ := h
  rw [IntKind.wrap_i64]; omega
theorem InR.dec {x : Ins} {i : Int} (h : InR x) (hi : 0 ≤ i) : InR (decA x i) := by
  unfold decA
  split
  · rename_i hc
    have hc2 : i < x.2.1 := by simp at hc; exact hc.2
    intro j
    obtain ⟨h1, h2⟩ := h 1
    have h1 : -9223372036854775808 ≤ x.2.1 := h1
    have h2 : x.2.1 ≤ 9223372036854775807 := h2
    match j with
    | 0 => exact h 0
    | 1 => exact ⟨(by show -9223372036854775808 ≤ x.2.1 - 1; omega), (by show x.2.1 - 1 ≤ 9223372036854775807; omega)⟩
    | 2 => exact h 2
    | 3 => exact h 3
    | 4 => exact h 4
    | 5 => exact h 5
    | 6 => exact h 6
    | 7 => exact h 7
    | 8 => exact h 8
    | 9 => exact h 9
    | j + 10 => exact h (j + 10)
  · exact h
theorem remG_cons (x : Ins) (r : List Ins) (k i : Int) : remG (x :: r) k i = (if k = i then [] else [decA x i]) ++ remG r (k + 1) i := rfl
end Go.Proofs.YtbpojmhgifgfdaaDoor
end

section
namespace Go.Proofs.YtbpojmhgifgfdaaDoor
open Go.ChangeShapes Go.WideShapes Go.ChangeAt Go.RowKit
set_option linter.unusedVariables false
set_option linter.unusedSimpArgs false

/-- The last element goes. -/
theorem own_pop {w : World} {B m cap : Nat} {e : TypeId} {a : Option Addr} {xs : List Value} {u : Value} (h : w.ownsRow B e 1 (.slice a (m + 1) cap) (m + 1) (xs ++ [u])) : w.ownsRow B e 1 (.slice a m cap) m xs := by
  have hl : xs.length = m := by have := h.1; simp at this; omega
  refine ⟨by omega, ?_⟩
  rcases h.2 with ⟨_, h0⟩ | ⟨g, cap', cur, hv, hb, hg, hnc, hcm, hcs, ht⟩
  · omega
  · cases hv
    refine .inr ⟨g, cap, cur, rfl, hb, hg, by omega, hcm, hcs, ?_⟩
    have : cur.toList.take (m * 1) = (cur.toList.take ((m + 1) * 1)).take m := by rw [List.take_take]; congr 1; omega
    rw [this, ht, List.take_left' hl]
/-- One row grows, a row of another type stays. -/
theorem own_other {w w' : World} {B B' k k' n m : Nat} {e t : TypeId} {v u : Value} {xs ys : List Value} (h : w.ownsRow B e k v n xs) (hu : w.ownsRow B' t k' u m ys) (hne : t ≠ e) (g : w.grownBy w' u.ownBlock) : w'.ownsRow B e k v n xs := by
  refine ⟨h.1, ?_⟩
  rcases h.2 with h0 | ⟨b, cap, cur, hv, hb, hg, hr⟩
  · exact .inl h0
  · refine .inr ⟨b, cap, cur, hv, hb, ?_, hr⟩
    rw [g.block b (Array.getElem?_eq_some_iff.1 hg).1 (fun e' => ?_)]
    · exact hg
    · rcases hu.2 with ⟨rfl, _⟩ | ⟨b', cap', cur', hv', _, hg', _⟩
      · cases e'
      · subst hv'
        have e2 : b = b' := Option.some.inj e'
        subst e2
        rw [hg] at hg'
        cases hg'
        exact hne rfl
/-- A store into a row, and a row of another type. -/
theorem own_mark {w : World} {B B' k k' n m g cap : Nat} {e t : TypeId} {v : Value} {xs ys : List Value} (h : w.ownsRow B e k v n xs) (hu : w.ownsRow B' t k' (.slice (some ⟨g, 0, none⟩) m cap) m ys) (hne : t ≠ e) (o : Nat) (y : Value) : (w.setCell ⟨g, o, none⟩ y).ownsRow B e k v n xs := by
  rcases hu.2 with ⟨hv, _⟩ | ⟨b', cap', cur', hv', _, hg', _⟩
  · cases hv
  · cases hv'
    exact own_far h hg' hne o y

def intV (l : List Int) : List Value := l.map fun x => .int .i64 x
def boolV (l : List Bool) : List Value := l.map fun x => .bool x
theorem intV_app (a b : List Int) : intV (a ++ b) = intV a ++ intV b := List.map_append
theorem intV_len (l : List Int) : (intV l).length = l.length := List.length_map _
theorem boolV_len (l : List Bool) : (boolV l).length = l.length := List.length_map _
theorem boolV_set (l : List Bool) (i : Nat) (b : Bool) : (boolV l).set i (.bool b) = boolV (l.set i b) := by simp [boolV, List.map_set]
theorem boolV_get (l : List Bool) (i : Nat) (d : Bool) (h : i < l.length) : (boolV l)[i]? = some (.bool (l.getD i d)) := by
  simp [boolV, List.getD_eq_getElem?_getD, List.getElem?_eq_getElem h]
theorem boolV_rep (n : Nat) : (madeCells (Value.bool false).cells (n * 1)).toList = boolV (List.replicate n false) := by
  refine List.ext_getElem? fun i => ?_
  simp only [madeCells, boolV, Value.cells]
  by_cases h : i < n
  · simp [h, Nat.mod_one]
  · simp [h]
/-- The marks that are still off, read out of the world. -/
def unW (w : World) (g n : Nat) : Nat := (List.range n).countP fun i => match w.cell? ⟨g, i, none⟩ with | some (.bool false) => true | _ => false
def lenOfV : Value → Nat
  | .slice _ n _ => n
  | _ => 0
theorem unseen_range : ∀ (l : List Bool), unseen l = (List.range l.length).countP fun i => !(l.getD i true)
  | [] => rfl
  | b :: r => by
    have ih := unseen_range r
    unfold unseen at ih ⊢
    rw [List.count_cons, ih, List.length_cons, List.range_succ_eq_map, List.countP_cons, List.countP_map]
    have : ((fun i => !(b :: r).getD i true) ∘ Nat.succ) = fun i => !(r.getD i true) := by funext i; rfl
    rw [this]
    cases b <;> rfl
theorem unW_eq {w : World} {B g n cap : Nat} {e : TypeId} {l : List Bool} (h : w.ownsRow B e 1 (.slice (some ⟨g, 0, none⟩) n cap) n (boolV l)) (hl : l.length = n) : unW w g n = unseen l := by
  subst hl
  rw [unseen_range]
  unfold unW
  refine List.countP_congr fun i hi => ?_
  have hi' := List.mem_range.1 hi
  obtain ⟨g', cap', hv, _, _, _, _, hc⟩ := own_get h (by omega)
  cases hv
  rw [hc i _ (boolV_get l i true hi')]
  cases l.getD i true <;> simp
def BoolsAt (w : World) (v : Value) (l : List Bool) : Prop := SlAt w v l.length 1 (fun j _ => .bool (l.getD j false))
theorem BoolsAt.up {w w' : World} {v : Value} {l : List Bool} (h : BoolsAt w v l) (u : Up w w') : BoolsAt w' v l := SlAt.up h u
theorem BoolsAt.own {w : World} {B n : Nat} {e : TypeId} {v : Value} {l : List Bool} (h : w.ownsRow B e 1 v n (boolV l)) (hl : l.length = n) (hn : n ≤ 9223372036854775807) : BoolsAt w v l := by
  subst hl
  exact SlAt.of_own h hn fun i j hi hj => by
    obtain rfl : j = 0 := by omega
    rw [Nat.mul_one, Nat.add_zero]; exact boolV_get l i false hi
theorem BoolsAt.elem {w wr : World} {v : Value} {l : List Bool} (h : BoolsAt w v l) (hU : Up w wr) (k : Nat) (hk : k < l.length) {n : Nat} (hn : l.length = n) {a : Option Addr} {cap : Nat} (hv : v = .slice a n cap) :
    ∃ bl off, a = some ⟨bl, off, none⟩ ∧ bl < w.heap.size ∧ wr.cell? ⟨bl, off + k, none⟩ = some (.bool (l.getD k false)) := by
  subst hn
  obtain ⟨⟨a', cap', hv', h0, hc⟩, hmax⟩ := h
  rw [hv'] at hv
  simp only [Value.slice.injEq] at hv
  obtain ⟨rfl, -, rfl⟩ := hv
  cases a' with
  | none => exact absurd (h0 rfl) (by omega)
  | some y =>
    obtain ⟨g1, g2, g3⟩ := hc y rfl (by omega)
    obtain ⟨bl, off, sp⟩ := y
    have g1' : sp = none := g1
    subst g1'
    have := g3 k 0 hk (by omega)
    rw [Nat.mul_one, Nat.add_zero] at this
    exact ⟨bl, off, rfl, g2, (hU.cell _ _ g2).trans this⟩
theorem BoolsAt.slice {w : World} {v : Value} {l : List Bool} (h : BoolsAt w v l) : (∃ a cap, v = .slice a l.length cap) ∧ l.length ≤ 9223372036854775807 := by
  obtain ⟨⟨a, cap, hv, _, _⟩, hm⟩ := h
  exact ⟨⟨a, cap, hv⟩, hm⟩
theorem IntsAt.up {w w' : World} {v : Value} {l : List Int} (h : IntsAt w v l) (u : Up w w') : IntsAt w' v l := SlAt.up h u
theorem IntsAt.slice {w : World} {v : Value} {l : List Int} (h : IntsAt w v l) : (∃ a cap, v = .slice a l.length cap) ∧ l.length ≤ 9223372036854775807 := by
  obtain ⟨⟨a, cap, hv, _, _⟩, hm⟩ := h
  exact ⟨⟨a, cap, hv⟩, hm⟩
theorem IntsAt.elem {w wr : World} {v : Value} {l : List Int} (h : IntsAt w v l) (hU : Up w wr) (k : Nat) (hk : k < l.length) {n : Nat} (hn : l.length = n) {a : Option Addr} {cap : Nat} (hv : v = .slice a n cap) :
    ∃ bl off, a = some ⟨bl, off, none⟩ ∧ bl < w.heap.size ∧ wr.cell? ⟨bl, off + k, none⟩ = some (.int .i64 (l.getD k 0)) := by
  subst hn
  obtain ⟨⟨a', cap', hv', h0, hc⟩, hmax⟩ := h
  rw [hv'] at hv
  simp only [Value.slice.injEq] at hv
  obtain ⟨rfl, -, rfl⟩ := hv
  cases a' with
  | none => exact absurd (h0 rfl) (by omega)
  | some y =>
    obtain ⟨g1, g2, g3⟩ := hc y rfl (by omega)
    obtain ⟨bl, off, sp⟩ := y
    have g1' : sp = none := g1
    subst g1'
    have := g3 k 0 hk (by omega)
    rw [Nat.mul_one, Nat.add_zero] at this
    exact ⟨bl, off, rfl, g2, (hU.cell _ _ g2).trans this⟩
theorem intV_get (l : List Int) (i : Nat) (h : i < l.length) : (intV l)[i]? = some (.int .i64 (l.getD i 0)) := by
  simp [intV, List.getD_eq_getElem?_getD, List.getElem?_eq_getElem h]
theorem intV_flat (l : List Int) : flat (fun j _ => .int .i64 (l.getD j 0)) l.length 1 = intV l := by
  rw [flat_one]
  refine List.ext_getElem? fun i => ?_
  by_cases h : i < l.length
  · rw [intV_get l i h, List.getElem?_map, List.getElem?_range h]; rfl
  · rw [List.getElem?_eq_none (by simp; omega), List.getElem?_eq_none (by rw [intV_len]; omega)]
theorem IntsAt.own {w : World} {B n : Nat} {e : TypeId} {v : Value} {l : List Int} (h : w.ownsRow B e 1 v n (intV l)) (hl : l.length = n) (hn : n ≤ 9223372036854775807) : IntsAt w v l := by
  subst hl
  exact SlAt.of_own h hn fun i j hi hj => by
    obtain rfl : j = 0 := by omega
    rw [Nat.mul_one, Nat.add_zero]; exact intV_get l i hi
theorem int_info : (Tryd.prog.info? 3).map (fun i => (i.zero, i.size, i.bytes)) = some (some (.int .i64 0), 1, 8) := by kernel_rfl
theorem bool_info : (Tryd.prog.info? 4).map (fun i => (i.zero, i.size, i.bytes)) = some (some (.bool false), 1, 1) := by kernel_rfl
theorem own_one {w : World} {B : Nat} (hB : B ≤ w.heap.size) (e : TypeId) (u : Value) : (w.alloc (.cells #[u] e)).ownsRow B e 1 (.slice (some ⟨w.heap.size, 0, none⟩) 1 1) 1 [u] :=
  ⟨rfl, .inr ⟨w.heap.size, 1, #[u], rfl, hB, heap_alloc_new w _, by decide, by decide, rfl, rfl⟩⟩
end Go.Proofs.YtbpojmhgifgfdaaDoor
end
