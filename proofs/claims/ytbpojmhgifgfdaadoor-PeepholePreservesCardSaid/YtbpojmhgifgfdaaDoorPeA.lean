/-
  Merged by a program (tools/mrg.py): Pe, PeA.
-/
import Derived.Test.YtbpojmhgifgfdaaDoorM
import Derived.Test.YtbpojmhgifgfdaaDoorSl
import Derived.Test.YtbpojmhgifgfdaaDoorRows

section
namespace Go.Proofs.YtbpojmhgifgfdaaDoor
open Go.ChangeShapes Go.WideShapes Go.ChangeAt Go.RowKit
set_option linter.unusedVariables false
set_option linter.unusedSimpArgs false

/-- kind, bits, fraction bits, rounding, overflow -/
abbrev Typ := Int × Int × Int × Int × Int
/-- opcode, A, B, C, Val (N, D), Type -/
abbrev Ins := Int × Int × Int × Int × (Int × Int) × Typ
abbrev y0 : Typ := (0, 0, 0, 0, 0)
abbrev i0 : Ins := (0, 0, 0, 0, (0, 0), y0)
def typC (t : Typ) : Nat → Int
  | 0 => t.1
  | 1 => t.2.1
  | 2 => t.2.2.1
  | 3 => t.2.2.2.1
  | _ => t.2.2.2.2
def insC (x : Ins) : Nat → Int
  | 0 => x.1
  | 1 => x.2.1
  | 2 => x.2.2.1
  | 3 => x.2.2.2.1
  | 4 => x.2.2.2.2.1.1
  | 5 => x.2.2.2.2.1.2
  | 6 => x.2.2.2.2.2.1
  | 7 => x.2.2.2.2.2.2.1
  | 8 => x.2.2.2.2.2.2.2.1
  | 9 => x.2.2.2.2.2.2.2.2.1
  | _ => x.2.2.2.2.2.2.2.2.2
def R64 (n : Int) : Prop := -9223372036854775808 ≤ n ∧ n ≤ 9223372036854775807
def InR (x : Ins) : Prop := ∀ j, R64 (insC x j)
def TyR (t : Typ) : Prop := ∀ j, R64 (typC t j)
def insF (l : List Ins) (i j : Nat) : Value := .int .i64 (insC (l.getD i i0) j)
def typF (l : List Typ) (i j : Nat) : Value := .int .i64 (typC (l.getD i y0) j)
def InsAt (w : World) (v : Value) (l : List Ins) : Prop := SlAt w v l.length 11 (insF l) ∧ ∀ x ∈ l, InR x
def TypAt (w : World) (v : Value) (l : List Typ) : Prop := SlAt w v l.length 5 (typF l) ∧ ∀ x ∈ l, TyR x
theorem InsAt.up {w w' : World} {v : Value} {l : List Ins} (h : InsAt w v l) (u : Up w w') : InsAt w' v l := ⟨h.1.up u, h.2⟩
theorem TypAt.up {w w' : World} {v : Value} {l : List Typ} (h : TypAt w v l) (u : Up w w') : TypAt w' v l := ⟨h.1.up u, h.2⟩
theorem InsAt.slice {w : World} {v : Value} {l : List Ins} (h : InsAt w v l) : (∃ a cap, v = .slice a l.length cap) ∧ l.length ≤ 9223372036854775807 := by
  obtain ⟨⟨⟨a, cap, hv, _, _⟩, hm⟩, _⟩ := h
  exact ⟨⟨a, cap, hv⟩, hm⟩
theorem TypAt.slice {w : World} {v : Value} {l : List Typ} (h : TypAt w v l) : (∃ a cap, v = .slice a l.length cap) ∧ l.length ≤ 9223372036854775807 := by
  obtain ⟨⟨⟨a, cap, hv, _, _⟩, hm⟩, _⟩ := h
  exact ⟨⟨a, cap, hv⟩, hm⟩
/-- The cells of an instruction at an address. -/
def InsIn (w : World) (bl o : Nat) (x : Ins) : Prop :=
  w.cell? ⟨bl, o, none⟩ = some (.int .i64 x.1) ∧ w.cell? ⟨bl, o + 1, none⟩ = some (.int .i64 x.2.1) ∧ w.cell? ⟨bl, o + 2, none⟩ = some (.int .i64 x.2.2.1) ∧ w.cell? ⟨bl, o + 3, none⟩ = some (.int .i64 x.2.2.2.1) ∧
  w.cell? ⟨bl, o + 4, none⟩ = some (.int .i64 x.2.2.2.2.1.1) ∧ w.cell? ⟨bl, o + 5, none⟩ = some (.int .i64 x.2.2.2.2.1.2) ∧ w.cell? ⟨bl, o + 6, none⟩ = some (.int .i64 x.2.2.2.2.2.1) ∧ w.cell? ⟨bl, o + 7, none⟩ = some (.int .i64 x.2.2.2.2.2.2.1) ∧
  w.cell? ⟨bl, o + 8, none⟩ = some (.int .i64 x.2.2.2.2.2.2.2.1) ∧ w.cell? ⟨bl, o + 9, none⟩ = some (.int .i64 x.2.2.2.2.2.2.2.2.1) ∧ w.cell? ⟨bl, o + 10, none⟩ = some (.int .i64 x.2.2.2.2.2.2.2.2.2)
theorem InsAt.elem {w wr : World} {v : Value} {l : List Ins} (h : InsAt w v l) (hU : Up w wr) (k : Nat) (hk : k < l.length) {n : Nat} (hn : l.length = n) {a : Option Addr} {cap : Nat} (hv : v = .slice a n cap) {x : Ins} (hx : l.getD k i0 = x) :
    ∃ bl off, a = some ⟨bl, off, none⟩ ∧ bl < w.heap.size ∧ InsIn wr bl (off + k * 11) x ∧ InR x := by
  subst hn
  obtain ⟨⟨⟨a', cap', hv', h0, hc⟩, hmax⟩, hr⟩ := h
  rw [hv'] at hv
  simp only [Value.slice.injEq] at hv
  obtain ⟨rfl, -, rfl⟩ := hv
  cases a' with
  | none => exact absurd (h0 rfl) (by omega)
  | some y =>
    obtain ⟨g1, g2, g3⟩ := hc y rfl (by omega)
    obtain ⟨bl, off, sp⟩ := y
    have g1' : sp = none := g1
    subst g1'
    have g2' : bl < w.heap.size := g2
    have hm : x ∈ l := by
      rw [List.getD_eq_getElem?_getD, List.getElem?_eq_getElem hk] at hx
      exact hx ▸ List.getElem_mem hk
    have key : ∀ j, j < 11 → wr.cell? ⟨bl, off + k * 11 + j, none⟩ = some (.int .i64 (insC x j)) := fun j hj => by
      have := (hU.cell _ _ g2').trans (g3 k j hk hj)
      unfold insF at this
      rw [hx] at this
      exact this
    exact ⟨bl, off, rfl, g2', ⟨key 0 (by omega), key 1 (by omega), key 2 (by omega), key 3 (by omega), key 4 (by omega), key 5 (by omega), key 6 (by omega), key 7 (by omega), key 8 (by omega), key 9 (by omega), key 10 (by omega)⟩, hr x hm⟩
theorem TypAt.elem {w wr : World} {v : Value} {l : List Typ} (h : TypAt w v l) (hU : Up w wr) (k : Nat) (hk : k < l.length) {n : Nat} (hn : l.length = n) {a : Option Addr} {cap : Nat} (hv : v = .slice a n cap) {x : Typ} (hx : l.getD k y0 = x) :
    ∃ bl off, a = some ⟨bl, off, none⟩ ∧ bl < w.heap.size ∧ (wr.cell? ⟨bl, off + k * 5, none⟩ = some (.int .i64 x.1) ∧ wr.cell? ⟨bl, off + k * 5 + 1, none⟩ = some (.int .i64 x.2.1) ∧ wr.cell? ⟨bl, off + k * 5 + 2, none⟩ = some (.int .i64 x.2.2.1) ∧ wr.cell? ⟨bl, off + k * 5 + 3, none⟩ = some (.int .i64 x.2.2.2.1) ∧ wr.cell? ⟨bl, off + k * 5 + 4, none⟩ = some (.int .i64 x.2.2.2.2)) ∧ TyR x := by
  subst hn
  obtain ⟨⟨⟨a', cap', hv', h0, hc⟩, hmax⟩, hr⟩ := h
  rw [hv'] at hv
  simp only [Value.slice.injEq] at hv
  obtain ⟨rfl, -, rfl⟩ := hv
  cases a' with
  | none => exact absurd (h0 rfl) (by omega)
  | some y =>
    obtain ⟨g1, g2, g3⟩ := hc y rfl (by omega)
    obtain ⟨bl, off, sp⟩ := y
    have g1' : sp = none := g1
    subst g1'
    have g2' : bl < w.heap.size := g2
    have hm : x ∈ l := by
      rw [List.getD_eq_getElem?_getD, List.getElem?_eq_getElem hk] at hx
      exact hx ▸ List.getElem_mem hk
    have key : ∀ j, j < 5 → wr.cell? ⟨bl, off + k * 5 + j, none⟩ = some (.int .i64 (typC x j)) := fun j hj => by
      have := (hU.cell _ _ g2').trans (g3 k j hk hj)
      unfold typF at this
      rw [hx] at this
      exact this
    exact ⟨bl, off, rfl, g2', ⟨key 0 (by omega), key 1 (by omega), key 2 (by omega), key 3 (by omega), key 4 (by omega)⟩, hr x hm⟩
theorem InsIn.up {w w' : World} {bl o : Nat} {x : Ins} (h : InsIn w bl o x) (u : Up w w') (hb : bl < w.heap.size) : InsIn w' bl o x := by
  obtain ⟨h0, h1, h2, h3, h4, h5, h6, h7, h8, h9, h10⟩ := h
  exact ⟨(u.cell _ _ hb).trans h0, (u.cell _ _ hb).trans h1, (u.cell _ _ hb).trans h2, (u.cell _ _ hb).trans h3, (u.cell _ _ hb).trans h4, (u.cell _ _ hb).trans h5, (u.cell _ _ hb).trans h6, (u.cell _ _ hb).trans h7, (u.cell _ _ hb).trans h8, (u.cell _ _ hb).trans h9, (u.cell _ _ hb).trans h10⟩

/-! ### Plain functions -/
def jumpsB (op : Int) : Bool := decide (op = 7) || decide (op = 8) || decide (op = 14)
/-- What is pushed behind an instruction: the last is looked at first. -/
def succF (x : Ins) (i : Int) : List Int := (if jumpsB x.1 then [x.2.1] else []) ++ (if x.1 = 0 ∨ x.1 = 7 then [] else [i + 1])
/-- The walk over the instructions that can be reached; the stack's top first. -/
def reachG (l : List Ins) : Nat → List Bool → List Int → List Bool
  | 0, seen, _ => seen
  | _ + 1, seen, [] => seen
  | f + 1, seen, i :: st => if i < 0 ∨ (l.length : Int) ≤ i ∨ seen.getD i.toNat true = true then reachG l f seen st else reachG l f (seen.set i.toNat true) ((succF (l.getD i.toNat i0) i).reverse ++ st)
def reachF (l : List Ins) : List Bool := reachG l (3 * l.length + 1) (List.replicate l.length false) [0]
def unseen (seen : List Bool) : Nat := seen.count false
theorem reachG_nil (l : List Ins) (f : Nat) (seen : List Bool) : reachG l f seen [] = seen := by cases f <;> rfl
theorem reachG_cons (l : List Ins) (f : Nat) (seen : List Bool) (i : Int) (st : List Int) : reachG l (f + 1) seen (i :: st) = if i < 0 ∨ (l.length : Int) ≤ i ∨ seen.getD i.toNat true = true then reachG l f seen st else reachG l f (seen.set i.toNat true) ((succF (l.getD i.toNat i0) i).reverse ++ st) := rfl
theorem succF_len (x : Ins) (i : Int) : (succF x i).length ≤ 2 := by
  unfold succF
  split <;> split <;> simp
theorem unseen_set : ∀ (seen : List Bool) (i : Nat), i < seen.length → seen.getD i true = false → unseen (seen.set i true) + 1 = unseen seen
  | [], i, h, _ => absurd h (by simp)
  | b :: r, 0, _, h => by
    have h : b = false := h
    subst h
    show (true :: r).count false + 1 = (false :: r).count false
    simp
  | b :: r, i + 1, h, hg => by
    have ih := unseen_set r i (by simpa using h) hg
    show (b :: r.set i true).count false + 1 = (b :: r).count false
    unfold unseen at ih
    rw [List.count_cons, List.count_cons]
    omega
/-- The indices of what is not reached. -/
def unF : List Bool → Int → List Int
  | [], _ => []
  | b :: r, i => (if b then [] else [i]) ++ unF r (i + 1)
def unreachF (l : List Ins) : List Int := unF (reachF l) 0
/-- final: follows jumps to jumps; k rounds. -/
def finG (l : List Ins) (t : Int) : Nat → Int → Int
  | 0, at' => if 0 ≤ at' ∧ at' < l.length ∧ (l.getD at'.toNat i0).1 = 7 then t else at'
  | k + 1, at' => if at' < 0 ∨ (l.length : Int) ≤ at' ∨ (l.getD at'.toNat i0).1 ≠ 7 then at' else finG l t k (l.getD at'.toNat i0).2.1
def finF (l : List Ins) (t : Int) : Int := finG l t l.length t
def decA (x : Ins) (i : Int) : Ins := if jumpsB x.1 && decide (i < x.2.1) then (x.1, x.2.1 - 1, x.2.2) else x
/-- remove: the instruction at i goes, targets behind it move. -/
def remG : List Ins → Int → Int → List Ins
  | [], _, _ => []
  | x :: r, k, i => (if k = i then [] else [decA x i]) ++ remG r (k + 1) i
def remF (l : List Ins) (i : Int) : List Ins := remG l 0 i
def idleB (x : Ins) (i : Int) : Bool :=
  if x.1 = 2 then decide (x.2.1 = x.2.2.1) else if x.1 = 4 then decide (x.2.1 = x.2.2.1) && decide (x.2.2.2.1 = 1) else if x.1 = 7 ∨ x.1 = 8 then decide (x.2.1 = i + 1) else false
end Go.Proofs.YtbpojmhgifgfdaaDoor
end

section
namespace Go.Proofs.YtbpojmhgifgfdaaDoor
open Go.ChangeShapes Go.WideShapes Go.ChangeAt Go.RowKit
set_option linter.unusedVariables false
set_option linter.unusedSimpArgs false

/-- An instruction as a value. -/
abbrev insV (x : Ins) : Value := .agg #[.int .i64 x.1, .int .i64 x.2.1, .int .i64 x.2.2.1, .int .i64 x.2.2.2.1, .int .i64 x.2.2.2.2.1.1, .int .i64 x.2.2.2.2.1.2, .int .i64 x.2.2.2.2.2.1, .int .i64 x.2.2.2.2.2.2.1, .int .i64 x.2.2.2.2.2.2.2.1, .int .i64 x.2.2.2.2.2.2.2.2.1, .int .i64 x.2.2.2.2.2.2.2.2.2]


set_option maxHeartbeats 1000000 in
theorem pe_jumps (op : Int) (e : Bool) (he : jumpsB op = e) (w : World) :
    Calls Tryd.prog 45 #[.int .i64 op] w fun e' w' => e' = .returned (.bool e) ∧ w' = w := by
  have HE := Lib.hid he
  clear he
  go_enter Tryd.func45, Tryd.ntmps45
  go_wp2
  all_goals try simp only [Bool.not_eq_false', Bool.not_eq_true', bne_iff_ne, ne_eq, bne_eq_false_iff_eq, beq_iff_eq, beq_eq_false_iff_ne, decide_eq_true_eq, decide_eq_false_iff_not] at *
  all_goals
    go_ret
    exact ⟨ret_bool (by rw [← HE.out, jumpsB, Bool.eq_iff_iff]; simp; try omega), rfl⟩


set_option maxHeartbeats 1000000 in
theorem r47_Jumps (op : Int) (e : Bool) (he : jumpsB op = e) (w : World) :
    Calls Tryd.prog 31 #[.int .i64 op] w fun e' w' => e' = .returned (.bool e) ∧ w' = w := by
  have HE := Lib.hid he
  clear he
  go_enter Tryd.func31, Tryd.ntmps31
  go_wp2
  all_goals try simp only [Bool.not_eq_false', Bool.not_eq_true', bne_iff_ne, ne_eq, bne_eq_false_iff_eq, beq_iff_eq, beq_eq_false_iff_ne, decide_eq_true_eq, decide_eq_false_iff_not] at *
  all_goals
    go_ret
    exact ⟨ret_bool (by rw [← HE.out, jumpsB, Bool.eq_iff_iff]; simp; try omega), rfl⟩


set_option maxHeartbeats 2000000 in
theorem pe_idle (x : Ins) (i : Int) (hi : 0 ≤ i ∧ i < 9223372036854775807) (e : Bool) (he : idleB x i = e) (w : World) :
    Calls Tryd.prog 44 #[insV x, .int .i64 i] w fun e' w' => e' = .returned (.bool e) ∧ Up w w' := by
  obtain ⟨op, a, b, c, ⟨n, d⟩, k, bi, fr, ro, ov⟩ := x
  have HE := Lib.hid he
  have hV := (Up.refl w).alloc (.cells #[.int .i64 op, .int .i64 a, .int .i64 b, .int .i64 c, .int .i64 n, .int .i64 d, .int .i64 k, .int .i64 bi, .int .i64 fr, .int .i64 ro, .int .i64 ov] 64)
  clear he
  have hw1 : IntKind.i64.wrap (i + 1) = i + 1 := by rw [IntKind.wrap_i64]; omega
  go_enter Tryd.func44, Tryd.ntmps44
  go_wp2
  all_goals try simp only [Bool.not_eq_false', Bool.not_eq_true', bne_iff_ne, ne_eq, bne_eq_false_iff_eq, beq_iff_eq, beq_eq_false_iff_ne, decide_eq_true_eq, decide_eq_false_iff_not] at *
  all_goals
    go_ret
    exact ⟨ret_bool (by rw [← HE.out, idleB, Bool.eq_iff_iff]; simp [*]), (Up.refl w).alloc _⟩


set_option maxHeartbeats 2000000 in
theorem r50_idle (x : Ins) (i : Int) (hi : 0 ≤ i ∧ i < 9223372036854775807) (e : Bool) (he : idleB x i = e) (w : World) :
    Calls Tryd.prog 29 #[insV x, .int .i64 i] w fun e' w' => e' = .returned (.bool e) ∧ Up w w' := by
  obtain ⟨op, a, b, c, ⟨n, d⟩, k, bi, fr, ro, ov⟩ := x
  have HE := Lib.hid he
  have hV := (Up.refl w).alloc (.cells #[.int .i64 op, .int .i64 a, .int .i64 b, .int .i64 c, .int .i64 n, .int .i64 d, .int .i64 k, .int .i64 bi, .int .i64 fr, .int .i64 ro, .int .i64 ov] 64)
  clear he
  have hw1 : IntKind.i64.wrap (i + 1) = i + 1 := by rw [IntKind.wrap_i64]; omega
  go_enter Tryd.func29, Tryd.ntmps29
  go_wp2
  all_goals try simp only [Bool.not_eq_false', Bool.not_eq_true', bne_iff_ne, ne_eq, bne_eq_false_iff_eq, beq_iff_eq, beq_eq_false_iff_ne, decide_eq_true_eq, decide_eq_false_iff_not] at *
  all_goals
    go_ret
    exact ⟨ret_bool (by rw [← HE.out, idleB, Bool.eq_iff_iff]; simp [*]), (Up.refl w).alloc _⟩


theorem SlAt.lay (w : World) (t : TypeId) (cs : Array Value) (n k : Nat) (f : Nat → Nat → Value) (hn : n ≤ 9223372036854775807) (h : ∀ i j, i < n → j < k → cs[i * k + j]? = some (f i j)) :
    SlAt (w.alloc (.cells cs t)) (.slice (some ⟨w.heap.size, 0, none⟩) n n) n k f :=
  ⟨⟨some ⟨w.heap.size, 0, none⟩, n, rfl, (fun e => nomatch e), fun x hx _ => by
    cases hx
    refine ⟨rfl, by simp, fun i j hi hj => ?_⟩
    rw [cell_of_row _ _ _ _ _ _ (heap_alloc_new w _)]
    simp only [Nat.zero_add]
    exact h i j hi hj⟩, hn⟩
theorem cell_up_new {w x : World} {cs : Array Value} {t : TypeId} (h : Up (w.alloc (.cells cs t)) x) (j : Nat) {u : Value} (hu : cs[j]? = some u) : x.cell? ⟨w.heap.size, j, none⟩ = some u :=
  (h.cell _ _ (by simp)).trans ((cell_of_row _ _ _ _ _ _ (heap_alloc_new w _)).trans hu)
theorem ret_v {v : Value} {Q : Value → Prop} (h : Q v) : ∃ u, Ending.returned v = .returned u ∧ Q u := ⟨v, rfl, h⟩
/-- A list of integers in memory. -/
def IntsAt (w : World) (v : Value) (l : List Int) : Prop := SlAt w v l.length 1 (fun j _ => .int .i64 (l.getD j 0))
theorem IntsAt.zero (w : World) : IntsAt w (.slice none 0 0) [] := SlAt.nil _ _ _
theorem IntsAt.one (w : World) (t : TypeId) (a : Int) : IntsAt (w.alloc (.cells #[.int .i64 a] t)) (.slice (some ⟨w.heap.size, 0, none⟩) 1 1) [a] :=
  SlAt.lay w t _ 1 1 _ (by decide) fun i j hi hj => by
    obtain rfl : i = 0 := by omega
    obtain rfl : j = 0 := by omega
    rfl
theorem IntsAt.one' {b : Nat} (w : World) (t : TypeId) (a : Int) (hb : b = w.heap.size) : IntsAt (w.alloc (.cells #[.int .i64 a] t)) (.slice (some ⟨b, 0, none⟩) 1 1) [a] := hb ▸ IntsAt.one w t a
theorem IntsAt.two (w : World) (t : TypeId) (a b : Int) : IntsAt (w.alloc (.cells #[.int .i64 a, .int .i64 b] t)) (.slice (some ⟨w.heap.size, 0, none⟩) 2 2) [a, b] :=
  SlAt.lay w t _ 2 1 _ (by decide) fun i j hi hj => by
    obtain rfl : j = 0 := by omega
    rcases (by omega : i = 0 ∨ i = 1) with rfl | rfl <;> rfl
theorem IntsAt.two' {g : Nat} (w : World) (t : TypeId) (a b : Int) (hb : g = w.heap.size) : IntsAt (w.alloc (.cells #[.int .i64 a, .int .i64 b] t)) (.slice (some ⟨g, 0, none⟩) 2 2) [a, b] := hb ▸ IntsAt.two w t a b

set_option maxHeartbeats 2000000 in
theorem pe_successors (x : Ins) (i : Int) (hi : 0 ≤ i ∧ i < 9223372036854775807) (l : List Int) (hl : succF x i = l) (w : World) :
    Calls Tryd.prog 39 #[insV x, .int .i64 i] w fun e' w' => ∃ v, e' = .returned v ∧ Up w w' ∧ IntsAt w' v l := by
  obtain ⟨op, a, b, c, ⟨n, d⟩, k, bi, fr, ro, ov⟩ := x
  have hw1 : IntKind.i64.wrap (i + 1) = i + 1 := by rw [IntKind.wrap_i64]; omega
  have hV := (Up.refl w).alloc (.cells #[.int .i64 op, .int .i64 a, .int .i64 b, .int .i64 c, .int .i64 n, .int .i64 d, .int .i64 k, .int .i64 bi, .int .i64 fr, .int .i64 ro, .int .i64 ov] 64)
  have HL := Lib.hid hl
  clear hl
  obtain ⟨jj, hj⟩ : ∃ jj, jumpsB op = jj := ⟨_, rfl⟩
  have HJ := Lib.hid hj
  clear hj
  cases jj
  all_goals
    go_enter Tryd.func39, Tryd.ntmps39
    go_wp2_with (go_at_call 45; refine (pe_jumps _ _ HJ.out _).mono ?_; rintro e' x ⟨rfl, rfl⟩)
    all_goals try simp only [Bool.not_eq_false', Bool.not_eq_true', bne_iff_ne, ne_eq, bne_eq_false_iff_eq, beq_iff_eq, beq_eq_false_iff_ne, decide_eq_true_eq, decide_eq_false_iff_not] at *
    all_goals go_ret
    all_goals refine ret_v ⟨?_, ?_⟩
    all_goals first | with_reducible exact hV | with_reducible exact hV.alloc _ | skip
    all_goals have HJ := HJ.out
    all_goals have HL := HL.out
    all_goals simp only [jumpsB] at HJ
    all_goals simp (config := { zetaDelta := false }) only [succF, jumpsB] at HL
    all_goals subst HL
    all_goals simp [*] at HJ
    all_goals simp [*]
    all_goals first | exact IntsAt.zero _ | exact IntsAt.one _ _ _ | exact IntsAt.two _ _ _ _ | exact IntsAt.two' _ _ _ _ (by first | rfl | simp) | exact IntsAt.one' _ _ _ (by first | rfl | simp)

end Go.Proofs.YtbpojmhgifgfdaaDoor
end
