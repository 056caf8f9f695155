/-
  Instructions, types: plain, and how lists of them lie in memory.
-/
import Derived.Test.YtbpojmhgifgfdaaDoorB
import Derived.Test.YtbpojmhgifgfdaaDoorSl
namespace Go.Proofs.YtbpojmhgifgfdaaDoor
open Go.ChangeShapes Go.WideShapes Go.ChangeAt Go.RowKit
set_option linter.unusedVariables false
set_option linter.unusedSimpArgs false

/-- kind, bits, fraction bits, rounding, overflow -/
abbrev Typ := Int × Int × Int × Int × Int
/-- opcode, A, B, C, Val (N, D), Type -/
abbrev Ins := Int × Int × Int × Int × (Int × Int) × Typ
abbrev y0 : Typ := (0, 0, 0, 0, 0)
abbrev i0 : Ins := (0, 0, 0, 0, (0, 0), y0)
def typC (t : Typ) : Nat → Int
  | 0 => t.1
  | 1 => t.2.1
  | 2 => t.2.2.1
  | 3 => t.2.2.2.1
  | _ => t.2.2.2.2
def insC (x : Ins) : Nat → Int
  | 0 => x.1
  | 1 => x.2.1
  | 2 => x.2.2.1
  | 3 => x.2.2.2.1
  | 4 => x.2.2.2.2.1.1
  | 5 => x.2.2.2.2.1.2
  | 6 => x.2.2.2.2.2.1
  | 7 => x.2.2.2.2.2.2.1
  | 8 => x.2.2.2.2.2.2.2.1
  | 9 => x.2.2.2.2.2.2.2.2.1
  | _ => x.2.2.2.2.2.2.2.2.2
def R64 (n : Int) : Prop := -9223372036854775808 ≤ n ∧ n ≤ 9223372036854775807
def InR (x : Ins) : Prop := ∀ j, R64 (insC x j)
def TyR (t : Typ) : Prop := ∀ j, R64 (typC t j)
def insF (l : List Ins) (i j : Nat) : Value := .int .i64 (insC (l.getD i i0) j)
def typF (l : List Typ) (i j : Nat) : Value := .int .i64 (typC (l.getD i y0) j)
def InsAt (w : World) (v : Value) (l : List Ins) : Prop := SlAt w v l.length 11 (insF l) ∧ ∀ x ∈ l, InR x
def TypAt (w : World) (v : Value) (l : List Typ) : Prop := SlAt w v l.length 5 (typF l) ∧ ∀ x ∈ l, TyR x
theorem InsAt.up {w w' : World} {v : Value} {l : List Ins} (h : InsAt w v l) (u : Up w w') : InsAt w' v l := ⟨h.1.up u, h.2⟩
theorem TypAt.up {w w' : World} {v : Value} {l : List Typ} (h : TypAt w v l) (u : Up w w') : TypAt w' v l := ⟨h.1.up u, h.2⟩
theorem InsAt.slice {w : World} {v : Value} {l : List Ins} (h : InsAt w v l) : (∃ a cap, v = .slice a l.length cap) ∧ l.length ≤ 9223372036854775807 := by
  obtain ⟨⟨⟨a, cap, hv, _, _⟩, hm⟩, _⟩ := h
  exact ⟨⟨a, cap, hv⟩, hm⟩
theorem TypAt.slice {w : World} {v : Value} {l : List Typ} (h : TypAt w v l) : (∃ a cap, v = .slice a l.length cap) ∧ l.length ≤ 9223372036854775807 := by
  obtain ⟨⟨⟨a, cap, hv, _, _⟩, hm⟩, _⟩ := h
  exact ⟨⟨a, cap, hv⟩, hm⟩
/-- The cells of an instruction at an address. -/
def InsIn (w : World) (bl o : Nat) (x : Ins) : Prop :=
  w.cell? ⟨bl, o, none⟩ = some (.int .i64 x.1) ∧ w.cell? ⟨bl, o + 1, none⟩ = some (.int .i64 x.2.1) ∧ w.cell? ⟨bl, o + 2, none⟩ = some (.int .i64 x.2.2.1) ∧ w.cell? ⟨bl, o + 3, none⟩ = some (.int .i64 x.2.2.2.1) ∧
  w.cell? ⟨bl, o + 4, none⟩ = some (.int .i64 x.2.2.2.2.1.1) ∧ w.cell? ⟨bl, o + 5, none⟩ = some (.int .i64 x.2.2.2.2.1.2) ∧ w.cell? ⟨bl, o + 6, none⟩ = some (.int .i64 x.2.2.2.2.2.1) ∧ w.cell? ⟨bl, o + 7, none⟩ = some (.int .i64 x.2.2.2.2.2.2.1) ∧
  w.cell? ⟨bl, o + 8, none⟩ = some (.int .i64 x.2.2.2.2.2.2.2.1) ∧ w.cell? ⟨bl, o + 9, none⟩ = some (.int .i64 x.2.2.2.2.2.2.2.2.1) ∧ w.cell? ⟨bl, o + 10, none⟩ = some (.int .i64 x.2.2.2.2.2.2.2.2.2)
theorem InsAt.elem {w wr : World} {v : Value} {l : List Ins} (h : InsAt w v l) (hU : Up w wr) (k : Nat) (hk : k < l.length) {n : Nat} (hn : l.length = n) {a : Option Addr} {cap : Nat} (hv : v = .slice a n cap) {x : Ins} (hx : l.getD k i0 = x) :
    ∃ bl off, a = some ⟨bl, off, none⟩ ∧ bl < w.heap.size ∧ InsIn wr bl (off + k * 11) x ∧ InR x := by
  subst hn
  obtain ⟨⟨⟨a', cap', hv', h0, hc⟩, hmax⟩, hr⟩ := h
  rw [hv'] at hv
  simp only [Value.slice.injEq] at hv
  obtain ⟨rfl, -, rfl⟩ := hv
  cases a' with
  | none => exact absurd (h0 rfl) (by omega)
  | some y =>
    obtain ⟨g1, g2, g3⟩ := hc y rfl (by omega)
    obtain ⟨bl, off, sp⟩ := y
    have g1' : sp = none := g1
    subst g1'
    have g2' : bl < w.heap.size := g2
    have hm : x ∈ l := by
      rw [List.getD_eq_getElem?_getD, List.getElem?_eq_getElem hk] at hx
      exact hx ▸ List.getElem_mem hk
    have key : ∀ j, j < 11 → wr.cell? ⟨bl, off + k * 11 + j, none⟩ = some (.int .i64 (insC x j)) := fun j hj => by
      have := (hU.cell _ _ g2').trans (g3 k j hk hj)
      unfold insF at this
      rw [hx] at this
      exact this
    exact ⟨bl, off, rfl, g2', ⟨key 0 (by omega), key 1 (by omega), key 2 (by omega), key 3 (by omega), key 4 (by omega), key 5 (by omega), key 6 (by omega), key 7 (by omega), key 8 (by omega), key 9 (by omega), key 10 (by omega)⟩, hr x hm⟩
theorem TypAt.elem {w wr : World} {v : Value} {l : List Typ} (h : TypAt w v l) (hU : Up w wr) (k : Nat) (hk : k < l.length) {n : Nat} (hn : l.length = n) {a : Option Addr} {cap : Nat} (hv : v = .slice a n cap) {x : Typ} (hx : l.getD k y0 = x) :
    ∃ bl off, a = some ⟨bl, off, none⟩ ∧ bl < w.heap.size ∧ (wr.cell? ⟨bl, off + k * 5, none⟩ = some (.int .i64 x.1) ∧ wr.cell? ⟨bl, off + k * 5 + 1, none⟩ = some (.int .i64 x.2.1) ∧ wr.cell? ⟨bl, off + k * 5 + 2, none⟩ = some (.int .i64 x.2.2.1) ∧ wr.cell? ⟨bl, off + k * 5 + 3, none⟩ = some (.int .i64 x.2.2.2.1) ∧ wr.cell? ⟨bl, off + k * 5 + 4, none⟩ = some (.int .i64 x.2.2.2.2)) ∧ TyR x := by
  subst hn
  obtain ⟨⟨⟨a', cap', hv', h0, hc⟩, hmax⟩, hr⟩ := h
  rw [hv'] at hv
  simp only [Value.slice.injEq] at hv
  obtain ⟨rfl, -, rfl⟩ := hv
  cases a' with
  | none => exact absurd (h0 rfl) (by omega)
  | some y =>
    obtain ⟨g1, g2, g3⟩ := hc y rfl (by omega)
    obtain ⟨bl, off, sp⟩ := y
    have g1' : sp = none := g1
    subst g1'
    have g2' : bl < w.heap.size := g2
    have hm : x ∈ l := by
      rw [List.getD_eq_getElem?_getD, List.getElem?_eq_getElem hk] at hx
      exact hx ▸ List.getElem_mem hk
    have key : ∀ j, j < 5 → wr.cell? ⟨bl, off + k * 5 + j, none⟩ = some (.int .i64 (typC x j)) := fun j hj => by
      have := (hU.cell _ _ g2').trans (g3 k j hk hj)
      unfold typF at this
      rw [hx] at this
      exact this
    exact ⟨bl, off, rfl, g2', ⟨key 0 (by omega), key 1 (by omega), key 2 (by omega), key 3 (by omega), key 4 (by omega)⟩, hr x hm⟩
theorem InsIn.up {w w' : World} {bl o : Nat} {x : Ins} (h : InsIn w bl o x) (u : Up w w') (hb : bl < w.heap.size) : InsIn w' bl o x := by
  obtain ⟨h0, h1, h2, h3, h4, h5, h6, h7, h8, h9, h10⟩ := h
  exact ⟨(u.cell _ _ hb).trans h0, (u.cell _ _ hb).trans h1, (u.cell _ _ hb).trans h2, (u.cell _ _ hb).trans h3, (u.cell _ _ hb).trans h4, (u.cell _ _ hb).trans h5, (u.cell _ _ hb).trans h6, (u.cell _ _ hb).trans h7, (u.cell _ _ hb).trans h8, (u.cell _ _ hb).trans h9, (u.cell _ _ hb).trans h10⟩

/-! ### Plain functions -/
def jumpsB (op : Int) : Bool := decide (op = 7) || decide (op = 8) || decide (op = 14)
/-- What is pushed behind an instruction: the last is looked at first. -/
def succF (x : Ins) (i : Int) : List Int := (if jumpsB x.1 then [x.2.1] else []) ++ (if x.1 = 0 ∨ x.1 = 7 then [] else [i + 1])
/-- The walk over the instructions that can be reached; the stack's top first. -/
def reachG (l : List Ins) : Nat → List Bool → List Int → List Bool
  | 0, seen, _ => seen
  | _ + 1, seen, [] => seen
  | f + 1, seen, i :: st => if i < 0 ∨ (l.length : Int) ≤ i ∨ seen.getD i.toNat true = true then reachG l f seen st else reachG l f (seen.set i.toNat true) ((succF (l.getD i.toNat i0) i).reverse ++ st)
def reachF (l : List Ins) : List Bool := reachG l (3 * l.length + 1) (List.replicate l.length false) [0]
def unseen (seen : List Bool) : Nat := seen.count false
theorem reachG_nil (l : List Ins) (f : Nat) (seen : List Bool) : reachG l f seen [] = seen := by cases f <;> rfl
theorem reachG_cons (l : List Ins) (f : Nat) (seen : List Bool) (i : Int) (st : List Int) : reachG l (f + 1) seen (i :: st) = if i < 0 ∨ (l.length : Int) ≤ i ∨ seen.getD i.toNat true = true then reachG l f seen st else reachG l f (seen.set i.toNat true) ((succF (l.getD i.toNat i0) i).reverse ++ st) := rfl
theorem succF_len (x : Ins) (i : Int) : (succF x i).length ≤ 2 := by
  unfold succF
  split <;> split <;> simp
theorem unseen_set : ∀ (seen : List Bool) (i : Nat), i < seen.length → seen.getD i true = false → unseen (seen.set i true) + 1 = unseen seen
  | [], i, h, _ => absurd h (by simp)
  | b :: r, 0, _, h => by
    have h : b = false := h
    subst h
    show (true :: r).count false + 1 = (false :: r).count false
    simp
  | b :: r, i + 1, h, hg => by
    have ih := unseen_set r i (by simpa using h) hg
    show (b :: r.set i true).count false + 1 = (b :: r).count false
    unfold unseen at ih
    rw [List.count_cons, List.count_cons]
    omega
/-- The indices of what is not reached. -/
def unF : List Bool → Int → List Int
  | [], _ => []
  | b :: r, i => (if b then [] else [i]) ++ unF r (i + 1)
def unreachF (l : List Ins) : List Int := unF (reachF l) 0
/-- final: follows jumps to jumps; k rounds. -/
def finG (l : List Ins) (t : Int) : Nat → Int → Int
  | 0, at' => if 0 ≤ at' ∧ at' < l.length ∧ (l.getD at'.toNat i0).1 = 7 then t else at'
  | k + 1, at' => if at' < 0 ∨ (l.length : Int) ≤ at' ∨ (l.getD at'.toNat i0).1 ≠ 7 then at' else finG l t k (l.getD at'.toNat i0).2.1
def finF (l : List Ins) (t : Int) : Int := finG l t l.length t
def decA (x : Ins) (i : Int) : Ins := if jumpsB x.1 && decide (i < x.2.1) then (x.1, x.2.1 - 1, x.2.2) else x
/-- remove: the instruction at i goes, targets behind it move. -/
def remG : List Ins → Int → Int → List Ins
  | [], _, _ => []
  | x :: r, k, i => (if k = i then [] else [decA x i]) ++ remG r (k + 1) i
def remF (l : List Ins) (i : Int) : List Ins := remG l 0 i
def idleB (x : Ins) (i : Int) : Bool :=
  if x.1 = 2 then decide (x.2.1 = x.2.2.1) else if x.1 = 4 then decide (x.2.1 = x.2.2.1) && decide (x.2.2.2.1 = 1) else if x.1 = 7 ∨ x.1 = 8 then decide (x.2.1 = i + 1) else false
end Go.Proofs.YtbpojmhgifgfdaaDoor
