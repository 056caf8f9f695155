/-
  Rows of instructions that grow: general.
-/
import Derived.Test.YtbpojmhgifgfdaaDoorPeA
import Derived.Test.YtbpojmhgifgfdaaDoorMkS
import Derived.OwnWalk
namespace Go.Proofs.YtbpojmhgifgfdaaDoor
open Go.ChangeShapes Go.WideShapes Go.ChangeAt Go.RowKit
set_option linter.unusedVariables false
set_option linter.unusedSimpArgs false
set_option maxRecDepth 100000

theorem own_blk {w : World} {base n k : Nat} {e : TypeId} {v : Value} {xs : List Value} (h : w.ownsRow base e k v n xs) : ∀ g, v.ownBlock = some g → g < w.heap.size := fun g hg => by
  rcases h.2 with ⟨rfl, _⟩ | ⟨g', cap, cur, rfl, _, hr, _⟩
  · cases hg
  · cases hg; exact (Array.getElem?_eq_some_iff.1 hr).1
theorem own_base {w : World} {base n k : Nat} {e : TypeId} {v : Value} {xs : List Value} (h : w.ownsRow base e k v n xs) : ∀ g, v.ownBlock = some g → base ≤ g := fun g hg => by
  rcases h.2 with ⟨rfl, _⟩ | ⟨g', cap, cur, rfl, hb, _⟩
  · cases hg
  · cases hg; exact hb
/-- Rows behind one another. -/
theorem flat_snoc {f g h : Nat → Nat → Value} {n k : Nat} (hk : 0 < k) (h1 : ∀ i j, i < n → j < k → h i j = f i j) (h2 : ∀ j, j < k → h n j = g 0 j) : flat f n k ++ flat g 1 k = flat h (n + 1) k := by
  refine List.ext_getElem? fun q => ?_
  have hl1 : (flat f n k).length = n * k := flat_length _ _ _
  have hl2 : (flat h (n + 1) k).length = n * k + k := by rw [flat_length, Nat.add_mul]; omega
  have hl3 : (flat g 1 k).length = k := by rw [flat_length]; omega
  rcases Nat.lt_or_ge q (n * k) with hq | hq
  · rw [List.getElem?_append_left (by rw [hl1]; exact hq)]
    have hi : q / k < n := Nat.div_lt_of_lt_mul (by rw [Nat.mul_comm]; exact hq)
    have hj : q % k < k := Nat.mod_lt _ hk
    have e : q = q / k * k + q % k := by rw [Nat.mul_comm]; exact (Nat.div_add_mod q k).symm
    rw [e, flat_get _ _ _ _ _ hi hj, flat_get _ _ _ _ _ (by omega) hj, h1 _ _ hi hj]
  · rw [List.getElem?_append_right (by rw [hl1]; exact hq), hl1]
    rcases Nat.lt_or_ge (q - n * k) k with hj | hj
    · have e1 : q - n * k = 0 * k + (q - n * k) := by omega
      have e2 : q = n * k + (q - n * k) := by omega
      rw [e1, flat_get _ _ _ _ _ (by omega) hj]
      conv => rhs; rw [e2]
      rw [flat_get _ _ _ _ _ (by omega) hj, h2 _ hj]
    · rw [List.getElem?_eq_none (by omega), List.getElem?_eq_none (by omega)]

theorem ins_info : (Tryd.prog.info? 64).map (fun i => (i.zero, i.size, i.bytes)) = some (some (.agg #[.int .i64 0, .int .i64 0, .int .i64 0, .int .i64 0, .int .i64 0, .int .i64 0, .int .i64 0, .int .i64 0, .int .i64 0, .int .i64 0, .int .i64 0]), 11, 88) := by kernel_rfl
theorem insF_one (l : List Ins) (i j : Nat) : (insF l i j).oneCell' = true := rfl
theorem ins_snoc (ys : List Ins) (x : Ins) : flat (insF ys) ys.length 11 ++ flat (insF [x]) 1 11 = flat (insF (ys ++ [x])) (ys.length + 1) 11 :=
  flat_snoc (by decide) (fun i j hi _ => by
    unfold insF
    rw [List.getD_eq_getElem?_getD, List.getD_eq_getElem?_getD, List.getElem?_append_left hi]) (fun j _ => by
    unfold insF
    rw [List.getD_eq_getElem?_getD, List.getElem?_append_right (Nat.le_refl _), Nat.sub_self]; rfl)
theorem ins_one (w : World) (t : TypeId) (x : Ins) {g : Nat} (hg : g = w.heap.size) : SlAt (w.alloc (.cells #[.int .i64 x.1, .int .i64 x.2.1, .int .i64 x.2.2.1, .int .i64 x.2.2.2.1, .int .i64 x.2.2.2.2.1.1, .int .i64 x.2.2.2.2.1.2, .int .i64 x.2.2.2.2.2.1, .int .i64 x.2.2.2.2.2.2.1, .int .i64 x.2.2.2.2.2.2.2.1, .int .i64 x.2.2.2.2.2.2.2.2.1, .int .i64 x.2.2.2.2.2.2.2.2.2] t)) (.slice (some ⟨g, 0, none⟩) 1 1) 1 11 (insF [x]) :=
  hg ▸ SlAt.lay w t _ 1 11 _ (by decide) fun i j hi hj => by
    obtain rfl : i = 0 := by omega
    rcases (by omega : j = 0 ∨ j = 1 ∨ j = 2 ∨ j = 3 ∨ j = 4 ∨ j = 5 ∨ j = 6 ∨ j = 7 ∨ j = 8 ∨ j = 9 ∨ j = 10) with rfl | rfl | rfl | rfl | rfl | rfl | rfl | rfl | rfl | rfl | rfl <;> rfl
theorem InsAt.of_own {w : World} {base n : Nat} {e : TypeId} {v : Value} {l : List Ins} (h : w.ownsRow base e 11 v n (flat (insF l) n 11)) (hn : l.length = n) (hl : n ≤ 9223372036854775807) (hr : ∀ x ∈ l, InR x) : InsAt w v l := by
  subst hn
  exact ⟨SlAt.of_own h hl fun i j hi hj => flat_get _ _ _ _ _ hi hj, hr⟩
theorem InsAt.nil (w : World) : InsAt w (.slice none 0 0) [] := ⟨SlAt.nil _ _ _, fun x h => by cases h⟩
theorem drop_ins {l : List Ins} {k n : Nat} {x : Ins} (hn : l.length = n) (hk : k < n) (hx : l.getD k i0 = x) : l.drop k = x :: l.drop (k + 1) := by
  subst hn
  rw [List.drop_eq_getElem_cons hk, ← hx, List.getD_eq_getElem?_getD, List.getElem?_eq_getElem hk]; rfl
theorem R64.dec {a i : Int} (h : R64 a) (hi : 0 ≤ i) (hlt : i < a) : IntKind.i64.wrap (a - 1) = a - 1 := by
  obtain ⟨h1, h2⟩ := h
  rw [IntKind.wrap_i64]; omega
theorem InR.dec {x : Ins} {i : Int} (h : InR x) (hi : 0 ≤ i) : InR (decA x i) := by
  unfold decA
  split
  · rename_i hc
    have hc2 : i < x.2.1 := by simp at hc; exact hc.2
    intro j
    obtain ⟨h1, h2⟩ := h 1
    have h1 : -9223372036854775808 ≤ x.2.1 := h1
    have h2 : x.2.1 ≤ 9223372036854775807 := h2
    match j with
    | 0 => exact h 0
    | 1 => exact ⟨(by show -9223372036854775808 ≤ x.2.1 - 1; omega), (by show x.2.1 - 1 ≤ 9223372036854775807; omega)⟩
    | 2 => exact h 2
    | 3 => exact h 3
    | 4 => exact h 4
    | 5 => exact h 5
    | 6 => exact h 6
    | 7 => exact h 7
    | 8 => exact h 8
    | 9 => exact h 9
    | j + 10 => exact h (j + 10)
  · exact h
theorem remG_cons (x : Ins) (r : List Ins) (k i : Int) : remG (x :: r) k i = (if k = i then [] else [decA x i]) ++ remG r (k + 1) i := rfl
end Go.Proofs.YtbpojmhgifgfdaaDoor
