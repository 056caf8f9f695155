/-
  Chapter 50, both sides: jumps, idle, successors. Printed by mkPeA.py.
-/
import Derived.Test.YtbpojmhgifgfdaaDoorPe
import Derived.Test.YtbpojmhgifgfdaaDoorRows
namespace Go.Proofs.YtbpojmhgifgfdaaDoor
open Go.ChangeShapes Go.WideShapes Go.ChangeAt Go.RowKit
set_option linter.unusedVariables false
set_option linter.unusedSimpArgs false

/-- An instruction as a value. -/
abbrev insV (x : Ins) : Value := .agg #[.int .i64 x.1, .int .i64 x.2.1, .int .i64 x.2.2.1, .int .i64 x.2.2.2.1, .int .i64 x.2.2.2.2.1.1, .int .i64 x.2.2.2.2.1.2, .int .i64 x.2.2.2.2.2.1, .int .i64 x.2.2.2.2.2.2.1, .int .i64 x.2.2.2.2.2.2.2.1, .int .i64 x.2.2.2.2.2.2.2.2.1, .int .i64 x.2.2.2.2.2.2.2.2.2]


set_option maxHeartbeats 1000000 in
theorem pe_jumps (op : Int) (e : Bool) (he : jumpsB op = e) (w : World) :
    Calls Tryd.prog 45 #[.int .i64 op] w fun e' w' => e' = .returned (.bool e) ∧ w' = w := by
  have HE := Lib.hid he
  clear he
  go_enter Tryd.func45, Tryd.ntmps45
  go_wp2
  all_goals try simp only [Bool.not_eq_false', Bool.not_eq_true', bne_iff_ne, ne_eq, bne_eq_false_iff_eq, beq_iff_eq, beq_eq_false_iff_ne, decide_eq_true_eq, decide_eq_false_iff_not] at *
  all_goals
    go_ret
    exact ⟨ret_bool (by rw [← HE.out, jumpsB, Bool.eq_iff_iff]; simp; try omega), rfl⟩


set_option maxHeartbeats 1000000 in
theorem r47_Jumps (op : Int) (e : Bool) (he : jumpsB op = e) (w : World) :
    Calls Tryd.prog 31 #[.int .i64 op] w fun e' w' => e' = .returned (.bool e) ∧ w' = w := by
  have HE := Lib.hid he
  clear he
  go_enter Tryd.func31, Tryd.ntmps31
  go_wp2
  all_goals try simp only [Bool.not_eq_false', Bool.not_eq_true', bne_iff_ne, ne_eq, bne_eq_false_iff_eq, beq_iff_eq, beq_eq_false_iff_ne, decide_eq_true_eq, decide_eq_false_iff_not] at *
  all_goals
    go_ret
    exact ⟨ret_bool (by rw [← HE.out, jumpsB, Bool.eq_iff_iff]; simp; try omega), rfl⟩


set_option maxHeartbeats 2000000 in
theorem pe_idle (x : Ins) (i : Int) (hi : 0 ≤ i ∧ i < 9223372036854775807) (e : Bool) (he : idleB x i = e) (w : World) :
    Calls Tryd.prog 44 #[insV x, .int .i64 i] w fun e' w' => e' = .returned (.bool e) ∧ Up w w' := by
  obtain ⟨op, a, b, c, ⟨n, d⟩, k, bi, fr, ro, ov⟩ := x
  have HE := Lib.hid he
  have hV := (Up.refl w).alloc (.cells #[.int .i64 op, .int .i64 a, .int .i64 b, .int .i64 c, .int .i64 n, .int .i64 d, .int .i64 k, .int .i64 bi, .int .i64 fr, .int .i64 ro, .int .i64 ov] 64)
  clear he
  have hw1 : IntKind.i64.wrap (i + 1) = i + 1 := by rw [IntKind.wrap_i64]; omega
  go_enter Tryd.func44, Tryd.ntmps44
  go_wp2
  all_goals try simp only [Bool.not_eq_false', Bool.not_eq_true', bne_iff_ne, ne_eq, bne_eq_false_iff_eq, beq_iff_eq, beq_eq_false_iff_ne, decide_eq_true_eq, decide_eq_false_iff_not] at *
  all_goals
    go_ret
    exact ⟨ret_bool (by rw [← HE.out, idleB, Bool.eq_iff_iff]; simp [*]), (Up.refl w).alloc _⟩


set_option maxHeartbeats 2000000 in
theorem r50_idle (x : Ins) (i : Int) (hi : 0 ≤ i ∧ i < 9223372036854775807) (e : Bool) (he : idleB x i = e) (w : World) :
    Calls Tryd.prog 29 #[insV x, .int .i64 i] w fun e' w' => e' = .returned (.bool e) ∧ Up w w' := by
  obtain ⟨op, a, b, c, ⟨n, d⟩, k, bi, fr, ro, ov⟩ := x
  have HE := Lib.hid he
  have hV := (Up.refl w).alloc (.cells #[.int .i64 op, .int .i64 a, .int .i64 b, .int .i64 c, .int .i64 n, .int .i64 d, .int .i64 k, .int .i64 bi, .int .i64 fr, .int .i64 ro, .int .i64 ov] 64)
  clear he
  have hw1 : IntKind.i64.wrap (i + 1) = i + 1 := by rw [IntKind.wrap_i64]; omega
  go_enter Tryd.func29, Tryd.ntmps29
  go_wp2
  all_goals try simp only [Bool.not_eq_false', Bool.not_eq_true', bne_iff_ne, ne_eq, bne_eq_false_iff_eq, beq_iff_eq, beq_eq_false_iff_ne, decide_eq_true_eq, decide_eq_false_iff_not] at *
  all_goals
    go_ret
    exact ⟨ret_bool (by rw [← HE.out, idleB, Bool.eq_iff_iff]; simp [*]), (Up.refl w).alloc _⟩


theorem SlAt.lay (w : World) (t : TypeId) (cs : Array Value) (n k : Nat) (f : Nat → Nat → Value) (hn : n ≤ 9223372036854775807) (h : ∀ i j, i < n → j < k → cs[i * k + j]? = some (f i j)) :
    SlAt (w.alloc (.cells cs t)) (.slice (some ⟨w.heap.size, 0, none⟩) n n) n k f :=
  ⟨⟨some ⟨w.heap.size, 0, none⟩, n, rfl, (fun e => nomatch e), fun x hx _ => by
    cases hx
    refine ⟨rfl, by simp, fun i j hi hj => ?_⟩
    rw [cell_of_row _ _ _ _ _ _ (heap_alloc_new w _)]
    simp only [Nat.zero_add]
    exact h i j hi hj⟩, hn⟩
theorem cell_up_new {w x : World} {cs : Array Value} {t : TypeId} (h : Up (w.alloc (.cells cs t)) x) (j : Nat) {u : Value} (hu : cs[j]? = some u) : x.cell? ⟨w.heap.size, j, none⟩ = some u :=
  (h.cell _ _ (by simp)).trans ((cell_of_row _ _ _ _ _ _ (heap_alloc_new w _)).trans hu)
theorem ret_v {v : Value} {Q : Value → Prop} (h : Q v) : ∃ u, Ending.returned v = .returned u ∧ Q u := ⟨v, rfl, h⟩
/-- A list of integers in memory. -/
def IntsAt (w : World) (v : Value) (l : List Int) : Prop := SlAt w v l.length 1 (fun j _ => .int .i64 (l.getD j 0))
theorem IntsAt.zero (w : World) : IntsAt w (.slice none 0 0) [] := SlAt.nil _ _ _
theorem IntsAt.one (w : World) (t : TypeId) (a : Int) : IntsAt (w.alloc (.cells #[.int .i64 a] t)) (.slice (some ⟨w.heap.size, 0, none⟩) 1 1) [a] :=
  SlAt.lay w t _ 1 1 _ (by decide) fun i j hi hj => by
    obtain rfl : i = 0 := by omega
    obtain rfl : j = 0 := by omega
    rfl
theorem IntsAt.one' {b : Nat} (w : World) (t : TypeId) (a : Int) (hb : b = w.heap.size) : IntsAt (w.alloc (.cells #[.int .i64 a] t)) (.slice (some ⟨b, 0, none⟩) 1 1) [a] := hb ▸ IntsAt.one w t a
theorem IntsAt.two (w : World) (t : TypeId) (a b : Int) : IntsAt (w.alloc (.cells #[.int .i64 a, .int .i64 b] t)) (.slice (some ⟨w.heap.size, 0, none⟩) 2 2) [a, b] :=
  SlAt.lay w t _ 2 1 _ (by decide) fun i j hi hj => by
    obtain rfl : j = 0 := by omega
    rcases (by omega : i = 0 ∨ i = 1) with rfl | rfl <;> rfl
theorem IntsAt.two' {g : Nat} (w : World) (t : TypeId) (a b : Int) (hb : g = w.heap.size) : IntsAt (w.alloc (.cells #[.int .i64 a, .int .i64 b] t)) (.slice (some ⟨g, 0, none⟩) 2 2) [a, b] := hb ▸ IntsAt.two w t a b

set_option maxHeartbeats 2000000 in
theorem pe_successors (x : Ins) (i : Int) (hi : 0 ≤ i ∧ i < 9223372036854775807) (l : List Int) (hl : succF x i = l) (w : World) :
    Calls Tryd.prog 39 #[insV x, .int .i64 i] w fun e' w' => ∃ v, e' = .returned v ∧ Up w w' ∧ IntsAt w' v l := by
  obtain ⟨op, a, b, c, ⟨n, d⟩, k, bi, fr, ro, ov⟩ := x
  have hw1 : IntKind.i64.wrap (i + 1) = i + 1 := by rw [IntKind.wrap_i64]; omega
  have hV := (Up.refl w).alloc (.cells #[.int .i64 op, .int .i64 a, .int .i64 b, .int .i64 c, .int .i64 n, .int .i64 d, .int .i64 k, .int .i64 bi, .int .i64 fr, .int .i64 ro, .int .i64 ov] 64)
  have HL := Lib.hid hl
  clear hl
  obtain ⟨jj, hj⟩ : ∃ jj, jumpsB op = jj := ⟨_, rfl⟩
  have HJ := Lib.hid hj
  clear hj
  cases jj
  all_goals
    go_enter Tryd.func39, Tryd.ntmps39
    go_wp2_with (go_at_call 45; refine (pe_jumps _ _ HJ.out _).mono ?_; rintro e' x ⟨rfl, rfl⟩)
    all_goals try simp only [Bool.not_eq_false', Bool.not_eq_true', bne_iff_ne, ne_eq, bne_eq_false_iff_eq, beq_iff_eq, beq_eq_false_iff_ne, decide_eq_true_eq, decide_eq_false_iff_not] at *
    all_goals go_ret
    all_goals refine ret_v ⟨?_, ?_⟩
    all_goals first | with_reducible exact hV | with_reducible exact hV.alloc _ | skip
    all_goals have HJ := HJ.out
    all_goals have HL := HL.out
    all_goals simp only [jumpsB] at HJ
    all_goals simp (config := { zetaDelta := false }) only [succF, jumpsB] at HL
    all_goals subst HL
    all_goals simp [*] at HJ
    all_goals simp [*]
    all_goals first | exact IntsAt.zero _ | exact IntsAt.one _ _ _ | exact IntsAt.two _ _ _ _ | exact IntsAt.two' _ _ _ _ (by first | rfl | simp) | exact IntsAt.one' _ _ _ (by first | rfl | simp)

end Go.Proofs.YtbpojmhgifgfdaaDoor
