/-
  One step of a plan's execution (chapter 28, the reference's side): store; and all actions together.
-/
import Derived.Test.YtdanjghefhjmcaaChDo4
import Derived.Test.YtdanjghefhjmcaaBox
namespace Go.Proofs.Ytdanjghefhjmcaa
open Go.ChangeShapes Go.WideShapes Go.ChangeAt Go.RowKit
set_option linter.unusedVariables false
set_option linter.unusedSimpArgs false

theorem int_info : (Try.prog.info? 3).map (fun i => (i.zero, i.size, i.bytes)) = some (some (.int .i64 0), 1, 8) := by kernel_rfl

set_option maxHeartbeats 4000000 in
set_option maxRecDepth 100000 in
theorem do_store (st : PSt) (at' sl steps : Int) (k : Nat) (sv : Value) (w : World) (hs : SlAt w sv k 1 (rdS st)) (hk : k ≤ 64) (ok : StOk st) (a0 : -9223372036854775808 ≤ at') (a1 : at' ≤ 9223372036854775807) (t1 : steps ≤ 64) :
    Calls Try.prog 28 #[.agg #[.int .i64 st.now, .int .i64 st.left, sv], .int .i64 steps, .agg #[.int .i64 2, .int .i64 at', .int .i64 sl]] w (DoPost w k sv (stepF st 2 at' sl steps k)) := by
  obtain ⟨i0, hi0, hz0, hz1, hz2⟩ := info_parts int_info
  obtain ⟨n0, n1, l0, l1, hh⟩ := ok
  obtain ⟨nw, hn⟩ : ∃ n, st.now = n := ⟨_, rfl⟩
  obtain ⟨lf, hl⟩ : ∃ n, st.left = n := ⟨_, rfl⟩
  rw [hn] at n0 n1
  rw [hl] at l0 l1
  have HS := Lib.hid hs
  obtain ⟨⟨a, cap, rfl, h0, hc⟩, hmax⟩ := hs
  clear hh h0 hc
  obtain ⟨rr, hr⟩ : ∃ r, stepF st 2 at' sl steps k = r := ⟨_, rfl⟩
  rw [hr]
  have HR := Lib.hid hr
  clear hr
  rw [hn, hl]
  by_cases e1 : at' = nw
  · subst e1
    rcases (by simp; omega : (sl < 0 ∧ decide (0 ≤ sl) = false) ∨ (0 ≤ sl ∧ sl < k) ∨ (0 ≤ sl ∧ (k : Int) ≤ sl ∧ decide (sl < k) = false)) with ⟨h, hd⟩ | ⟨h, h2⟩ | ⟨h, h2, hd⟩
    rotate_left
    · obtain ⟨j, rfl⟩ := Int.eq_ofNat_of_zero_le h
      have hj : j < k := by omega
      have hj2 : (j : Int) < 64 := by omega
      have HN : Hid (rr = (true, { st with held := fun i => if i = j then at' else st.held i, full := fun i => if i = j then true else st.full i })) := Lib.hid (by
        rw [← HR.out, stepF, if_neg (by omega), if_pos rfl, if_neg (by omega)]; rfl)
      clear HR
      have hin := fun (X : World) => World.ownsRow_made X #[] 0 (base := X.heap.size) (e := 3) (size := 1) (Nat.le_refl _) (by decide) (by simp)
      have hU0 : Up w ((((w.alloc (.cells #[.int .i64 at', .int .i64 lf, .slice a k cap] 46)).alloc (.cells #[.int .i64 2, .int .i64 at', .int .i64 j] 42)).alloc (.cells #[.int .i64 0, .int .i64 0, .slice none 0 0] 46)).alloc (.cells #[] 3)) := (((((Up.refl w).alloc _).alloc _).alloc _).alloc _)
      have hown0 := hin (((w.alloc (.cells #[.int .i64 at', .int .i64 lf, .slice a k cap] 46)).alloc (.cells #[.int .i64 2, .int .i64 at', .int .i64 j] 42)).alloc (.cells #[.int .i64 0, .int .i64 0, .slice none 0 0] 46))
      have hB := box3 w #[.int .i64 at', .int .i64 lf, .slice a k cap] 46 #[.int .i64 2, .int .i64 at', .int .i64 j] 42 #[.int .i64 0, .int .i64 0, .slice none 0 0] 46 0
      have hsz : ((((w.alloc (.cells #[.int .i64 at', .int .i64 lf, .slice a k cap] 46)).alloc (.cells #[.int .i64 2, .int .i64 at', .int .i64 j] 42)).alloc (.cells #[.int .i64 0, .int .i64 0, .slice none 0 0] 46))).heap.size = w.heap.size + 1 + 1 + 1 := by rw [size_alloc, size_alloc, size_alloc]
      rw [hsz] at hown0
      clear hin hsz
      have key : Hid (∀ (v1 : Value) (w1 : World), w1.ownsRow (w.heap.size + 1 + 1 + 1) 3 1 v1 (0 + k) ([] ++ flat (rdS st) k 1) → ((((w.alloc (.cells #[.int .i64 at', .int .i64 lf, .slice a k cap] 46)).alloc (.cells #[.int .i64 2, .int .i64 at', .int .i64 j] 42)).alloc (.cells #[.int .i64 0, .int .i64 0, .slice none 0 0] 46)).alloc (.cells #[] 3)).grownBy w1 (some (w.heap.size + 1 + 1 + 1)) →
          ∃ g gc, v1 = .slice (some ⟨g, 0, none⟩) k gc ∧ w1.cell? ⟨w.heap.size, 0, none⟩ = some (.int .i64 at') ∧ w1.cell? ⟨w.heap.size, 1, none⟩ = some (.int .i64 lf) ∧ w1.cell? ⟨w.heap.size, 2, none⟩ = some (.slice a k cap) ∧ w1.cell? ⟨w.heap.size + 1, 1, none⟩ = some (.int .i64 at') ∧ w1.cell? ⟨w.heap.size + 1, 2, none⟩ = some (.int .i64 j) ∧ w1.cell? ⟨w.heap.size + 1 + 1, 0, none⟩ = some (.int .i64 0) ∧ w1.cell? ⟨w.heap.size + 1 + 1, 1, none⟩ = some (.int .i64 0) ∧ w1.cell? ⟨w.heap.size + 1 + 1, 2, none⟩ = some (.slice none 0 0) ∧
            (∀ o, w1.frozen? ⟨w.heap.size, o, none⟩ = false) ∧ (∀ o, w1.frozen? ⟨w.heap.size + 1 + 1, o, none⟩ = false) ∧ w1.cell? ⟨g, j, none⟩ = some (rdS st j 0) ∧ (∀ o, w1.frozen? ⟨g, o, none⟩ = false) ∧
            (g = w.heap.size) = False ∧ (g = w.heap.size + 1) = False ∧ (g = w.heap.size + 1 + 1) = False ∧ (w.heap.size = g) = False ∧ (w.heap.size + 1 = g) = False ∧ (w.heap.size + 1 + 1 = g) = False ∧ Hid (w.heap.size ≤ g ∧ Up w w1) ∧ Hid (w1.ownsRow (w.heap.size + 1 + 1 + 1) 3 1 (.slice (some ⟨g, 0, none⟩) k gc) k (flat (rdS st) k 1))) := Lib.hid (by
        intro v1 w1 hown1 hgrow1
        rw [Nat.zero_add, List.nil_append] at hown1
        obtain ⟨g, gc, rfl, hg1, hg2, hg3, hg4, hg5⟩ := own_get hown1 (by omega)
        have hB1 := (hB.ups ((Up.refl _).alloc (.cells #[] 3))).grown hgrow1 (by intro k hk; cases hk; omega)
        refine ⟨g, gc, rfl, cell_of_row _ _ _ _ _ _ hB1.a, cell_of_row _ _ _ _ _ _ hB1.a, cell_of_row _ _ _ _ _ _ hB1.a, cell_of_row _ _ _ _ _ _ hB1.b, cell_of_row _ _ _ _ _ _ hB1.b, cell_of_row _ _ _ _ _ _ hB1.c, cell_of_row _ _ _ _ _ _ hB1.c, cell_of_row _ _ _ _ _ _ hB1.c, fun o => frozen_of_row _ _ o _ _ hB1.a, fun o => frozen_of_row _ _ o _ _ hB1.c, hg5 j _ ?_, hg4, ?_, ?_, ?_, ?_, ?_, ?_, Lib.hid ⟨by omega, hB1.up⟩, Lib.hid hown1⟩
        · have := flat_get (rdS st) k 1 j 0 hj (by omega); simpa using this
        all_goals (simp; omega))
      clear hB
      go_enter Try.func28, Try.ntmps28
      go_wp2_with (at_builtin; refine wpList_append_sl _ rfl _ _ 27 rfl (w.heap.size + 1 + 1 + 1) 3 i0 (.int .i64 0) 1 8 Try.underlying27 hi0 hz0 hz1 hz2 rfl (by decide) (.slice (some ⟨w.heap.size + 1 + 1 + 1, 0, none⟩) 0 0) 0 [] rfl hown0 (.slice a k cap) k (rdS st) rfl (HS.out.up hU0) (fun i j _ _ => rfl) (by unfold maxLen; omega) (by omega) (by simp) ?_; intro v1 w1 hown1 hgrow1 hat1 hnil1; obtain ⟨g, gc, rfl, c0, c1, c2, c3, c4, c5, c6, c7, z0, z1, cg, hg4, n0', n1', n2', m0', m1', m2', HU1, HO1⟩ := key.out v1 w1 hown1 hgrow1; clear hgrow1 hat1 hnil1 hown1 hown0 hU0)
      all_goals
        refine bodyPost_ret (v := .tuple #[.agg #[.int .i64 at', .int .i64 lf, .slice (some ⟨g, 0, none⟩) k gc], .bool true]) (by simp [results, Try.results28, go_sem, c5, c6, c7, n0', n1', n2', m0', m1', m2']) rfl ?_
        have hfin := own_set HO1.out j (by rw [flat_length]; omega) (.int .i64 at')
        have hU1 : Up w (w1.setCell ⟨g, j, none⟩ (.int .i64 at')) := HU1.out.2.setCell HU1.out.1 _
        rw [HN.out]
        refine ⟨.slice (some ⟨g, 0, none⟩) k gc, by simp only [hn, hl], SlAt.of_own (base := w.heap.size + 1 + 1 + 1) (e := 3) (xs := (flat (rdS st) k 1).set j (.int .i64 at')) ?_ (by omega) (fun i q hi hq => ?_), ?_, Or.inr (fun x n c hx => by cases hx; exact HU1.out.1)⟩
        · repeat (first | exact hfin | refine ownsRow_setCell_other ?_ (by simp [Value.ownBlock, n0', n2']) _)
        · obtain rfl : q = 0 := by omega
          rw [Nat.mul_one, Nat.add_zero, List.getElem?_set]
          by_cases e : j = i
          · subst e
            rw [if_pos rfl, if_pos (by rw [flat_length]; omega)]
            simp [rdS]
          · rw [if_neg e]
            have := flat_get (rdS st) k 1 i 0 hi (by omega)
            rw [Nat.mul_one, Nat.add_zero] at this
            rw [this]
            simp [rdS, Ne.symm e]
        · repeat (first | exact hU1 | refine Up.setCell ?_ (by simp <;> omega) _)
    all_goals
      have HN : Hid (rr = (false, st)) := Lib.hid (by rw [← HR.out, stepF, if_neg (by omega), if_pos rfl, if_pos (by omega)])
      clear HR
      go_enter Try.func28, Try.ntmps28
      go_wp2
      refine bodyPost_ret (v := .tuple #[.agg #[.int .i64 at', .int .i64 lf, .slice a k cap], .bool false]) (by simp [results, Try.results28, go_sem]) rfl ?_
      rw [HN.out]
      refine ⟨.slice a k cap, by simp only [hn, hl], HS.out.up ?_, ?_, Or.inl rfl⟩ <;> (repeat (first | exact Up.refl _ | refine Up.alloc ?_ _ | refine Up.drewN _ ?_ | refine Up.drew ?_ | refine Up.setCell ?_ (by simp <;> omega) _))
  · have HN : Hid (rr = (false, st)) := Lib.hid (by rw [← HR.out, stepF, if_neg (by omega), if_pos rfl, if_pos (by omega)])
    have t0 : (at' != nw) = true := by simpa using e1
    have t1 : (at' == nw) = false := by simpa using e1
    clear HR
    rcases (by simp; omega : (sl < 0 ∧ decide (0 ≤ sl) = false) ∨ (0 ≤ sl ∧ sl < k) ∨ (0 ≤ sl ∧ (k : Int) ≤ sl ∧ decide (sl < k) = false)) with ⟨h, hd⟩ | ⟨h, h2⟩ | ⟨h, h2, hd⟩
    all_goals
      go_enter Try.func28, Try.ntmps28
      go_wp2
      refine bodyPost_ret (v := .tuple #[.agg #[.int .i64 nw, .int .i64 lf, .slice a k cap], .bool false]) (by simp [results, Try.results28, go_sem]) rfl ?_
      rw [HN.out]
      refine ⟨.slice a k cap, by simp only [hn, hl], HS.out.up ?_, ?_, Or.inl rfl⟩ <;> (repeat (first | exact Up.refl _ | refine Up.alloc ?_ _ | refine Up.drewN _ ?_ | refine Up.drew ?_ | refine Up.setCell ?_ (by simp <;> omega) _))

end Go.Proofs.Ytdanjghefhjmcaa
