/-
  One step of a plan's execution (chapter 28, the reference's side).
-/
import Derived.Test.YtdanjghefhjmcaaChPlan
namespace Go.Proofs.Ytdanjghefhjmcaa
open Go.ChangeShapes Go.WideShapes Go.ChangeAt Go.RowKit
set_option linter.unusedVariables false
set_option linter.unusedSimpArgs false

/-- The slots as the reference reads them. -/
def rdS (st : PSt) (i _j : Nat) : Value := .int .i64 (if st.full i = true then st.held i else -1)
def DoPost (w : World) (k : Nat) (sv0 : Value) (r : Bool × PSt) (e : Ending) (w' : World) : Prop := ∃ sv, e = .returned (.tuple #[.agg #[.int .i64 r.2.now, .int .i64 r.2.left, sv], .bool r.1]) ∧ SlAt w' sv k 1 (rdS r.2) ∧ Up w w' ∧ (sv = sv0 ∨ ∀ x n c, sv = .slice (some x) n c → w.heap.size ≤ x.block)

set_option maxHeartbeats 4000000 in
set_option maxRecDepth 100000 in
theorem do_advance (st : PSt) (at' sl steps : Int) (k : Nat) (sv : Value) (w : World) (hs : SlAt w sv k 1 (rdS st)) (hk : k ≤ 64) (ok : StOk st) (a0 : -9223372036854775808 ≤ at') (a1 : at' ≤ 9223372036854775807) (t1 : steps ≤ 64) :
    Calls Try.prog 28 #[.agg #[.int .i64 st.now, .int .i64 st.left, sv], .int .i64 steps, .agg #[.int .i64 1, .int .i64 at', .int .i64 sl]] w (DoPost w k sv (stepF st 1 at' sl steps k)) := by
  obtain ⟨n0, n1, l0, l1, hh⟩ := ok
  obtain ⟨nw, hn⟩ : ∃ n, st.now = n := ⟨_, rfl⟩
  obtain ⟨lf, hl⟩ : ∃ n, st.left = n := ⟨_, rfl⟩
  rw [hn] at n0 n1
  rw [hl] at l0 l1
  have HS := Lib.hid hs
  obtain ⟨⟨a, cap, rfl, h0, hc⟩, hmax⟩ := hs
  clear h0 hc hh
  have HW : Hid (wrap64 (at' - 1) = nw ↔ at' = nw + 1) := Lib.hid (by unfold wrap64; omega)
  rw [hn, hl]
  go_enter Try.func28, Try.ntmps28
  go_wp2
  all_goals try simp only [bne_iff_ne, ne_eq, bne_eq_false_iff_eq, beq_iff_eq, beq_eq_false_iff_ne, decide_eq_true_eq, decide_eq_false_iff_not] at *
  all_goals first
    | (refine bodyPost_ret (v := .tuple #[.agg #[.int .i64 nw, .int .i64 lf, .slice a k cap], .bool false]) (by simp [results, Try.results28, go_sem]) rfl ?_
       rw [show stepF st 1 at' sl steps k = (false, st) by rw [stepF, if_pos rfl, if_pos (by have := HW.out; omega)]]
       have hU := ((((Up.refl w).alloc (.cells #[.int .i64 nw, .int .i64 lf, .slice a k cap] 46)).alloc (.cells #[.int .i64 1, .int .i64 at', .int .i64 sl] 42)).alloc (.cells #[.int .i64 nw, .int .i64 lf, .slice a k cap] 46))
       exact ⟨.slice a k cap, by simp only [hn, hl], HS.out.up hU, hU, Or.inl rfl⟩)
    | (refine bodyPost_ret (v := .tuple #[.agg #[.int .i64 at', .int .i64 lf, .slice a k cap], .bool true]) (by simp [results, Try.results28, go_sem]) rfl ?_
       rw [show stepF st 1 at' sl steps k = (true, { st with now := at' }) by rw [stepF, if_pos rfl, if_neg (by have := HW.out; omega)]]
       have hU := ((((Up.refl w).alloc (.cells #[.int .i64 at', .int .i64 lf, .slice a k cap] 46)).alloc (.cells #[.int .i64 1, .int .i64 at', .int .i64 sl] 42)).alloc (.cells #[.int .i64 at', .int .i64 lf, .slice a k cap] 46))
       exact ⟨.slice a k cap, by simp only [hn, hl], HS.out.up hU, hU, Or.inl rfl⟩)

set_option maxHeartbeats 4000000 in
set_option maxRecDepth 100000 in
theorem do_other (st : PSt) (op at' sl steps : Int) (k : Nat) (sv : Value) (w : World) (hs : SlAt w sv k 1 (rdS st)) (hk : k ≤ 64) (ok : StOk st) (a0 : -9223372036854775808 ≤ at') (a1 : at' ≤ 9223372036854775807) (t1 : steps ≤ 64) (o1 : op ≠ 1) (o2 : op ≠ 2) (o3 : op ≠ 3) (o4 : op ≠ 4) :
    Calls Try.prog 28 #[.agg #[.int .i64 st.now, .int .i64 st.left, sv], .int .i64 steps, .agg #[.int .i64 op, .int .i64 at', .int .i64 sl]] w (DoPost w k sv (stepF st op at' sl steps k)) := by
  obtain ⟨n0, n1, l0, l1, hh⟩ := ok
  obtain ⟨nw, hn⟩ : ∃ n, st.now = n := ⟨_, rfl⟩
  obtain ⟨lf, hl⟩ : ∃ n, st.left = n := ⟨_, rfl⟩
  rw [hn] at n0 n1
  rw [hl] at l0 l1
  have HS := Lib.hid hs
  obtain ⟨⟨a, cap, rfl, h0, hc⟩, hmax⟩ := hs
  clear h0 hc hh
  have HW : Hid True := Lib.hid trivial
  have p1 : (op == 1) = false := by simpa using o1
  have p2 : (op == 2) = false := by simpa using o2
  have p3 : (op == 3) = false := by simpa using o3
  have p4 : (op == 4) = false := by simpa using o4
  rw [hn, hl]
  go_enter Try.func28, Try.ntmps28
  go_wp2
  all_goals
    refine bodyPost_ret (v := .tuple #[.agg #[.int .i64 nw, .int .i64 lf, .slice a k cap], .bool false]) (by simp [results, Try.results28, go_sem]) rfl ?_
    rw [show stepF st op at' sl steps k = (false, st) by rw [stepF, if_neg o1, if_neg o2, if_neg o3, if_neg o4]]
    have hU := ((((Up.refl w).alloc (.cells #[.int .i64 nw, .int .i64 lf, .slice a k cap] 46)).alloc (.cells #[.int .i64 op, .int .i64 at', .int .i64 sl] 42)).alloc (.cells #[.int .i64 nw, .int .i64 lf, .slice a k cap] 46))
    exact ⟨.slice a k cap, by simp only [hn, hl], HS.out.up hU, hU, Or.inl rfl⟩

end Go.Proofs.Ytdanjghefhjmcaa
