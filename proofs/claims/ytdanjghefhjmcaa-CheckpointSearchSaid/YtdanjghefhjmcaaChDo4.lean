/-
  One step of a plan's execution (chapter 28, the reference's side): reverse.
-/
import Derived.Test.YtdanjghefhjmcaaChDo
namespace Go.Proofs.Ytdanjghefhjmcaa
open Go.ChangeShapes Go.WideShapes Go.ChangeAt Go.RowKit
set_option linter.unusedVariables false
set_option linter.unusedSimpArgs false

set_option maxHeartbeats 4000000 in
set_option maxRecDepth 100000 in
theorem do_reverse (st : PSt) (at' sl steps : Int) (k : Nat) (sv : Value) (w : World) (hs : SlAt w sv k 1 (rdS st)) (hk : k ≤ 64) (ok : StOk st) (a0 : -9223372036854775808 ≤ at') (a1 : at' ≤ 9223372036854775807) (t1 : steps ≤ 64) :
    Calls Try.prog 28 #[.agg #[.int .i64 st.now, .int .i64 st.left, sv], .int .i64 steps, .agg #[.int .i64 4, .int .i64 at', .int .i64 sl]] w (DoPost w k sv (stepF st 4 at' sl steps k)) := by
  obtain ⟨n0, n1, l0, l1, hh⟩ := ok
  obtain ⟨nw, hn⟩ : ∃ n, st.now = n := ⟨_, rfl⟩
  obtain ⟨lf, hl⟩ : ∃ n, st.left = n := ⟨_, rfl⟩
  rw [hn] at n0 n1
  rw [hl] at l0 l1
  have HS := Lib.hid hs
  obtain ⟨⟨a, cap, rfl, h0, hc⟩, hmax⟩ := hs
  clear h0 hc hh
  have HW : Hid True := Lib.hid trivial
  obtain ⟨rr, hr⟩ : ∃ r, stepF st 4 at' sl steps k = r := ⟨_, rfl⟩
  rw [hr]
  have HR := Lib.hid hr
  clear hr
  rw [hn, hl]
  go_enter Try.func28, Try.ntmps28
  go_wp2
  all_goals try simp only [bne_iff_ne, ne_eq, bne_eq_false_iff_eq, beq_iff_eq, beq_eq_false_iff_ne, decide_eq_true_eq, decide_eq_false_iff_not] at *
  all_goals first
    | (refine bodyPost_ret (v := .tuple #[.agg #[.int .i64 nw, .int .i64 lf, .slice a k cap], .bool false]) (by simp [results, Try.results28, go_sem] <;> omega) rfl ?_
       rw [show rr = (false, st) from HR.out.symm.trans (by rw [stepF, if_neg (by omega), if_neg (by omega), if_neg (by omega), if_pos rfl, if_pos (by have := HW.out; omega)])]
       refine ⟨.slice a k cap, by simp only [hn, hl], HS.out.up ?_, ?_, Or.inl rfl⟩ <;> exact ((((Up.refl w).alloc _).alloc _).alloc _))
    | (refine bodyPost_ret (v := .tuple #[.agg #[.int .i64 nw, .int .i64 (lf - 1), .slice a k cap], .bool true]) (by simp [results, Try.results28, go_sem] <;> omega) rfl ?_
       rw [show rr = (true, { st with left := st.left - 1 }) from HR.out.symm.trans (by rw [stepF, if_neg (by omega), if_neg (by omega), if_neg (by omega), if_pos rfl, if_neg (by have := HW.out; omega)])]
       refine ⟨.slice a k cap, by simp only [hn, hl], HS.out.up ?_, ?_, Or.inl rfl⟩ <;> exact ((((Up.refl w).alloc _).alloc _).alloc _))

end Go.Proofs.Ytdanjghefhjmcaa
