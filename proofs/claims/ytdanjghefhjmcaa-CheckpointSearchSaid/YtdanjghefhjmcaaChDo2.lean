/-
  One step of a plan's execution (chapter 28, the reference's side): restore. Printed by mkdo2.py.
-/
import Derived.Test.YtdanjghefhjmcaaChDo4
import Derived.Test.YtdanjghefhjmcaaBox
namespace Go.Proofs.Ytdanjghefhjmcaa
open Go.ChangeShapes Go.WideShapes Go.ChangeAt Go.RowKit
set_option linter.unusedVariables false
set_option linter.unusedSimpArgs false


set_option maxHeartbeats 2000000 in
set_option maxRecDepth 100000 in
theorem do_rest_a (st : PSt) (at' sl steps : Int) (k : Nat) (sv : Value) (w : World) (hs : SlAt w sv k 1 (rdS st)) (hk : k ≤ 64) (ok : StOk st) (a0 : -9223372036854775808 ≤ at') (a1 : at' ≤ 9223372036854775807) (t1 : steps ≤ 64) (h : sl = -1) (e2 : at' = 0) :
    Calls Try.prog 28 #[.agg #[.int .i64 st.now, .int .i64 st.left, sv], .int .i64 steps, .agg #[.int .i64 3, .int .i64 at', .int .i64 sl]] w (DoPost w k sv (stepF st 3 at' sl steps k)) := by
  obtain ⟨n0, n1, l0, l1, hh⟩ := ok
  obtain ⟨nw, hn⟩ : ∃ n, st.now = n := ⟨_, rfl⟩
  obtain ⟨lf, hl⟩ : ∃ n, st.left = n := ⟨_, rfl⟩
  rw [hn] at n0 n1
  rw [hl] at l0 l1
  have HS := Lib.hid hs
  obtain ⟨⟨a, cap, rfl, h0, hc⟩, hmax⟩ := hs
  have HH := Lib.hid hh
  clear hh
  obtain ⟨rr, hr⟩ : ∃ r, stepF st 3 at' sl steps k = r := ⟨_, rfl⟩
  rw [hr]
  have HR := Lib.hid hr
  have HNW := Lib.hid hn
  have HLF := Lib.hid hl
  clear hr
  rw [hn, hl]
  subst h
  subst e2
  have HN : Hid (rr = (true, { st with now := 0 })) := Lib.hid (by rw [← HR.out, stepF, if_neg (by omega), if_neg (by omega), if_pos rfl, if_neg (by simp)])
  have h : (-1 : Int) < 0 := by omega
  have hd : decide (0 ≤ (-1 : Int)) = false := rfl
  clear h0 hc
  clear hn hl HR
  go_enter Try.func28, Try.ntmps28
  go_wp2
  go_quiet (fail)
  have hB := box3 w #[.int .i64 nw, .int .i64 lf, Value.slice a k cap] 46 #[.int .i64 3, .int .i64 0, .int .i64 (-1)] 42 #[.int .i64 0, .int .i64 0, .slice none 0 0] 46 nq
  generalize World.drewN _ nq = W1 at hB ⊢
  have c0 : W1.cell? ⟨w.heap.size, 0, none⟩ = some (.int .i64 nw) := cell_of_row _ _ _ _ _ _ hB.a
  have c1 : W1.cell? ⟨w.heap.size, 1, none⟩ = some (.int .i64 lf) := cell_of_row _ _ _ _ _ _ hB.a
  have c2 : W1.cell? ⟨w.heap.size, 2, none⟩ = some (Value.slice a k cap) := cell_of_row _ _ _ _ _ _ hB.a
  have c3 : W1.cell? ⟨w.heap.size + 1, 1, none⟩ = some (.int .i64 0) := cell_of_row _ _ _ _ _ _ hB.b
  have c4 : W1.cell? ⟨w.heap.size + 1 + 1, 0, none⟩ = some (.int .i64 0) := cell_of_row _ _ _ _ _ _ hB.c
  have c7 : W1.cell? ⟨w.heap.size + 1 + 1, 1, none⟩ = some (.int .i64 0) := cell_of_row _ _ _ _ _ _ hB.c
  have c8 : W1.cell? ⟨w.heap.size + 1 + 1, 2, none⟩ = some (.slice none 0 0) := cell_of_row _ _ _ _ _ _ hB.c
  have c5 := fun o => frozen_of_row _ _ o _ _ hB.a
  have c6 := fun o => frozen_of_row _ _ o _ _ hB.c
  have hU := Lib.hid hB.up
  clear hB
  go_wp2
  refine bodyPost_ret (v := .tuple #[.agg #[.int .i64 0, .int .i64 lf, Value.slice a k cap], .bool true]) (by simp [results, Try.results28, go_sem, c4, c7, c8]) rfl ?_
  rw [HN.out]
  refine ⟨Value.slice a k cap, by simp only [HNW.out, HLF.out], HS.out.up ?_, ?_, Or.inl rfl⟩ <;> (repeat (first | exact hU.out | refine Up.alloc ?_ _ | refine Up.drewN _ ?_ | refine Up.drew ?_ | refine Up.setCell ?_ (by simp <;> omega) _))

set_option maxHeartbeats 2000000 in
set_option maxRecDepth 100000 in
theorem do_rest_b (st : PSt) (at' sl steps : Int) (k : Nat) (sv : Value) (w : World) (hs : SlAt w sv k 1 (rdS st)) (hk : k ≤ 64) (ok : StOk st) (a0 : -9223372036854775808 ≤ at') (a1 : at' ≤ 9223372036854775807) (t1 : steps ≤ 64) (h : sl = -1) (e2 : at' ≠ 0) :
    Calls Try.prog 28 #[.agg #[.int .i64 st.now, .int .i64 st.left, sv], .int .i64 steps, .agg #[.int .i64 3, .int .i64 at', .int .i64 sl]] w (DoPost w k sv (stepF st 3 at' sl steps k)) := by
  obtain ⟨n0, n1, l0, l1, hh⟩ := ok
  obtain ⟨nw, hn⟩ : ∃ n, st.now = n := ⟨_, rfl⟩
  obtain ⟨lf, hl⟩ : ∃ n, st.left = n := ⟨_, rfl⟩
  rw [hn] at n0 n1
  rw [hl] at l0 l1
  have HS := Lib.hid hs
  obtain ⟨⟨a, cap, rfl, h0, hc⟩, hmax⟩ := hs
  have HH := Lib.hid hh
  clear hh
  obtain ⟨rr, hr⟩ : ∃ r, stepF st 3 at' sl steps k = r := ⟨_, rfl⟩
  rw [hr]
  have HR := Lib.hid hr
  have HNW := Lib.hid hn
  have HLF := Lib.hid hl
  clear hr
  rw [hn, hl]
  subst h
  have HN : Hid (rr = (false, st)) := Lib.hid (by rw [← HR.out, stepF, if_neg (by omega), if_neg (by omega), if_pos rfl, if_pos (by omega)])
  have t0 : (at' == 0) = false := by simpa using e2
  have h : (-1 : Int) < 0 := by omega
  have hd : decide (0 ≤ (-1 : Int)) = false := rfl
  clear h0 hc
  clear hn hl HR
  go_enter Try.func28, Try.ntmps28
  go_wp2
  go_quiet (fail)
  go_wp2
  refine bodyPost_ret (v := .tuple #[.agg #[.int .i64 nw, .int .i64 lf, Value.slice a k cap], .bool false]) (by simp [results, Try.results28, go_sem]) rfl ?_
  rw [HN.out]
  refine ⟨Value.slice a k cap, by simp only [HNW.out, HLF.out], HS.out.up ?_, ?_, Or.inl rfl⟩ <;> (repeat (first | exact Up.refl _ | refine Up.alloc ?_ _ | refine Up.drewN _ ?_ | refine Up.drew ?_ | refine Up.setCell ?_ (by simp <;> omega) _))

set_option maxHeartbeats 2000000 in
set_option maxRecDepth 100000 in
theorem do_rest_c (st : PSt) (at' sl steps : Int) (k : Nat) (sv : Value) (w : World) (hs : SlAt w sv k 1 (rdS st)) (hk : k ≤ 64) (ok : StOk st) (a0 : -9223372036854775808 ≤ at') (a1 : at' ≤ 9223372036854775807) (t1 : steps ≤ 64) (h : sl < 0) (e1 : sl ≠ -1) :
    Calls Try.prog 28 #[.agg #[.int .i64 st.now, .int .i64 st.left, sv], .int .i64 steps, .agg #[.int .i64 3, .int .i64 at', .int .i64 sl]] w (DoPost w k sv (stepF st 3 at' sl steps k)) := by
  obtain ⟨n0, n1, l0, l1, hh⟩ := ok
  obtain ⟨nw, hn⟩ : ∃ n, st.now = n := ⟨_, rfl⟩
  obtain ⟨lf, hl⟩ : ∃ n, st.left = n := ⟨_, rfl⟩
  rw [hn] at n0 n1
  rw [hl] at l0 l1
  have HS := Lib.hid hs
  obtain ⟨⟨a, cap, rfl, h0, hc⟩, hmax⟩ := hs
  have HH := Lib.hid hh
  clear hh
  obtain ⟨rr, hr⟩ : ∃ r, stepF st 3 at' sl steps k = r := ⟨_, rfl⟩
  rw [hr]
  have HR := Lib.hid hr
  have HNW := Lib.hid hn
  have HLF := Lib.hid hl
  clear hr
  rw [hn, hl]
  have HN : Hid (rr = (false, st)) := Lib.hid (by rw [← HR.out, stepF, if_neg (by omega), if_neg (by omega), if_pos rfl, if_pos (by omega)])
  have t0 : (sl == -1) = false := by simpa using e1
  have hd : decide (0 ≤ sl) = false := by simp; omega
  clear h0 hc
  clear hn hl HR
  go_enter Try.func28, Try.ntmps28
  go_wp2
  go_quiet (fail)
  go_wp2
  refine bodyPost_ret (v := .tuple #[.agg #[.int .i64 nw, .int .i64 lf, Value.slice a k cap], .bool false]) (by simp [results, Try.results28, go_sem]) rfl ?_
  rw [HN.out]
  refine ⟨Value.slice a k cap, by simp only [HNW.out, HLF.out], HS.out.up ?_, ?_, Or.inl rfl⟩ <;> (repeat (first | exact Up.refl _ | refine Up.alloc ?_ _ | refine Up.drewN _ ?_ | refine Up.drew ?_ | refine Up.setCell ?_ (by simp <;> omega) _))

set_option maxHeartbeats 2000000 in
set_option maxRecDepth 100000 in
theorem do_rest_d (st : PSt) (at' sl steps : Int) (k : Nat) (sv : Value) (w : World) (hs : SlAt w sv k 1 (rdS st)) (hk : k ≤ 64) (ok : StOk st) (a0 : -9223372036854775808 ≤ at') (a1 : at' ≤ 9223372036854775807) (t1 : steps ≤ 64) (h : (k : Int) ≤ sl) :
    Calls Try.prog 28 #[.agg #[.int .i64 st.now, .int .i64 st.left, sv], .int .i64 steps, .agg #[.int .i64 3, .int .i64 at', .int .i64 sl]] w (DoPost w k sv (stepF st 3 at' sl steps k)) := by
  obtain ⟨n0, n1, l0, l1, hh⟩ := ok
  obtain ⟨nw, hn⟩ : ∃ n, st.now = n := ⟨_, rfl⟩
  obtain ⟨lf, hl⟩ : ∃ n, st.left = n := ⟨_, rfl⟩
  rw [hn] at n0 n1
  rw [hl] at l0 l1
  have HS := Lib.hid hs
  obtain ⟨⟨a, cap, rfl, h0, hc⟩, hmax⟩ := hs
  have HH := Lib.hid hh
  clear hh
  obtain ⟨rr, hr⟩ : ∃ r, stepF st 3 at' sl steps k = r := ⟨_, rfl⟩
  rw [hr]
  have HR := Lib.hid hr
  have HNW := Lib.hid hn
  have HLF := Lib.hid hl
  clear hr
  rw [hn, hl]
  have HN : Hid (rr = (false, st)) := Lib.hid (by rw [← HR.out, stepF, if_neg (by omega), if_neg (by omega), if_pos rfl, if_pos (by omega)])
  have t0 : (sl == -1) = false := by simp; try omega
  have hd : decide (sl < k) = false := by simp; omega
  have h2 : 0 ≤ sl := by omega
  clear h0 hc
  clear hn hl HR
  go_enter Try.func28, Try.ntmps28
  go_wp2
  go_quiet (fail)
  go_wp2
  refine bodyPost_ret (v := .tuple #[.agg #[.int .i64 nw, .int .i64 lf, Value.slice a k cap], .bool false]) (by simp [results, Try.results28, go_sem]) rfl ?_
  rw [HN.out]
  refine ⟨Value.slice a k cap, by simp only [HNW.out, HLF.out], HS.out.up ?_, ?_, Or.inl rfl⟩ <;> (repeat (first | exact Up.refl _ | refine Up.alloc ?_ _ | refine Up.drewN _ ?_ | refine Up.drew ?_ | refine Up.setCell ?_ (by simp <;> omega) _))

set_option maxHeartbeats 2000000 in
set_option maxRecDepth 100000 in
theorem do_rest_e (st : PSt) (at' sl steps : Int) (k : Nat) (sv : Value) (w : World) (hs : SlAt w sv k 1 (rdS st)) (hk : k ≤ 64) (ok : StOk st) (a0 : -9223372036854775808 ≤ at') (a1 : at' ≤ 9223372036854775807) (t1 : steps ≤ 64) (h : 0 ≤ sl) (h2 : sl < k) :
    Calls Try.prog 28 #[.agg #[.int .i64 st.now, .int .i64 st.left, sv], .int .i64 steps, .agg #[.int .i64 3, .int .i64 at', .int .i64 sl]] w (DoPost w k sv (stepF st 3 at' sl steps k)) := by
  obtain ⟨n0, n1, l0, l1, hh⟩ := ok
  obtain ⟨nw, hn⟩ : ∃ n, st.now = n := ⟨_, rfl⟩
  obtain ⟨lf, hl⟩ : ∃ n, st.left = n := ⟨_, rfl⟩
  rw [hn] at n0 n1
  rw [hl] at l0 l1
  have HS := Lib.hid hs
  obtain ⟨⟨a, cap, rfl, h0, hc⟩, hmax⟩ := hs
  have HH := Lib.hid hh
  clear hh
  obtain ⟨rr, hr⟩ : ∃ r, stepF st 3 at' sl steps k = r := ⟨_, rfl⟩
  rw [hr]
  have HR := Lib.hid hr
  have HNW := Lib.hid hn
  have HLF := Lib.hid hl
  clear hr
  rw [hn, hl]
  obtain ⟨j, rfl⟩ := Int.eq_ofNat_of_zero_le h
  have hj : j < k := by omega
  have hj2 : (j : Int) < 64 := by omega
  obtain ⟨x, rfl⟩ : ∃ x, a = some x := by
    cases a with
    | none => exact absurd (h0 rfl) (by omega)
    | some x => exact ⟨x, rfl⟩
  obtain ⟨g1, g2, g3⟩ := hc x rfl (by omega)
  obtain ⟨bl, off, sp⟩ := x
  have g1' : sp = none := g1
  subst g1'
  obtain ⟨rv, hrv⟩ : ∃ v : Int, (if st.full j = true then st.held j else -1) = v := ⟨_, rfl⟩
  have kc : w.cell? ⟨bl, off + j, none⟩ = some (.int .i64 rv) := by
    have := g3 j 0 hj (by omega)
    rw [Nat.mul_one, Nat.add_zero] at this
    rw [this, rdS, hrv]
  have g2' : bl < w.heap.size := g2
  have z1 : bl < w.heap.size + 1 := by omega
  have z2 : bl < w.heap.size + 1 + 1 := by omega
  have HE : Hid (rr = if rv = at' ∧ 0 ≤ at' then (true, { st with now := at' }) else (false, st)) := Lib.hid (by
    rw [← HR.out, stepF, if_neg (by omega), if_neg (by omega), if_pos rfl]
    have hjn : (j : Int).toNat = j := rfl
    rw [hjn]
    have hh := HH.out j
    by_cases hf : st.full j = true
    · rw [if_pos hf] at hrv
      by_cases hc : rv = at'
      · rw [if_neg (by rw [hf, hrv]; simp; omega), if_pos ⟨hc, by omega⟩]
      · rw [if_pos ⟨by omega, Or.inr (Or.inr (by rw [hrv]; exact hc))⟩, if_neg (fun g => hc g.1)]
    · rw [if_neg hf] at hrv
      rw [if_pos ⟨by omega, Or.inr (Or.inl (by simpa using hf))⟩, if_neg (by omega)])
  clear g3 hc h0 hrv
  have t5 : ((j : Int) == -1) = false := by simp; try omega
  by_cases e1 : rv = at'
  · subst e1
    by_cases e2 : 0 ≤ rv
    · have HN : Hid (rr = (true, { st with now := rv })) := Lib.hid (by rw [HE.out, if_pos ⟨rfl, e2⟩])
      clear HE
      clear hn hl HR
      go_enter Try.func28, Try.ntmps28
      go_wp2
      go_quiet (fail)
      have hB := box3 w #[.int .i64 nw, .int .i64 lf, Value.slice (some ⟨bl, off, none⟩) k cap] 46 #[.int .i64 3, .int .i64 rv, .int .i64 j] 42 #[.int .i64 0, .int .i64 0, .slice none 0 0] 46 nq
      generalize World.drewN _ nq = W1 at hB ⊢
      have c0 : W1.cell? ⟨w.heap.size, 0, none⟩ = some (.int .i64 nw) := cell_of_row _ _ _ _ _ _ hB.a
      have c1 : W1.cell? ⟨w.heap.size, 1, none⟩ = some (.int .i64 lf) := cell_of_row _ _ _ _ _ _ hB.a
      have c2 : W1.cell? ⟨w.heap.size, 2, none⟩ = some (Value.slice (some ⟨bl, off, none⟩) k cap) := cell_of_row _ _ _ _ _ _ hB.a
      have c3 : W1.cell? ⟨w.heap.size + 1, 1, none⟩ = some (.int .i64 rv) := cell_of_row _ _ _ _ _ _ hB.b
      have c4 : W1.cell? ⟨w.heap.size + 1 + 1, 0, none⟩ = some (.int .i64 0) := cell_of_row _ _ _ _ _ _ hB.c
      have c7 : W1.cell? ⟨w.heap.size + 1 + 1, 1, none⟩ = some (.int .i64 0) := cell_of_row _ _ _ _ _ _ hB.c
      have c8 : W1.cell? ⟨w.heap.size + 1 + 1, 2, none⟩ = some (.slice none 0 0) := cell_of_row _ _ _ _ _ _ hB.c
      have c5 := fun o => frozen_of_row _ _ o _ _ hB.a
      have c6 := fun o => frozen_of_row _ _ o _ _ hB.c
      have hU := Lib.hid hB.up
      clear hB
      go_wp2
      refine bodyPost_ret (v := .tuple #[.agg #[.int .i64 rv, .int .i64 lf, Value.slice (some ⟨bl, off, none⟩) k cap], .bool true]) (by simp [results, Try.results28, go_sem, c4, c7, c8]) rfl ?_
      rw [HN.out]
      refine ⟨Value.slice (some ⟨bl, off, none⟩) k cap, by simp only [HNW.out, HLF.out], HS.out.up ?_, ?_, Or.inl rfl⟩ <;> (repeat (first | exact hU.out | refine Up.alloc ?_ _ | refine Up.drewN _ ?_ | refine Up.drew ?_ | refine Up.setCell ?_ (by simp <;> omega) _))
    · have HN : Hid (rr = (false, st)) := Lib.hid (by rw [HE.out, if_neg (fun g => e2 g.2)])
      have t0 : decide (0 ≤ rv) = false := by simpa using e2
      have t3 : rv < 0 := by omega
      clear HE
      clear hn hl HR
      go_enter Try.func28, Try.ntmps28
      go_wp2
      go_quiet (fail)
      go_wp2
      refine bodyPost_ret (v := .tuple #[.agg #[.int .i64 nw, .int .i64 lf, Value.slice (some ⟨bl, off, none⟩) k cap], .bool false]) (by simp [results, Try.results28, go_sem]) rfl ?_
      rw [HN.out]
      refine ⟨Value.slice (some ⟨bl, off, none⟩) k cap, by simp only [HNW.out, HLF.out], HS.out.up ?_, ?_, Or.inl rfl⟩ <;> (repeat (first | exact Up.refl _ | refine Up.alloc ?_ _ | refine Up.drewN _ ?_ | refine Up.drew ?_ | refine Up.setCell ?_ (by simp <;> omega) _))
  · have HN : Hid (rr = (false, st)) := Lib.hid (by rw [HE.out, if_neg (fun g => e1 g.1)])
    have t0 : (rv == at') = false := by simpa using e1
    have t3 : (rv != at') = true := by simpa using e1
    clear HE
    clear hn hl HR
    go_enter Try.func28, Try.ntmps28
    go_wp2
    go_quiet (fail)
    go_wp2
    refine bodyPost_ret (v := .tuple #[.agg #[.int .i64 nw, .int .i64 lf, Value.slice (some ⟨bl, off, none⟩) k cap], .bool false]) (by simp [results, Try.results28, go_sem]) rfl ?_
    rw [HN.out]
    refine ⟨Value.slice (some ⟨bl, off, none⟩) k cap, by simp only [HNW.out, HLF.out], HS.out.up ?_, ?_, Or.inl rfl⟩ <;> (repeat (first | exact Up.refl _ | refine Up.alloc ?_ _ | refine Up.drewN _ ?_ | refine Up.drew ?_ | refine Up.setCell ?_ (by simp <;> omega) _))

theorem do_restore (st : PSt) (at' sl steps : Int) (k : Nat) (sv : Value) (w : World) (hs : SlAt w sv k 1 (rdS st)) (hk : k ≤ 64) (ok : StOk st) (a0 : -9223372036854775808 ≤ at') (a1 : at' ≤ 9223372036854775807) (t1 : steps ≤ 64) :
    Calls Try.prog 28 #[.agg #[.int .i64 st.now, .int .i64 st.left, sv], .int .i64 steps, .agg #[.int .i64 3, .int .i64 at', .int .i64 sl]] w (DoPost w k sv (stepF st 3 at' sl steps k)) := by
  by_cases h : sl = -1
  · by_cases e : at' = 0
    · exact do_rest_a st at' sl steps k sv w hs hk ok a0 a1 t1 h e
    · exact do_rest_b st at' sl steps k sv w hs hk ok a0 a1 t1 h e
  by_cases h1 : sl < 0
  · exact do_rest_c st at' sl steps k sv w hs hk ok a0 a1 t1 h1 h
  by_cases h2 : (k : Int) ≤ sl
  · exact do_rest_d st at' sl steps k sv w hs hk ok a0 a1 t1 h2
  exact do_rest_e st at' sl steps k sv w hs hk ok a0 a1 t1 (by omega) (by omega)
end Go.Proofs.Ytdanjghefhjmcaa
