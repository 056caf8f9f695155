/-
  One step of a plan's execution (chapter 28, the program's side). Printed by mkstep.py.
-/
import Derived.Test.YtdanjghefhjmcaaChSt
namespace Go.Proofs.Ytdanjghefhjmcaa
open Go.ChangeShapes Go.WideShapes Go.ChangeAt Go.RowKit
set_option linter.unusedVariables false

set_option maxHeartbeats 4000000 in
set_option maxRecDepth 100000 in
theorem step_advance (b : Nat) (st : PSt) (at' sl steps slots : Int) (w : World) (hs : StAt w b st) (n0 : 0 ≤ st.now) (n1 : st.now ≤ 64) (l0 : 0 ≤ st.left) (l1 : st.left ≤ 64) (s1 : slots ≤ 64) :
    Calls Try.prog 30 #[.pointer (some ⟨b, 0, none⟩), .agg #[.int .i64 1, .int .i64 at', .int .i64 sl], .int .i64 steps, .int .i64 slots] w (StepPost b st w (stepF st 1 at' sl steps slots)) := by
  have hlt := hs.lt
  have c0 := hs.now
  have c1 := hs.left
  have z0 := hs.froz 0
  have z1 := hs.froz 1
  have hA := (hs.up ((Up.refl w).alloc (.cells #[.int .i64 1, .int .i64 at', .int .i64 sl] 42)))
  have hU := ((Up.refl w).alloc (.cells #[.int .i64 1, .int .i64 at', .int .i64 sl] 42))
  obtain ⟨nw, hn⟩ : ∃ n, st.now = n := ⟨_, rfl⟩
  obtain ⟨lf, hl⟩ : ∃ n, st.left = n := ⟨_, rfl⟩
  rw [hn] at n0 n1 c0
  rw [hl] at l0 l1 c1

  rcases (by omega : (sl < 0 ∧ sl ≠ 0) ∨ ((0 ≤ sl ∧ sl < slots) ∧ sl ≠ 0) ∨ ((0 ≤ sl ∧ slots ≤ sl) ∧ sl ≠ 0) ∨ (sl = 0 ∧ 0 < slots) ∨ (sl = 0 ∧ slots ≤ 0)) with ⟨h, h0⟩ | ⟨⟨h, h2⟩, h0⟩ | ⟨⟨h, h2⟩, h0⟩ | ⟨rfl, h⟩ | ⟨rfl, h⟩
  iterate 3
    · have HN : Hid (stepF st 1 at' sl steps slots = (false, st)) := Lib.hid (by rw [stepF, if_pos rfl, if_pos (Or.inl h0)])
      have t0 : (sl != 0) = true := by simpa using h0
      have t1 : (sl == 0) = false := by simpa using h0
      go_enter Try.func30, Try.ntmps30
      go_wp2
      go_quiet (fail)
      go_wp2
      go_ret
      rw [HN.out]
      exact ⟨rfl, hA.up ((Up.refl _).drewN _), (hU.drewN _).but b⟩
  all_goals
    by_cases e1 : at' = nw + 1
    · subst e1
      by_cases e2 : nw + 1 ≤ steps
      · have HN : Hid (stepF st 1 (nw + 1) 0 steps slots = (true, { st with now := nw + 1 })) := Lib.hid (by rw [stepF, if_pos rfl, hn, if_neg (by omega)])
        clear hn hl
        go_enter Try.func30, Try.ntmps30
        go_wp2
        go_quiet (fail)
        go_wp2
        go_ret
        rw [HN.out]
        exact ⟨rfl, StAt.setNow (hA.up ((Up.refl _).drewN _)) _, ((hU.drewN _).but b).setCell _ _ _⟩
      · have e3 : steps < nw + 1 := by omega
        have HN : Hid (stepF st 1 (nw + 1) 0 steps slots = (false, st)) := Lib.hid (by rw [stepF, if_pos rfl, hn, if_pos (by omega)])
        clear hn hl
        go_enter Try.func30, Try.ntmps30
        go_wp2
        go_quiet (fail)
        go_wp2
        go_ret
        rw [HN.out]
        exact ⟨rfl, hA.up ((Up.refl _).drewN _), (hU.drewN _).but b⟩
    · have HN : Hid (stepF st 1 at' 0 steps slots = (false, st)) := Lib.hid (by rw [stepF, if_pos rfl, hn, if_pos (by omega)])
      have t0 : (at' != nw + 1) = true := by simpa using e1
      have t1 : (at' == nw + 1) = false := by simpa using e1
      clear hn hl
      go_enter Try.func30, Try.ntmps30
      go_wp2
      go_quiet (fail)
      go_wp2
      go_ret
      rw [HN.out]
      exact ⟨rfl, hA.up ((Up.refl _).drewN _), (hU.drewN _).but b⟩

set_option maxHeartbeats 4000000 in
set_option maxRecDepth 100000 in
theorem step_store (b : Nat) (st : PSt) (at' sl steps slots : Int) (w : World) (hs : StAt w b st) (n0 : 0 ≤ st.now) (n1 : st.now ≤ 64) (l0 : 0 ≤ st.left) (l1 : st.left ≤ 64) (s1 : slots ≤ 64) :
    Calls Try.prog 30 #[.pointer (some ⟨b, 0, none⟩), .agg #[.int .i64 2, .int .i64 at', .int .i64 sl], .int .i64 steps, .int .i64 slots] w (StepPost b st w (stepF st 2 at' sl steps slots)) := by
  have hlt := hs.lt
  have c0 := hs.now
  have c1 := hs.left
  have z0 := hs.froz 0
  have z1 := hs.froz 1
  have hA := (hs.up ((Up.refl w).alloc (.cells #[.int .i64 2, .int .i64 at', .int .i64 sl] 42)))
  have hU := ((Up.refl w).alloc (.cells #[.int .i64 2, .int .i64 at', .int .i64 sl] 42))
  obtain ⟨nw, hn⟩ : ∃ n, st.now = n := ⟨_, rfl⟩
  obtain ⟨lf, hl⟩ : ∃ n, st.left = n := ⟨_, rfl⟩
  rw [hn] at n0 n1 c0
  rw [hl] at l0 l1 c1

  rcases (by simp; omega : (sl < 0 ∧ decide (0 ≤ sl) = false) ∨ (0 ≤ sl ∧ sl < slots) ∨ (0 ≤ sl ∧ slots ≤ sl ∧ decide (sl < slots) = false)) with ⟨h, hd⟩ | ⟨h, h2⟩ | ⟨h, h2, hd⟩
  all_goals by_cases e1 : at' = nw
  · subst e1
    have HN : Hid (stepF st 2 at' sl steps slots = (false, st)) := Lib.hid (by rw [stepF, if_neg (by omega), if_pos rfl, hn, if_pos (by omega)])
    clear hn hl
    go_enter Try.func30, Try.ntmps30
    go_wp2
    go_quiet (fail)
    go_wp2
    go_ret
    rw [HN.out]
    exact ⟨rfl, hA.up ((Up.refl _).drewN _), (hU.drewN _).but b⟩
  rotate_left
  · subst e1
    obtain ⟨j, rfl⟩ := Int.eq_ofNat_of_zero_le h
    have hj : j < 64 := by omega
    have cH := hs.held j hj
    have cF := hs.full j hj
    have zH := hs.froz (2 + j)
    have zF := hs.froz (66 + j)
    have hj2 : (j : Int) < 64 := by omega
    have HN : Hid (stepF st 2 at' j steps slots = (true, { st with held := fun i => if i = j then at' else st.held i, full := fun i => if i = j then true else st.full i })) := Lib.hid (by
      rw [stepF, if_neg (by omega), if_pos rfl, hn, if_neg (by omega)]; rfl)
    clear hn hl
    go_enter Try.func30, Try.ntmps30
    go_wp2
    go_quiet (fail)
    go_wp2
    go_region
    go_wp2
    go_ret
    rw [HN.out]
    exact ⟨rfl, StAt.setFull (StAt.setHeld (hA.up ((Up.refl _).drewN _)) j hj _) j hj _, (((hU.drewN _).but b).setCell _ _ _).setCell _ _ _⟩
  rotate_left
  · subst e1
    have HN : Hid (stepF st 2 at' sl steps slots = (false, st)) := Lib.hid (by rw [stepF, if_neg (by omega), if_pos rfl, hn, if_pos (by omega)])
    clear hn hl
    go_enter Try.func30, Try.ntmps30
    go_wp2
    go_quiet (fail)
    go_wp2
    go_ret
    rw [HN.out]
    exact ⟨rfl, hA.up ((Up.refl _).drewN _), (hU.drewN _).but b⟩
  all_goals
    have HN : Hid (stepF st 2 at' sl steps slots = (false, st)) := Lib.hid (by rw [stepF, if_neg (by omega), if_pos rfl, hn, if_pos (Or.inl e1)])
    have t0 : (at' != nw) = true := by simpa using e1
    have t1 : (at' == nw) = false := by simpa using e1
    clear hn hl
    go_enter Try.func30, Try.ntmps30
    go_wp2
    go_quiet (fail)
    go_wp2
    go_ret
    rw [HN.out]
    exact ⟨rfl, hA.up ((Up.refl _).drewN _), (hU.drewN _).but b⟩

set_option maxHeartbeats 4000000 in
set_option maxRecDepth 100000 in
theorem step_restore (b : Nat) (st : PSt) (at' sl steps slots : Int) (w : World) (hs : StAt w b st) (n0 : 0 ≤ st.now) (n1 : st.now ≤ 64) (l0 : 0 ≤ st.left) (l1 : st.left ≤ 64) (s1 : slots ≤ 64) :
    Calls Try.prog 30 #[.pointer (some ⟨b, 0, none⟩), .agg #[.int .i64 3, .int .i64 at', .int .i64 sl], .int .i64 steps, .int .i64 slots] w (StepPost b st w (stepF st 3 at' sl steps slots)) := by
  have hlt := hs.lt
  have c0 := hs.now
  have c1 := hs.left
  have z0 := hs.froz 0
  have z1 := hs.froz 1
  have hA := (hs.up ((Up.refl w).alloc (.cells #[.int .i64 3, .int .i64 at', .int .i64 sl] 42)))
  have hU := ((Up.refl w).alloc (.cells #[.int .i64 3, .int .i64 at', .int .i64 sl] 42))
  obtain ⟨nw, hn⟩ : ∃ n, st.now = n := ⟨_, rfl⟩
  obtain ⟨lf, hl⟩ : ∃ n, st.left = n := ⟨_, rfl⟩
  rw [hn] at n0 n1 c0
  rw [hl] at l0 l1 c1

  rcases (by simp; omega : (sl < 0 ∧ decide (0 ≤ sl) = false) ∨ (0 ≤ sl ∧ sl < slots) ∨ (0 ≤ sl ∧ slots ≤ sl ∧ decide (sl < slots) = false)) with ⟨h, hd⟩ | ⟨h, h2⟩ | ⟨h, h2, hd⟩
  · by_cases e1 : sl = -1
    · subst e1
      by_cases e2 : at' = 0
      · subst e2
        have HN : Hid (stepF st 3 0 (-1) steps slots = (true, { st with now := 0 })) := Lib.hid (by rw [stepF, if_neg (by omega), if_neg (by omega), if_pos rfl, if_neg (by simp)])
        clear hn hl
        go_enter Try.func30, Try.ntmps30
        go_wp2
        go_quiet (fail)
        go_wp2
        go_ret
        rw [HN.out]
        exact ⟨rfl, StAt.setNow (hA.up ((Up.refl _).drewN _)) _, ((hU.drewN _).but b).setCell _ _ _⟩
      · have HN : Hid (stepF st 3 at' (-1) steps slots = (false, st)) := Lib.hid (by rw [stepF, if_neg (by omega), if_neg (by omega), if_pos rfl, if_pos (by omega)])
        have t0 : (at' == 0) = false := by simpa using e2
        clear hn hl
        go_enter Try.func30, Try.ntmps30
        go_wp2
        go_quiet (fail)
        go_wp2
        go_ret
        rw [HN.out]
        exact ⟨rfl, hA.up ((Up.refl _).drewN _), (hU.drewN _).but b⟩
    · have HN : Hid (stepF st 3 at' sl steps slots = (false, st)) := Lib.hid (by rw [stepF, if_neg (by omega), if_neg (by omega), if_pos rfl, if_pos (by omega)])
      have t0 : (sl == -1) = false := by simpa using e1
      clear hn hl
      go_enter Try.func30, Try.ntmps30
      go_wp2
      go_quiet (fail)
      go_wp2
      go_ret
      rw [HN.out]
      exact ⟨rfl, hA.up ((Up.refl _).drewN _), (hU.drewN _).but b⟩
  · obtain ⟨j, rfl⟩ := Int.eq_ofNat_of_zero_le h
    have hj : j < 64 := by omega
    have cH := hs.held j hj
    have cF := hs.full j hj
    have hj2 : (j : Int) < 64 := by omega
    have t0 : ((j : Int) == -1) = false := by simp; try omega
    obtain ⟨hv, hhv⟩ : ∃ v, st.held j = v := ⟨_, rfl⟩
    obtain ⟨fv, hfv⟩ : ∃ v, st.full j = v := ⟨_, rfl⟩
    rw [hhv] at cH
    rw [hfv] at cF
    have HE : Hid (stepF st 3 at' j steps slots = if fv = false ∨ hv ≠ at' then (false, st) else (true, { st with now := at' })) := Lib.hid (by
      rw [stepF, if_neg (by omega), if_neg (by omega), if_pos rfl]
      have hjn : (j : Int).toNat = j := rfl
      rw [hjn, hfv, hhv]
      by_cases hc : fv = false ∨ hv ≠ at'
      · rw [if_pos ⟨by omega, Or.inr hc⟩, if_pos hc]
      · rw [if_neg (fun hh => hh.2.elim (fun g => g (by omega)) hc), if_neg hc])
    clear hhv hfv hn hl
    cases fv
    · have HN : Hid (stepF st 3 at' j steps slots = (false, st)) := Lib.hid (by rw [HE.out, if_pos (Or.inl rfl)])
      go_enter Try.func30, Try.ntmps30
      go_wp2
      go_quiet (fail)
      go_wp2
      go_ret
      rw [HN.out]
      exact ⟨rfl, hA.up ((Up.refl _).drewN _), (hU.drewN _).but b⟩
    · by_cases e2 : hv = at'
      · subst e2
        have HN : Hid (stepF st 3 hv j steps slots = (true, { st with now := hv })) := Lib.hid (by rw [HE.out, if_neg (by simp)])
        go_enter Try.func30, Try.ntmps30
        go_wp2
        go_quiet (fail)
        go_wp2
        go_ret
        rw [HN.out]
        exact ⟨rfl, StAt.setNow (hA.up ((Up.refl _).drewN _)) _, ((hU.drewN _).but b).setCell _ _ _⟩
      · have HN : Hid (stepF st 3 at' j steps slots = (false, st)) := Lib.hid (by rw [HE.out, if_pos (Or.inr e2)])
        have t1 : (hv != at') = true := by simpa using e2
        have t2 : (hv == at') = false := by simpa using e2
        go_enter Try.func30, Try.ntmps30
        go_wp2
        go_quiet (fail)
        go_wp2
        go_ret
        rw [HN.out]
        exact ⟨rfl, hA.up ((Up.refl _).drewN _), (hU.drewN _).but b⟩
  · have HN : Hid (stepF st 3 at' sl steps slots = (false, st)) := Lib.hid (by rw [stepF, if_neg (by omega), if_neg (by omega), if_pos rfl, if_pos (by omega)])
    have t0 : (sl == -1) = false := by simp; try omega
    clear hn hl
    go_enter Try.func30, Try.ntmps30
    go_wp2
    go_quiet (fail)
    go_wp2
    go_ret
    rw [HN.out]
    exact ⟨rfl, hA.up ((Up.refl _).drewN _), (hU.drewN _).but b⟩

set_option maxHeartbeats 4000000 in
set_option maxRecDepth 100000 in
theorem step_reverse (b : Nat) (st : PSt) (at' sl steps slots : Int) (w : World) (hs : StAt w b st) (n0 : 0 ≤ st.now) (n1 : st.now ≤ 64) (l0 : 0 ≤ st.left) (l1 : st.left ≤ 64) (s1 : slots ≤ 64) :
    Calls Try.prog 30 #[.pointer (some ⟨b, 0, none⟩), .agg #[.int .i64 4, .int .i64 at', .int .i64 sl], .int .i64 steps, .int .i64 slots] w (StepPost b st w (stepF st 4 at' sl steps slots)) := by
  have hlt := hs.lt
  have c0 := hs.now
  have c1 := hs.left
  have z0 := hs.froz 0
  have z1 := hs.froz 1
  have hA := (hs.up ((Up.refl w).alloc (.cells #[.int .i64 4, .int .i64 at', .int .i64 sl] 42)))
  have hU := ((Up.refl w).alloc (.cells #[.int .i64 4, .int .i64 at', .int .i64 sl] 42))
  obtain ⟨nw, hn⟩ : ∃ n, st.now = n := ⟨_, rfl⟩
  obtain ⟨lf, hl⟩ : ∃ n, st.left = n := ⟨_, rfl⟩
  rw [hn] at n0 n1 c0
  rw [hl] at l0 l1 c1

  rcases (by simp; omega : ((sl < 0 ∧ decide (0 ≤ sl) = false) ∧ sl ≠ 0) ∨ ((0 ≤ sl ∧ sl < slots) ∧ sl ≠ 0) ∨ ((0 ≤ sl ∧ decide (sl < slots) = false) ∧ sl ≠ 0) ∨ (sl = 0 ∧ 0 < slots) ∨ (sl = 0 ∧ decide (0 < slots) = false)) with ⟨⟨h, h2⟩, h0⟩ | ⟨⟨h, h2⟩, h0⟩ | ⟨⟨h, h2⟩, h0⟩ | ⟨rfl, h⟩ | ⟨rfl, h⟩
  iterate 3
    · have HN : Hid (stepF st 4 at' sl steps slots = (false, st)) := Lib.hid (by rw [stepF, if_neg (by omega), if_neg (by omega), if_neg (by omega), if_pos rfl, if_pos (Or.inl h0)])
      have t0 : (sl != 0) = true := by simpa using h0
      have t1 : (sl == 0) = false := by simpa using h0
      clear hn hl
      go_enter Try.func30, Try.ntmps30
      go_wp2
      go_quiet (fail)
      go_wp2
      go_ret
      rw [HN.out]
      exact ⟨rfl, hA.up ((Up.refl _).drewN _), (hU.drewN _).but b⟩
  all_goals
    by_cases e1 : lf < 1
    · have HN : Hid (stepF st 4 at' 0 steps slots = (false, st)) := Lib.hid (by rw [stepF, if_neg (by omega), if_neg (by omega), if_neg (by omega), if_pos rfl, if_pos (by omega)])
      clear hn hl
      go_enter Try.func30, Try.ntmps30
      go_wp2
      go_quiet (fail)
      go_wp2
      go_ret
      rw [HN.out]
      exact ⟨rfl, hA.up ((Up.refl _).drewN _), (hU.drewN _).but b⟩
    · have e3 : 1 ≤ lf := by omega
      have e4 : decide (lf < 1) = false := by simpa using e1
      by_cases e5 : at' = lf
      · subst e5
        by_cases e6 : nw = at' - 1
        · have HN : Hid (stepF st 4 at' 0 steps slots = (true, { st with left := at' - 1 })) := Lib.hid (by rw [stepF, if_neg (by omega), if_neg (by omega), if_neg (by omega), if_pos rfl, if_neg (by omega), hl])
          have t0 : (nw != at' - 1) = false := by simpa using e6
          have t1 : (nw == at' - 1) = true := by simpa using e6
          clear hn hl e6
          go_enter Try.func30, Try.ntmps30
          go_wp2
          go_quiet (fail)
          go_wp2
          go_ret
          rw [HN.out]
          exact ⟨rfl, StAt.setLeft (hA.up ((Up.refl _).drewN _)) _, ((hU.drewN _).but b).setCell _ _ _⟩
        · have HN : Hid (stepF st 4 at' 0 steps slots = (false, st)) := Lib.hid (by rw [stepF, if_neg (by omega), if_neg (by omega), if_neg (by omega), if_pos rfl, if_pos (by omega)])
          have t0 : (nw != at' - 1) = true := by simpa using e6
          have t1 : (nw == at' - 1) = false := by simpa using e6
          clear hn hl
          go_enter Try.func30, Try.ntmps30
          go_wp2
          go_quiet (fail)
          go_wp2
          go_ret
          rw [HN.out]
          exact ⟨rfl, hA.up ((Up.refl _).drewN _), (hU.drewN _).but b⟩
      · have HN : Hid (stepF st 4 at' 0 steps slots = (false, st)) := Lib.hid (by rw [stepF, if_neg (by omega), if_neg (by omega), if_neg (by omega), if_pos rfl, if_pos (by omega)])
        have t0 : (at' != lf) = true := by simpa using e5
        have t1 : (at' == lf) = false := by simpa using e5
        clear hn hl
        go_enter Try.func30, Try.ntmps30
        go_wp2
        go_quiet (fail)
        go_wp2
        go_ret
        rw [HN.out]
        exact ⟨rfl, hA.up ((Up.refl _).drewN _), (hU.drewN _).but b⟩

set_option maxHeartbeats 4000000 in
set_option maxRecDepth 100000 in
theorem step_other (b : Nat) (st : PSt) (op at' sl steps slots : Int) (w : World) (hs : StAt w b st) (n0 : 0 ≤ st.now) (n1 : st.now ≤ 64) (l0 : 0 ≤ st.left) (l1 : st.left ≤ 64) (s1 : slots ≤ 64) (o1 : (op == 1) = false) (o2 : (op == 2) = false) (o3 : (op == 3) = false) (o4 : (op == 4) = false) :
    Calls Try.prog 30 #[.pointer (some ⟨b, 0, none⟩), .agg #[.int .i64 op, .int .i64 at', .int .i64 sl], .int .i64 steps, .int .i64 slots] w (StepPost b st w (stepF st op at' sl steps slots)) := by
  have hlt := hs.lt
  have c0 := hs.now
  have c1 := hs.left
  have z0 := hs.froz 0
  have z1 := hs.froz 1
  have hA := (hs.up ((Up.refl w).alloc (.cells #[.int .i64 op, .int .i64 at', .int .i64 sl] 42)))
  have hU := ((Up.refl w).alloc (.cells #[.int .i64 op, .int .i64 at', .int .i64 sl] 42))
  obtain ⟨nw, hn⟩ : ∃ n, st.now = n := ⟨_, rfl⟩
  obtain ⟨lf, hl⟩ : ∃ n, st.left = n := ⟨_, rfl⟩
  rw [hn] at n0 n1 c0
  rw [hl] at l0 l1 c1

  have HN : Hid (stepF st op at' sl steps slots = (false, st)) := Lib.hid (by
    rw [stepF, if_neg (by simpa using o1), if_neg (by simpa using o2), if_neg (by simpa using o3), if_neg (by simpa using o4)])
  clear hn hl
  rcases (by simp; omega : (sl < 0 ∧ decide (0 ≤ sl) = false) ∨ (0 ≤ sl ∧ sl < slots) ∨ (0 ≤ sl ∧ decide (sl < slots) = false)) with ⟨h, hd⟩ | ⟨h, h2⟩ | ⟨h, h2⟩
  all_goals
    go_enter Try.func30, Try.ntmps30
    go_wp2
    go_ret
    rw [HN.out]
    exact ⟨rfl, hA, hU.but b⟩

theorem chk_step (b : Nat) (st : PSt) (op at' sl steps slots : Int) (w : World) (hs : StAt w b st) (n0 : 0 ≤ st.now) (n1 : st.now ≤ 64) (l0 : 0 ≤ st.left) (l1 : st.left ≤ 64) (s1 : slots ≤ 64) :
    Calls Try.prog 30 #[.pointer (some ⟨b, 0, none⟩), .agg #[.int .i64 op, .int .i64 at', .int .i64 sl], .int .i64 steps, .int .i64 slots] w (StepPost b st w (stepF st op at' sl steps slots)) := by
  by_cases o1 : op = 1
  · subst o1; exact step_advance b st at' sl steps slots w hs n0 n1 l0 l1 s1
  by_cases o2 : op = 2
  · subst o2; exact step_store b st at' sl steps slots w hs n0 n1 l0 l1 s1
  by_cases o3 : op = 3
  · subst o3; exact step_restore b st at' sl steps slots w hs n0 n1 l0 l1 s1
  by_cases o4 : op = 4
  · subst o4; exact step_reverse b st at' sl steps slots w hs n0 n1 l0 l1 s1
  exact step_other b st op at' sl steps slots w hs n0 n1 l0 l1 s1 (by simpa using o1) (by simpa using o2) (by simpa using o3) (by simpa using o4)

end Go.Proofs.Ytdanjghefhjmcaa
