/-
  CheckPlan (chapter 28, the program's side): the walk.
-/
import Derived.Test.YtdanjghefhjmcaaChStep
import Derived.Test.YtdanjghefhjmcaaChPlan
import Derived.Deep.WholeRow
import Derived.Laws.Tables
namespace Go.Proofs.Ytdanjghefhjmcaa
open Go.ChangeShapes Go.WideShapes Go.ChangeAt Go.RowKit
set_option linter.unusedVariables false

def stC (n : Int) : Array Value := (#[.int .i64 0, .int .i64 n] ++ Array.replicate 64 (.int .i64 0)) ++ Array.replicate 64 (.bool false)
theorem stC_size (n : Int) : (stC n).size = 130 := by simp [stC]
theorem stC_zero : (Try.prog.info? 54).map (fun i => (i.zero, i.size)) = some (some (.agg (stC 0)), 130) := by kernel_rfl
theorem stC_cell (n : Int) : (stC n).all (·.oneCell') = true := by kernel_rfl
theorem stC_built (n : Int) : Try.prog.built 54 [(1, .int .i64 n)] = some (stC n) := by kernel_rfl
theorem stC_0 (n : Int) : (stC n)[0]? = some (.int .i64 0) := by kernel_rfl
theorem stC_1 (n : Int) : (stC n)[1]? = some (.int .i64 n) := by kernel_rfl
theorem stC_2 (n : Int) (i : Nat) (hi : i < 64) : (stC n)[2 + i]? = some (.int .i64 0) := by
  unfold stC
  rw [Array.getElem?_append_left (by simp; omega), Array.getElem?_append_right (by simp)]
  simp [hi]
theorem stC_3 (n : Int) (i : Nat) (hi : i < 64) : (stC n)[66 + i]? = some (.bool false) := by
  unfold stC
  rw [Array.getElem?_append_right (by simp)]
  simp [hi]
theorem stC_set (n : Int) : (stC 0).toList.set 1 (.int .i64 n) = (stC n).toList := by kernel_rfl
attribute [irreducible] stC

set_option maxHeartbeats 1000000 in
set_option maxRecDepth 100000 in
theorem chk_CheckPlan_ok (n s : Nat) (hn : n ≤ 64) (hs : s ≤ 64) (v : Value) (l : List Actn) (w : World) (hv : IsActs w v l) (hl : l.length ≤ 65536) :
    Calls Try.prog 16 #[.int .i64 n, .int .i64 s, v] w fun e w' => e = .returned (.tuple #[.int .i64 (planGo n s l 0 0 (st0 n)).1, .int .i64 (planGo n s l 0 0 (st0 n)).2]) ∧ Up w w' := by
  have h1 : Hid (okN n = true) := Lib.hid (by simp [okN]; omega)
  have h2 : Hid (okN s = true) := Lib.hid (by simp [okN]; omega)
  obtain ⟨⟨a, cap, rfl, h0, hc⟩, hmax⟩ := hv
  obtain ⟨len, hlen⟩ : ∃ k, l.length = k := ⟨_, rfl⟩
  rw [hlen] at hc hmax hl h0
  have HL := Lib.hid hlen
  rw [hlen]
  clear hlen
  have hl2 : (len : Int) ≤ 65536 := by omega
  have HC := Lib.hid hc
  have H0 := Lib.hid h0
  clear hc h0
  have hz0 := (zero_of_info stC_zero).1
  have hz1 := (zero_of_info stC_zero).2
  have hst2 : ∀ w : World, (storeCells ⟨w.heap.size, 0, none⟩ ((stC 0).toList.set 1 (.int .i64 (n : Int)))).run Try.prog (w.alloc (.cells (stC 0) 54)) = .ok () (w.alloc (.cells (stC n) 54)) := by
    intro w
    rw [stC_set]
    exact run_storeCells_new w _ _ _ (by rw [stC_size]; exact hz1) (by rw [stC_size, stC_size]) (stC_cell n)
  clear hz1
  have hsz := stC_size 0
  go_enter Try.func16, Try.ntmps16
  go_wp2_with fail
  refine (chk_argument _ true h1.out _).mono ?_
  rintro e x1 ⟨rfl, hx1⟩
  go_wp2_with fail
  refine (chk_argument _ true h2.out _).mono ?_
  rintro e x2 ⟨rfl, hx2⟩
  go_wp2_with fail
  obtain ⟨B, hB⟩ : ∃ B, x2.heap.size = B := ⟨_, rfl⟩
  have hBw : w.heap.size ≤ B := by rw [← hB]; exact Nat.le_trans hx1.size hx2.size
  have hst0 : StAt (x2.alloc (.cells (stC n) 54)) B (st0 n) := by
    subst hB
    have hrow : (x2.alloc (.cells (stC n) 54)).heap[x2.heap.size]? = some (.cells (stC n) 54 (0, 0)) := heap_alloc_last _ _
    refine ⟨by simp, ?_, ?_, fun i hi => ?_, fun i hi => ?_, fun o => ?_⟩
    · rw [cell_of_row _ _ _ _ _ _ hrow, stC_0]; rfl
    · rw [cell_of_row _ _ _ _ _ _ hrow, stC_1]; rfl
    · rw [cell_of_row _ _ _ _ _ _ hrow, stC_2 _ _ hi]; rfl
    · rw [cell_of_row _ _ _ _ _ _ hrow, stC_3 _ _ hi]; rfl
    · exact frozen_of_row _ _ _ _ _ hrow
  have hU0 : Up w (x2.alloc (.cells (stC n) 54)) := (hx1.trans hx2).alloc _
  have HB := Lib.hid hB
  clear hB hst2 hz0 hsz hx1 hx2
  go_loopw [9, 29] (fun c i wr => ∃ (k cost : Nat) (st : PSt), k ≤ len ∧ cost ≤ k ∧ i = .int .i64 k ∧ c = .int .i64 cost ∧ StAt wr B st ∧ StOk st ∧ Up w wr ∧ planGo n s (l.drop k) k cost st = planGo n s l 0 0 (st0 n)) (fun _ i _ => len - (intOf i).toNat)
  case atStart => exact ⟨0, 0, st0 n, by omega, by omega, rfl, rfl, hst0, ⟨by simp [st0], by simp [st0], by simp [st0], by simp [st0]; omega, by simp [st0]⟩, hU0, rfl⟩
  case round =>
    rename_i wr
    obtain ⟨k, cost, st, hk, hck, rfl, rfl, hS, hO, hU, hP⟩ := hrel
    have HP := Lib.hid hP
    clear hP hst0 hU0
    have hB8 := HB.out
    subst hB8
    by_cases hlt : k < len
    · obtain ⟨x, rfl⟩ : ∃ x, a = some x := by
        cases a with
        | none => exact absurd (H0.out rfl) (by omega)
        | some x => exact ⟨x, rfl⟩
      obtain ⟨g1, g2, g3⟩ := HC.out x rfl (by omega)
      obtain ⟨bl, off, sp⟩ := x
      have g1' : sp = none := g1
      subst g1'
      obtain ⟨op, at', sl, ha⟩ : ∃ op at' sl, l.getD k (0, 0, 0) = (op, at', sl) := ⟨_, _, _, rfl⟩
      have k0 : wr.cell? ⟨bl, off + k * 3, none⟩ = some (.int .i64 op) := by
        rw [hU.cell _ _ g2]; have := g3 k 0 hlt (by omega); simpa only [actF, ha, Nat.add_zero] using this
      have k1 : wr.cell? ⟨bl, off + k * 3 + 1, none⟩ = some (.int .i64 at') := by
        rw [hU.cell _ _ g2]; have := g3 k 1 hlt (by omega); simpa only [actF, ha, Nat.add_zero] using this
      have k2 : wr.cell? ⟨bl, off + k * 3 + 2, none⟩ = some (.int .i64 sl) := by
        rw [hU.cell _ _ g2]; have := g3 k 2 hlt (by omega); simpa only [actF, ha, Nat.add_zero] using this
      clear g3
      have hkl : (k : Int) < (len : Int) := by omega
      have hk0 : (0 : Int) ≤ (k : Int) := by omega
      have hdrop : l.drop k = (op, at', sl) :: l.drop (k + 1) := by
        have hkl2 : k < l.length := by rw [HL.out]; exact hlt
        rw [List.drop_eq_getElem_cons hkl2, ← ha, List.getD_eq_getElem?_getD, List.getElem?_eq_getElem hkl2]; rfl
      have HP2 : Hid ((if (stepF st op at' sl n s).1 = false then ((k : Int), 26) else planGo n s (l.drop (k + 1)) (k + 1) (if op = 1 then cost + 1 else cost) (stepF st op at' sl n s).2) = planGo n s l 0 0 (st0 n)) := Lib.hid (by
        rw [← HP.out, hdrop]; rfl)
      have hO2 := hO.step op at' sl n s (by omega)
      obtain ⟨o1, o2, o3, o4, _⟩ := hO
      obtain ⟨⟨ok, st'⟩, hstep⟩ : ∃ r, stepF st op at' sl n s = r := ⟨_, rfl⟩
      rw [hstep] at HP2 hO2
      have HST := Lib.hid hstep
      clear hstep hdrop HP ha
      go_wp2_with fail
      refine (chk_step _ st op at' sl n s _ (hS.up ((Up.refl _).alloc _)) o1 o2 o3 o4 (by omega)).mono ?_
      rintro e w2 ⟨rfl, hS2, hB2⟩
      rw [HST.out] at hS2
      have hU2 : Up w w2 := UpBut.up (hU.alloc _) hBw hB2
      have hne : wr.heap.size ≠ x2.heap.size := by have := hS.lt; omega
      have hc1 : ∀ o, w2.cell? ⟨wr.heap.size, o, none⟩ = (wr.alloc (.cells #[.int .i64 op, .int .i64 at', .int .i64 sl] 42)).cell? ⟨wr.heap.size, o, none⟩ := fun o => World.cell?_of_block (hB2.block _ (by simp) hne)
      rw [HST.out]
      cases ok
      · go_wp2
        go_ret2
        exact ⟨ret_ii (by have := HP2.out; rw [if_pos (by trivial)] at this; rw [← this]) (by have := HP2.out; rw [if_pos (by trivial)] at this; rw [← this]), hU2⟩
      · by_cases ho1 : op = 1
        · subst ho1
          have HP3 : Hid (planGo n s (l.drop (k + 1)) (k + 1) (cost + 1) st' = planGo n s l 0 0 (st0 n)) := Lib.hid (by
            have := HP2.out; rw [if_neg (by simp), if_pos (by trivial)] at this; exact this)
          have hck2 : (cost : Int) ≤ 65536 := by omega
          go_wp2
          go_roundw
          case rel => exact ⟨k + 1, cost + 1, st', by omega, by omega, by go_num, by go_num, hS2, hO2, hU2, HP3.out⟩
          case measure => simp [intOf]; omega
        · have ho2 : (op == 1) = false := by simpa using ho1
          have HP3 : Hid (planGo n s (l.drop (k + 1)) (k + 1) cost st' = planGo n s l 0 0 (st0 n)) := Lib.hid (by
            have := HP2.out; rw [if_neg (by simp), if_neg ho1] at this; exact this)
          go_wp2
          go_roundw
          case rel => exact ⟨k + 1, cost, st', by omega, by omega, by go_num, by go_num, hS2, hO2, hU2, HP3.out⟩
          case measure => simp [intOf]; omega
    · have hkl : (len : Int) ≤ (k : Int) := by omega
      have hdrop : l.drop k = [] := List.drop_eq_nil_of_le (by rw [HL.out]; omega)
      have c1 := hS.left
      obtain ⟨lf, hlf⟩ : ∃ x, st.left = x := ⟨_, rfl⟩
      rw [hlf] at c1
      have HE : Hid ((if lf ≠ 0 then ((k : Int), (6 : Int)) else ((cost : Int), 0)) = planGo n s l 0 0 (st0 n)) := Lib.hid (by rw [← HP.out, hdrop, planGo, hlf])
      have hkk : k = len := by omega
      clear hdrop hlf HP
      by_cases h6 : lf = 0
      · subst h6
        go_wp2
        go_ret2
        exact ⟨ret_ii (by have := HE.out; rw [if_neg (by simp)] at this; rw [← this]) (by have := HE.out; rw [if_neg (by simp)] at this; rw [← this]), hU⟩
      · have h7 : (lf != 0) = true := by simpa using h6
        have h8 : (lf == 0) = false := by simpa using h6
        subst hkk
        go_wp2
        go_ret2
        exact ⟨ret_ii (by have := HE.out; rw [if_pos h6] at this; rw [← this]) (by have := HE.out; rw [if_pos h6] at this; rw [← this]), hU⟩

theorem chk_CheckPlan_bad (n s : Int) (h : ¬ (0 ≤ n ∧ n ≤ 64 ∧ 0 ≤ s ∧ s ≤ 64)) (v : Value) (w : World) :
    Calls Try.prog 16 #[.int .i64 n, .int .i64 s, v] w fun e w' => e = .returned (.tuple #[.int .i64 0, .int .i64 1]) ∧ Up w w' := by
  by_cases hn : 0 ≤ n ∧ n ≤ 64
  · have h1 : Hid (okN n = true) := Lib.hid (by simp [okN]; omega)
    have h2 : Hid (okN s = false) := Lib.hid (by simp [okN]; omega)
    clear h
    go_enter Try.func16, Try.ntmps16
    go_wp2_with fail
    refine (chk_argument _ true h1.out _).mono ?_
    rintro e x ⟨rfl, hx⟩
    go_wp2_with fail
    refine (chk_argument _ false h2.out _).mono ?_
    rintro e x2 ⟨rfl, hx2⟩
    go_wp2_with fail
    go_ret2
    exact ⟨rfl, hx.trans hx2⟩
  · have h1 : Hid (okN n = false) := Lib.hid (by simp [okN]; omega)
    clear h
    go_enter Try.func16, Try.ntmps16
    go_wp2_with fail
    refine (chk_argument _ false h1.out _).mono ?_
    rintro e x ⟨rfl, hx⟩
    go_wp2_with fail
    go_ret2
    exact ⟨rfl, hx⟩
end Go.Proofs.Ytdanjghefhjmcaa
