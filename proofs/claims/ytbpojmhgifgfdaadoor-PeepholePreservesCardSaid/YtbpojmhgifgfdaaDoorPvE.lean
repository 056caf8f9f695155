/-
  The reference 04: fix, Value. Printed by mkPvE.py.
-/
import Derived.Test.YtbpojmhgifgfdaaDoorPvD
namespace Go.Proofs.YtbpojmhgifgfdaaDoor
open Go.ChangeShapes Go.WideShapes Go.ChangeAt Go.RowKit
set_option linter.unusedVariables false
set_option linter.unusedSimpArgs false
set_option maxRecDepth 100000

theorem stF_ne (fr : Int) (h1 : 0 ≤ fr) (h2 : fr ≤ 30) : ¬ stF fr = 0 := by
  have hb : fr = 0 ∨ fr = 1 ∨ fr = 2 ∨ fr = 3 ∨ fr = 4 ∨ fr = 5 ∨ fr = 6 ∨ fr = 7 ∨ fr = 8 ∨ fr = 9 ∨ fr = 10 ∨ fr = 11 ∨ fr = 12 ∨ fr = 13 ∨ fr = 14 ∨ fr = 15 ∨ fr = 16 ∨ fr = 17 ∨ fr = 18 ∨ fr = 19 ∨ fr = 20 ∨ fr = 21 ∨ fr = 22 ∨ fr = 23 ∨ fr = 24 ∨ fr = 25 ∨ fr = 26 ∨ fr = 27 ∨ fr = 28 ∨ fr = 29 ∨ fr = 30 := by omega
  rcases hb with rfl | rfl | rfl | rfl | rfl | rfl | rfl | rfl | rfl | rfl | rfl | rfl | rfl | rfl | rfl | rfl | rfl | rfl | rfl | rfl | rfl | rfl | rfl | rfl | rfl | rfl | rfl | rfl | rfl | rfl | rfl
  all_goals decide +kernel
def fixF (bi fr ro ov op a b : Int) : Int × Int × Int :=
  if op = 4 then (fitF bi ov (wrap64 (a + b)), 1, 0) else if op = 5 then (fitF bi ov (wrap64 (a - b)), 1, 0)
  else if op = 6 then (fitF bi ov (rdF (wrap64 (a * b)) (stF fr) ro), 1, 0) else if op = 8 then (fitF bi ov (wrap64 (-a)), 1, 0)
  else if b = 0 then (0, 0, 4) else if b < 0 then (fitF bi ov (rdF (wrap64 (wrap64 (-a) * stF fr)) (wrap64 (-b)) ro), 1, 0) else (fitF bi ov (rdF (wrap64 (a * stF fr)) b ro), 1, 0)
set_option maxHeartbeats 8000000 in
theorem r04_fix (bi fr ro ov op a b : Int) (h1 : 2 ≤ bi) (h2 : bi ≤ 31) (h3 : 0 ≤ fr) (h4' : fr ≤ 30) (hb : R64 b) (r : Int × Int × Int) (hr : fixF bi fr ro ov op a b = r) (w : World) :
    Calls Tryd.prog 74 #[.int .i64 op, .agg #[.int .i64 2, .int .i64 bi, .int .i64 fr, .int .i64 ro, .int .i64 ov], .int .i64 a, .int .i64 b] w fun e w' => e = .returned (.tuple #[.agg #[.int .i64 r.1, .int .i64 r.2.1], .int .i64 r.2.2]) ∧ Up w w' := by
  have HU : Hid (Up w ((w.alloc (.cells #[.int .i64 2, .int .i64 bi, .int .i64 fr, .int .i64 ro, .int .i64 ov] 62)).alloc (.cells #[.int .i64 0, .int .i64 0] 60))) := Lib.hid (((Up.refl w).alloc _).alloc _)
  have B0 : Hid (BoxC ((w.alloc (.cells #[.int .i64 2, .int .i64 bi, .int .i64 fr, .int .i64 ro, .int .i64 ov] 62)).alloc (.cells #[.int .i64 0, .int .i64 0] 60)) w.heap.size 62 #[.int .i64 2, .int .i64 bi, .int .i64 fr, .int .i64 ro, .int .i64 ov]) := Lib.hid ((BoxC.new w _ _).up ((Up.refl _).alloc _))
  have B2 : Hid (BoxC ((w.alloc (.cells #[.int .i64 2, .int .i64 bi, .int .i64 fr, .int .i64 ro, .int .i64 ov] 62)).alloc (.cells #[.int .i64 0, .int .i64 0] 60)) (w.heap.size + 1) 60 #[.int .i64 0, .int .i64 0]) := Lib.hid (BoxC.new2 w _ _ _)
  obtain ⟨t0, t1, t2, t3, t4⟩ := B0.out.five
  have HB := Lib.hid hb
  clear hb
  unfold fixF at hr
  obtain ⟨s, hs⟩ : ∃ s, stF fr = s := ⟨_, rfl⟩
  have HS := Lib.hid (fun w => r04_step 2 bi fr ro ov s hs h3 h4' w)
  have hs0 := stF_ne fr h3 h4'
  rw [hs] at hr hs0
  have HS0 := Lib.hid hs0
  clear hs hs0
  by_cases h4 : op = 4
  · subst h4
    rw [if_pos rfl] at hr
    obtain ⟨f, hf⟩ : ∃ f, fitF bi ov (wrap64 (a + b)) = f := ⟨_, rfl⟩
    rw [hf] at hr
    obtain rfl := hr.symm
    have HF := Lib.hid (fun w => r04_fit 2 bi fr ro ov (wrap64 (a + b)) f hf h1 h2 w)
    clear hf
    go_enter Tryd.func74, Tryd.ntmps74
    go_wp2_with (go_at_call 83; refine (HF.out _).mono ?_; rintro e x ⟨rfl, hx⟩; replace HU := Lib.hid (HU.out.trans hx); replace B0 := Lib.hid (B0.out.up hx); replace B2 := Lib.hid (B2.out.up hx); clear hx; obtain ⟨t0, t1, t2, t3, t4⟩ := B0.out.five; obtain ⟨z0, z1⟩ := B2.out.two; have zf := B2.out.frozen)
    refine bodyPost_ret (v := .tuple #[.agg #[.int .i64 f, .int .i64 1], .int .i64 0]) (by simp [results, Tryd.results74, go_sem, *]) rfl ?_
    exact ⟨rfl, (HU.out.setCell (p := ⟨w.heap.size + 1, 0, none⟩) (by show w.heap.size ≤ w.heap.size + 1; omega) _).setCell (p := ⟨w.heap.size + 1, 1, none⟩) (by show w.heap.size ≤ w.heap.size + 1; omega) _⟩
  by_cases h5 : op = 5
  · subst h5
    rw [if_neg (show ¬ (5 : Int) = 4 by decide), if_pos rfl] at hr
    obtain ⟨f, hf⟩ : ∃ f, fitF bi ov (wrap64 (a - b)) = f := ⟨_, rfl⟩
    rw [hf] at hr
    obtain rfl := hr.symm
    have HF := Lib.hid (fun w => r04_fit 2 bi fr ro ov (wrap64 (a - b)) f hf h1 h2 w)
    clear hf
    go_enter Tryd.func74, Tryd.ntmps74
    go_wp2_with (go_at_call 83; refine (HF.out _).mono ?_; rintro e x ⟨rfl, hx⟩; replace HU := Lib.hid (HU.out.trans hx); replace B0 := Lib.hid (B0.out.up hx); replace B2 := Lib.hid (B2.out.up hx); clear hx; obtain ⟨t0, t1, t2, t3, t4⟩ := B0.out.five; obtain ⟨z0, z1⟩ := B2.out.two; have zf := B2.out.frozen)
    refine bodyPost_ret (v := .tuple #[.agg #[.int .i64 f, .int .i64 1], .int .i64 0]) (by simp [results, Tryd.results74, go_sem, *]) rfl ?_
    exact ⟨rfl, (HU.out.setCell (p := ⟨w.heap.size + 1, 0, none⟩) (by show w.heap.size ≤ w.heap.size + 1; omega) _).setCell (p := ⟨w.heap.size + 1, 1, none⟩) (by show w.heap.size ≤ w.heap.size + 1; omega) _⟩
  by_cases h6 : op = 6
  · subst h6
    rw [if_neg (show ¬ (6 : Int) = 4 by decide), if_neg (show ¬ (6 : Int) = 5 by decide), if_pos rfl] at hr
    obtain ⟨d, hd⟩ : ∃ d, rdF (wrap64 (a * b)) s ro = d := ⟨_, rfl⟩
    rw [hd] at hr
    obtain ⟨f, hf⟩ : ∃ f, fitF bi ov d = f := ⟨_, rfl⟩
    rw [hf] at hr
    obtain rfl := hr.symm
    have HD := Lib.hid (fun w => r04_round (wrap64 (a * b)) s ro d hd HS0.out w)
    have HF := Lib.hid (fun w => r04_fit 2 bi fr ro ov d f hf h1 h2 w)
    clear hf hd
    go_enter Tryd.func74, Tryd.ntmps74
    go_wp2
    refine wp_region_ext_tail 10 (by kernel_rfl) (by kernel_rfl) ?_
    simp only [List.take_succ_cons, List.take_zero, List.drop_succ_cons, List.drop_zero]
    repeat (go_big_quiet_step (first | (go_at_call 85; exact Calls.ext_of (HS.out _)) | (go_at_call 84; exact Calls.ext_of (HD.out _)) | (go_at_call 83; exact Calls.ext_of (HF.out _))))
    refine wpQuiet_nil ?_
    intro x hx
    replace HU := Lib.hid (HU.out.trans hx)
    replace B0 := Lib.hid (B0.out.up hx)
    replace B2 := Lib.hid (B2.out.up hx)
    clear hx t0 t1 t2 t3 t4
    obtain ⟨t0, t1, t2, t3, t4⟩ := B0.out.five
    obtain ⟨z0, z1⟩ := B2.out.two
    have zf := B2.out.frozen
    go_wp2
    refine bodyPost_ret (v := .tuple #[.agg #[.int .i64 f, .int .i64 1], .int .i64 0]) (by simp [results, Tryd.results74, go_sem, *]) rfl ?_
    exact ⟨rfl, (HU.out.setCell (p := ⟨w.heap.size + 1, 0, none⟩) (by show w.heap.size ≤ w.heap.size + 1; omega) _).setCell (p := ⟨w.heap.size + 1, 1, none⟩) (by show w.heap.size ≤ w.heap.size + 1; omega) _⟩
  by_cases h8 : op = 8
  · subst h8
    rw [if_neg (show ¬ (8 : Int) = 4 by decide), if_neg (show ¬ (8 : Int) = 5 by decide), if_neg (show ¬ (8 : Int) = 6 by decide), if_pos rfl] at hr
    obtain ⟨f, hf⟩ : ∃ f, fitF bi ov (wrap64 (-a)) = f := ⟨_, rfl⟩
    rw [hf] at hr
    obtain rfl := hr.symm
    have HF := Lib.hid (fun w => r04_fit 2 bi fr ro ov (wrap64 (-a)) f hf h1 h2 w)
    clear hf
    go_enter Tryd.func74, Tryd.ntmps74
    go_wp2_with (go_at_call 83; refine (HF.out _).mono ?_; rintro e x ⟨rfl, hx⟩; replace HU := Lib.hid (HU.out.trans hx); replace B0 := Lib.hid (B0.out.up hx); replace B2 := Lib.hid (B2.out.up hx); clear hx; obtain ⟨t0, t1, t2, t3, t4⟩ := B0.out.five; obtain ⟨z0, z1⟩ := B2.out.two; have zf := B2.out.frozen)
    refine bodyPost_ret (v := .tuple #[.agg #[.int .i64 f, .int .i64 1], .int .i64 0]) (by simp [results, Tryd.results74, go_sem, *]) rfl ?_
    exact ⟨rfl, (HU.out.setCell (p := ⟨w.heap.size + 1, 0, none⟩) (by show w.heap.size ≤ w.heap.size + 1; omega) _).setCell (p := ⟨w.heap.size + 1, 1, none⟩) (by show w.heap.size ≤ w.heap.size + 1; omega) _⟩
  rw [if_neg h4, if_neg h5, if_neg h6, if_neg h8] at hr
  have h4b : (op == 4) = false := by simpa using h4
  have h5b : (op == 5) = false := by simpa using h5
  have h6b : (op == 6) = false := by simpa using h6
  have h8b : (op == 8) = false := by simpa using h8
  by_cases h0 : b = 0
  · subst h0
    rw [if_pos rfl] at hr
    obtain rfl := hr.symm
    go_enter Tryd.func74, Tryd.ntmps74
    go_wp2
    refine bodyPost_ret (v := .tuple #[.agg #[.int .i64 0, .int .i64 0], .int .i64 4]) (by simp [results, Tryd.results74, go_sem, *]) rfl ?_
    exact ⟨rfl, ((Up.refl w).alloc _).alloc _⟩
  have h0b : (b == 0) = false := by simpa using h0
  by_cases hn : b < 0
  · rw [if_neg h0, if_pos hn] at hr
    obtain ⟨d, hd⟩ : ∃ d, rdF (wrap64 (wrap64 (-a) * s)) (wrap64 (-b)) ro = d := ⟨_, rfl⟩
    rw [hd] at hr
    obtain ⟨f, hf⟩ : ∃ f, fitF bi ov d = f := ⟨_, rfl⟩
    rw [hf] at hr
    obtain rfl := hr.symm
    have HD := Lib.hid (fun w => r04_round (wrap64 (wrap64 (-a) * s)) (wrap64 (-b)) ro d hd (by obtain ⟨g1, g2⟩ := HB.out; unfold wrap64; omega) w)
    have HF := Lib.hid (fun w => r04_fit 2 bi fr ro ov d f hf h1 h2 w)
    clear hf hd
    go_enter Tryd.func74, Tryd.ntmps74
    go_wp2
    refine wp_region_ext_tail 10 (by kernel_rfl) (by kernel_rfl) ?_
    simp only [List.take_succ_cons, List.take_zero, List.drop_succ_cons, List.drop_zero]
    repeat (go_big_quiet_step (first | (go_at_call 85; exact Calls.ext_of (HS.out _)) | (go_at_call 84; exact Calls.ext_of (HD.out _)) | (go_at_call 83; exact Calls.ext_of (HF.out _))))
    refine wpQuiet_nil ?_
    intro x hx
    replace HU := Lib.hid (HU.out.trans hx)
    replace B0 := Lib.hid (B0.out.up hx)
    replace B2 := Lib.hid (B2.out.up hx)
    clear hx t0 t1 t2 t3 t4
    obtain ⟨t0, t1, t2, t3, t4⟩ := B0.out.five
    obtain ⟨z0, z1⟩ := B2.out.two
    have zf := B2.out.frozen
    go_wp2
    refine bodyPost_ret (v := .tuple #[.agg #[.int .i64 f, .int .i64 1], .int .i64 0]) (by simp [results, Tryd.results74, go_sem, *]) rfl ?_
    exact ⟨rfl, (HU.out.setCell (p := ⟨w.heap.size + 1, 0, none⟩) (by show w.heap.size ≤ w.heap.size + 1; omega) _).setCell (p := ⟨w.heap.size + 1, 1, none⟩) (by show w.heap.size ≤ w.heap.size + 1; omega) _⟩
  · rw [if_neg h0, if_neg hn] at hr
    have hn2 : 0 ≤ b := by omega
    obtain ⟨d, hd⟩ : ∃ d, rdF (wrap64 (a * s)) b ro = d := ⟨_, rfl⟩
    rw [hd] at hr
    obtain ⟨f, hf⟩ : ∃ f, fitF bi ov d = f := ⟨_, rfl⟩
    rw [hf] at hr
    obtain rfl := hr.symm
    have HD := Lib.hid (fun w => r04_round (wrap64 (a * s)) b ro d hd h0 w)
    have HF := Lib.hid (fun w => r04_fit 2 bi fr ro ov d f hf h1 h2 w)
    clear hf hd hn
    go_enter Tryd.func74, Tryd.ntmps74
    go_wp2
    refine wp_region_ext_tail 10 (by kernel_rfl) (by kernel_rfl) ?_
    simp only [List.take_succ_cons, List.take_zero, List.drop_succ_cons, List.drop_zero]
    repeat (go_big_quiet_step (first | (go_at_call 85; exact Calls.ext_of (HS.out _)) | (go_at_call 84; exact Calls.ext_of (HD.out _)) | (go_at_call 83; exact Calls.ext_of (HF.out _))))
    refine wpQuiet_nil ?_
    intro x hx
    replace HU := Lib.hid (HU.out.trans hx)
    replace B0 := Lib.hid (B0.out.up hx)
    replace B2 := Lib.hid (B2.out.up hx)
    clear hx t0 t1 t2 t3 t4
    obtain ⟨t0, t1, t2, t3, t4⟩ := B0.out.five
    obtain ⟨z0, z1⟩ := B2.out.two
    have zf := B2.out.frozen
    go_wp2
    refine bodyPost_ret (v := .tuple #[.agg #[.int .i64 f, .int .i64 1], .int .i64 0]) (by simp [results, Tryd.results74, go_sem, *]) rfl ?_
    exact ⟨rfl, (HU.out.setCell (p := ⟨w.heap.size + 1, 0, none⟩) (by show w.heap.size ≤ w.heap.size + 1; omega) _).setCell (p := ⟨w.heap.size + 1, 1, none⟩) (by show w.heap.size ≤ w.heap.size + 1; omega) _⟩

end Go.Proofs.YtbpojmhgifgfdaaDoor
