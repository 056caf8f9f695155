/-
  The reference 49: memory at store. Printed by mkPvQ.py.
-/
import Derived.Test.YtbpojmhgifgfdaaDoorPvP
import Derived.BigRegion
namespace Go.Proofs.YtbpojmhgifgfdaaDoor
open Go.ChangeShapes Go.WideShapes Go.ChangeAt Go.RowKit
set_option linter.unusedVariables false
set_option linter.unusedSimpArgs false
set_option maxRecDepth 100000

theorem val_sl {x : World} {b : Nat} {t : TypeId} {s c : Int} (h : BoxC x b t #[.int .i64 s, .int .i64 c]) : ValsAt x (.slice (some ⟨b, 0, none⟩) 1 1) [(s, c)] := by
  refine ⟨⟨_, _, rfl, fun h => (by cases h), fun a ha _ => ?_⟩, (by decide : 1 ≤ 9223372036854775807)⟩
  cases ha
  refine ⟨rfl, h.lt, fun i j hi hj => ?_⟩
  obtain rfl : i = 0 := by simpa using hi
  rcases (by omega : j = 0 ∨ j = 1) with rfl | rfl <;> exact cell_of_row _ _ _ _ _ _ h

set_option maxHeartbeats 8000000 in
theorem r49_memory11 (ca ta ra ma xa : Option Addr) (cn cc tn tc rc mn mc xc : Nat) (pc C n1 d kd bi fr ro ov : Int) (h : Bool) (X : List Int) (A B : Nat) (q : Int) (w : World) (hx : IntsAt w (.slice xa 256 xc) X) (hX : X.length = 256) (hB : B < 256) (hq : X.getD B 0 = q) (R M : List (Int × Int)) (hr : ValsAt w (.slice ra 256 rc) R) (hR : R.length = 256) (hA : A < 256) (hm : ValsAt w (.slice ma mn mc) M) (hM : M.length = mn) (hcap : mn ≤ mc) (hlen : mn ≤ 100000) (hcx : mc ≤ 9223372036854775807) (Q : Nat) (hQ : q = (Q : Int)) (hlo : n1 ≤ q) (hhi : q < C) (hQm : Q < mn) :
    Calls Tryd.prog 53 #[.agg #[.slice ca cn cc, .slice ta tn tc, .int .i64 pc, .slice xa 256 xc, .slice ra 256 rc, .slice ma mn mc, .bool h], .agg #[.int .i64 11, .int .i64 (A : Int), .int .i64 (B : Int), .int .i64 C, .int .i64 n1, .int .i64 d, .int .i64 kd, .int .i64 bi, .int .i64 fr, .int .i64 ro, .int .i64 ov]] w fun e w' => ∃ m', e = .returned (.tuple #[.agg #[.slice ca cn cc, .slice ta tn tc, .int .i64 pc, .slice xa 256 xc, .slice ra 256 rc, m', .bool h], .int .i64 0]) ∧ Up w w' ∧ ValsAt w' m' (stL M Q [R.getD A (0, 0)]) ∧ Fresh w.heap.size m' ∧ CapOK m' := by
  have HU : Hid (Up w (((w.alloc (.cells #[.slice ca cn cc, .slice ta tn tc, .int .i64 pc, .slice xa 256 xc, .slice ra 256 rc, .slice ma mn mc, .bool h] 50)).alloc (.cells #[.int .i64 11, .int .i64 (A : Int), .int .i64 (B : Int), .int .i64 C, .int .i64 n1, .int .i64 d, .int .i64 kd, .int .i64 bi, .int .i64 fr, .int .i64 ro, .int .i64 ov] 64)).alloc (.cells #[.slice none 0 0, .slice none 0 0, .int .i64 0, .slice none 0 0, .slice none 0 0, .slice none 0 0, .bool false] 50))) := Lib.hid ((((Up.refl w).alloc _).alloc _).alloc _)
  have B0 : Hid (BoxC (((w.alloc (.cells #[.slice ca cn cc, .slice ta tn tc, .int .i64 pc, .slice xa 256 xc, .slice ra 256 rc, .slice ma mn mc, .bool h] 50)).alloc (.cells #[.int .i64 11, .int .i64 (A : Int), .int .i64 (B : Int), .int .i64 C, .int .i64 n1, .int .i64 d, .int .i64 kd, .int .i64 bi, .int .i64 fr, .int .i64 ro, .int .i64 ov] 64)).alloc (.cells #[.slice none 0 0, .slice none 0 0, .int .i64 0, .slice none 0 0, .slice none 0 0, .slice none 0 0, .bool false] 50)) w.heap.size 50 #[.slice ca cn cc, .slice ta tn tc, .int .i64 pc, .slice xa 256 xc, .slice ra 256 rc, .slice ma mn mc, .bool h]) := Lib.hid ((BoxC.new w _ _).up (((Up.refl _).alloc _).alloc _))
  have B1 : Hid (BoxC (((w.alloc (.cells #[.slice ca cn cc, .slice ta tn tc, .int .i64 pc, .slice xa 256 xc, .slice ra 256 rc, .slice ma mn mc, .bool h] 50)).alloc (.cells #[.int .i64 11, .int .i64 (A : Int), .int .i64 (B : Int), .int .i64 C, .int .i64 n1, .int .i64 d, .int .i64 kd, .int .i64 bi, .int .i64 fr, .int .i64 ro, .int .i64 ov] 64)).alloc (.cells #[.slice none 0 0, .slice none 0 0, .int .i64 0, .slice none 0 0, .slice none 0 0, .slice none 0 0, .bool false] 50)) (w.heap.size + 1) 64 #[.int .i64 11, .int .i64 (A : Int), .int .i64 (B : Int), .int .i64 C, .int .i64 n1, .int .i64 d, .int .i64 kd, .int .i64 bi, .int .i64 fr, .int .i64 ro, .int .i64 ov]) := Lib.hid ((BoxC.new2 w _ _ _).up ((Up.refl _).alloc _))
  have B2 : Hid (BoxC (((w.alloc (.cells #[.slice ca cn cc, .slice ta tn tc, .int .i64 pc, .slice xa 256 xc, .slice ra 256 rc, .slice ma mn mc, .bool h] 50)).alloc (.cells #[.int .i64 11, .int .i64 (A : Int), .int .i64 (B : Int), .int .i64 C, .int .i64 n1, .int .i64 d, .int .i64 kd, .int .i64 bi, .int .i64 fr, .int .i64 ro, .int .i64 ov] 64)).alloc (.cells #[.slice none 0 0, .slice none 0 0, .int .i64 0, .slice none 0 0, .slice none 0 0, .slice none 0 0, .bool false] 50)) (w.heap.size + 2) 50 #[.slice none 0 0, .slice none 0 0, .int .i64 0, .slice none 0 0, .slice none 0 0, .slice none 0 0, .bool false]) := Lib.hid (BoxC.new3 w _ _ _ _)
  have HX := Lib.hid hx
  have HLX := Lib.hid hX
  have hBI : (B : Int) < 256 := by omega
  obtain ⟨bl, off, hxa, hbl, e0⟩ := HX.out.elem HU.out B (by rw [HLX.out]; exact hB) HLX.out rfl
  rw [hq] at e0
  subst hxa
  clear hx hX hq
  subst hQ
  have HRW := Lib.hid hr
  have HLR := Lib.hid hR
  have HMW := Lib.hid hm
  have HLM := Lib.hid hM
  have h3 : ¬ (Q : Int) < n1 := by omega
  have h4 : ¬ C ≤ (Q : Int) := by omega
  have hQI : (Q : Int) < mn := by omega
  have hAI : (A : Int) < 256 := by omega
  obtain ⟨⟨k1, k2⟩, hk⟩ : ∃ x, R.getD A (0, 0) = x := ⟨_, rfl⟩
  rw [hk]
  have HK := Lib.hid hk
  clear hr hR hm hM hk
  go_enter Tryd.func53, Tryd.ntmps53
  go_wp2
  generalize (((w.alloc (.cells #[.slice ca cn cc, .slice ta tn tc, .int .i64 pc, .slice (some ⟨bl, off, none⟩) 256 xc, .slice ra 256 rc, .slice ma mn mc, .bool h] 50)).alloc (.cells #[.int .i64 11, .int .i64 (A : Int), .int .i64 (B : Int), .int .i64 C, .int .i64 n1, .int .i64 d, .int .i64 kd, .int .i64 bi, .int .i64 fr, .int .i64 ro, .int .i64 ov] 64)).alloc (.cells #[.slice none 0 0, .slice none 0 0, .int .i64 0, .slice none 0 0, .slice none 0 0, .slice none 0 0, .bool false] 50)) = y at *
  have HRY := Lib.hid (HRW.out.up HU.out)
  obtain ⟨p0, p1, p2, p3, p4, p5, p6⟩ := B0.out.seven
  have hI := B1.out
  have q1 : y.cell? ⟨w.heap.size + 1, 1, none⟩ = some (.int .i64 (A : Int)) := cell_of_row _ _ _ _ _ _ hI
  clear hI
  have hs0 := B0.out.lt
  have hs1 := B1.out.lt
  have hs2 := B2.out.lt
  obtain ⟨bm, om, hma, hbm, e1, e2⟩ := HRY.out.elem (Up.refl y) A (by rw [HLR.out]; exact hA) HLR.out rfl
  subst hma
  rw [HK.out] at e1 e2
  have HST : Hid (∀ x b, Up y x → BoxC x b 60 #[.int .i64 k1, .int .i64 k2] → Calls Tryd.prog 20 #[.agg #[.slice ca cn cc, .slice ta tn tc, .int .i64 pc, .slice (some ⟨bl, off, none⟩) 256 xc, .slice (some ⟨bm, om, none⟩) 256 rc, .slice ma mn mc, .bool h], .int .i64 (Q : Int), .slice (some ⟨b, 0, none⟩) 1 1] x fun e w' => ∃ m', e = .returned (.tuple #[.agg #[.slice ca cn cc, .slice ta tn tc, .int .i64 pc, .slice (some ⟨bl, off, none⟩) 256 xc, .slice (some ⟨bm, om, none⟩) 256 rc, m', .bool h], .int .i64 0]) ∧ Up x w' ∧ ValsAt w' m' (stL M Q [(k1, k2)]) ∧ Fresh x.heap.size m' ∧ CapOK m') := Lib.hid (fun x b hx hb => r49_Store ca ta (some ⟨bl, off, none⟩) (some ⟨bm, om, none⟩) ma cn cc tn tc 256 xc 256 rc mc pc h M [(k1, k2)] _ mn 1 Q x (HMW.out.up (HU.out.trans hx)) (val_sl hb) HLM.out rfl (by omega) hcap hlen hcx)
  have hl1 : (stL M Q [(k1, k2)]).length = mn := by rw [stL_len _ _ _ (by rw [HLM.out]; exact hQm)]; exact HLM.out
  have HLL := Lib.hid hl1
  clear hl1
  go_region_with (go_at_call 20; refine (HST.out _ _ (((Up.refl y).alloc _).drew) ((BoxC.new y _ _).up (Up.refl _).drew)).mono ?_; rintro e z ⟨m', rfl, hz, hm', hf', hc'⟩; obtain ⟨⟨na, nc, rfl⟩, -⟩ := hm'.slice; rw [HLL.out] at hm' hf' hc' ⊢; have HUZ := Lib.hid (HU.out.trans ((((Up.refl y).alloc _).drew).trans hz)); have BZ := Lib.hid (B2.out.up ((((Up.refl y).alloc _).drew).trans hz)); have HM2 := Lib.hid hm'; have FW := Lib.hid (hf'.le ((HU.out.trans (((Up.refl y).alloc _).drew)).size)); have FX := Lib.hid (hf'.ne (B2.out.up (((Up.refl y).alloc _).drew)).lt); have HC2 := Lib.hid hc'; clear hz hm' hf' hc'; obtain ⟨z0, z1, z2, z3, z4, z5, z6⟩ := BZ.out.seven; have zf := BZ.out.frozen)
  all_goals
    go_wp2
    have HCF := Lib.hid ((((((((HM2.out).set FX.out 0 (.slice ca cn cc)).set FX.out 1 (.slice ta tn tc)).set FX.out 2 (.int .i64 pc)).set FX.out 3 (.slice (some ⟨bl, off, none⟩) 256 xc)).set FX.out 4 (.slice (some ⟨bm, om, none⟩) 256 rc)).set FX.out 5 (.slice na mn nc)).set FX.out 6 (.bool h))
    have HUF := Lib.hid ((((((((HUZ.out).setCell (p := ⟨w.heap.size + 2, 0, none⟩) (by show w.heap.size ≤ w.heap.size + 2; omega) (.slice ca cn cc)).setCell (p := ⟨w.heap.size + 2, 1, none⟩) (by show w.heap.size ≤ w.heap.size + 2; omega) (.slice ta tn tc)).setCell (p := ⟨w.heap.size + 2, 2, none⟩) (by show w.heap.size ≤ w.heap.size + 2; omega) (.int .i64 pc)).setCell (p := ⟨w.heap.size + 2, 3, none⟩) (by show w.heap.size ≤ w.heap.size + 2; omega) (.slice (some ⟨bl, off, none⟩) 256 xc)).setCell (p := ⟨w.heap.size + 2, 4, none⟩) (by show w.heap.size ≤ w.heap.size + 2; omega) (.slice (some ⟨bm, om, none⟩) 256 rc)).setCell (p := ⟨w.heap.size + 2, 5, none⟩) (by show w.heap.size ≤ w.heap.size + 2; omega) (.slice na mn nc)).setCell (p := ⟨w.heap.size + 2, 6, none⟩) (by show w.heap.size ≤ w.heap.size + 2; omega) (.bool h))
    refine bodyPost_ret (v := .tuple #[.agg #[.slice ca cn cc, .slice ta tn tc, .int .i64 pc, .slice (some ⟨bl, off, none⟩) 256 xc, .slice (some ⟨bm, om, none⟩) 256 rc, .slice na mn nc, .bool h], .int .i64 0]) (by simp [results, Tryd.results53, go_sem, *]) rfl ?_
    exact ⟨_, rfl, HUF.out, HCF.out, FW.out, HC2.out⟩
end Go.Proofs.YtbpojmhgifgfdaaDoor
