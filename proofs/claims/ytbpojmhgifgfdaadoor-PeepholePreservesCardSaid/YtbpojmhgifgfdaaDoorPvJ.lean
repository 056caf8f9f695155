/-
  The reference 49: integer, one theorem for each opcode. Printed by mkPvJ.py.
-/
import Derived.Test.YtbpojmhgifgfdaaDoorPvZ
import Derived.Test.YtbpojmhgifgfdaaDoorPeH
import Derived.Test.YtbpojmhgifgfdaaDoorPeZ
namespace Go.Proofs.YtbpojmhgifgfdaaDoor
open Go.ChangeShapes Go.WideShapes Go.ChangeAt Go.RowKit
set_option linter.unusedVariables false
set_option linter.unusedSimpArgs false
set_option maxRecDepth 100000

set_option maxHeartbeats 8000000 in
theorem r49_integer1 (ca ta ra ma xa : Option Addr) (cn cc tn tc rc mn mc xc : Nat) (pc C n1 d kd bi fr ro ov : Int) (h : Bool) (X : List Int) (A B : Nat) (w : World) (hx : IntsAt w (.slice xa 256 xc) X) (hX : X.length = 256) (hA : A < 256) (hB : B < 256) :
    Calls Tryd.prog 55 #[.agg #[.slice ca cn cc, .slice ta tn tc, .int .i64 pc, .slice xa 256 xc, .slice ra 256 rc, .slice ma mn mc, .bool h], .agg #[.int .i64 1, .int .i64 (A : Int), .int .i64 (B : Int), .int .i64 C, .int .i64 n1, .int .i64 d, .int .i64 kd, .int .i64 bi, .int .i64 fr, .int .i64 ro, .int .i64 ov]] w fun e w' => ∃ x', e = .returned (.agg #[.slice ca cn cc, .slice ta tn tc, .int .i64 pc, x', .slice ra 256 rc, .slice ma mn mc, .bool h]) ∧ Up w w' ∧ IntsAt w' x' (X.set A (B : Int)) ∧ Fresh w.heap.size x' := by
  have HU : Hid (Up w (((w.alloc (.cells #[.slice ca cn cc, .slice ta tn tc, .int .i64 pc, .slice xa 256 xc, .slice ra 256 rc, .slice ma mn mc, .bool h] 50)).alloc (.cells #[.int .i64 1, .int .i64 (A : Int), .int .i64 (B : Int), .int .i64 C, .int .i64 n1, .int .i64 d, .int .i64 kd, .int .i64 bi, .int .i64 fr, .int .i64 ro, .int .i64 ov] 64)).alloc (.cells #[.slice none 0 0, .slice none 0 0, .int .i64 0, .slice none 0 0, .slice none 0 0, .slice none 0 0, .bool false] 50))) := Lib.hid ((((Up.refl w).alloc _).alloc _).alloc _)
  have B0 : Hid (BoxC (((w.alloc (.cells #[.slice ca cn cc, .slice ta tn tc, .int .i64 pc, .slice xa 256 xc, .slice ra 256 rc, .slice ma mn mc, .bool h] 50)).alloc (.cells #[.int .i64 1, .int .i64 (A : Int), .int .i64 (B : Int), .int .i64 C, .int .i64 n1, .int .i64 d, .int .i64 kd, .int .i64 bi, .int .i64 fr, .int .i64 ro, .int .i64 ov] 64)).alloc (.cells #[.slice none 0 0, .slice none 0 0, .int .i64 0, .slice none 0 0, .slice none 0 0, .slice none 0 0, .bool false] 50)) w.heap.size 50 #[.slice ca cn cc, .slice ta tn tc, .int .i64 pc, .slice xa 256 xc, .slice ra 256 rc, .slice ma mn mc, .bool h]) := Lib.hid ((BoxC.new w _ _).up (((Up.refl _).alloc _).alloc _))
  have B1 : Hid (BoxC (((w.alloc (.cells #[.slice ca cn cc, .slice ta tn tc, .int .i64 pc, .slice xa 256 xc, .slice ra 256 rc, .slice ma mn mc, .bool h] 50)).alloc (.cells #[.int .i64 1, .int .i64 (A : Int), .int .i64 (B : Int), .int .i64 C, .int .i64 n1, .int .i64 d, .int .i64 kd, .int .i64 bi, .int .i64 fr, .int .i64 ro, .int .i64 ov] 64)).alloc (.cells #[.slice none 0 0, .slice none 0 0, .int .i64 0, .slice none 0 0, .slice none 0 0, .slice none 0 0, .bool false] 50)) (w.heap.size + 1) 64 #[.int .i64 1, .int .i64 (A : Int), .int .i64 (B : Int), .int .i64 C, .int .i64 n1, .int .i64 d, .int .i64 kd, .int .i64 bi, .int .i64 fr, .int .i64 ro, .int .i64 ov]) := Lib.hid ((BoxC.new2 w _ _ _).up ((Up.refl _).alloc _))
  have B2 : Hid (BoxC (((w.alloc (.cells #[.slice ca cn cc, .slice ta tn tc, .int .i64 pc, .slice xa 256 xc, .slice ra 256 rc, .slice ma mn mc, .bool h] 50)).alloc (.cells #[.int .i64 1, .int .i64 (A : Int), .int .i64 (B : Int), .int .i64 C, .int .i64 n1, .int .i64 d, .int .i64 kd, .int .i64 bi, .int .i64 fr, .int .i64 ro, .int .i64 ov] 64)).alloc (.cells #[.slice none 0 0, .slice none 0 0, .int .i64 0, .slice none 0 0, .slice none 0 0, .slice none 0 0, .bool false] 50)) (w.heap.size + 2) 50 #[.slice none 0 0, .slice none 0 0, .int .i64 0, .slice none 0 0, .slice none 0 0, .slice none 0 0, .bool false]) := Lib.hid (BoxC.new3 w _ _ _ _)
  have HX := Lib.hid (hx.up HU.out)
  have HXW := Lib.hid hx
  have HLX := Lib.hid hX
  clear hx hX
  go_enter Tryd.func55, Tryd.ntmps55
  have HSX := Lib.hid (fun x (hx : Up w x) => r49_setX ca ta ra ma cn cc tn tc 256 rc mn mc pc h (.slice xa 256 xc) X A (B : Int) x (HXW.out.up hx) (by rw [HLX.out]; exact hA) (by rw [HLX.out]; decide))
  go_wp2_with (go_at_call 67; refine (HSX.out _ HU.out).mono ?_; rintro e z ⟨x', rfl, hz, hxi, hxf⟩; obtain ⟨⟨na, nc, rfl⟩, -⟩ := hxi.slice; have hln : (X.set A (B : Int)).length = 256 := (by rw [List.length_set]; exact HLX.out); rw [hln] at hxi hxf ⊢; clear hln; have hlz : w.heap.size + 2 < z.heap.size := (B2.out.up hz).lt; have HUZ := Lib.hid (HU.out.trans hz); have HXI := Lib.hid hxi; have FX := Lib.hid (hxf.ne B2.out.lt); have FW := Lib.hid (hxf.le HU.out.size); replace B2 := Lib.hid (B2.out.up hz); clear hz hxi hxf; obtain ⟨z0, z1, z2, z3, z4, z5, z6⟩ := B2.out.seven; have zf := B2.out.frozen)
  have HCF := Lib.hid ((((((((HXI.out).set FX.out 0 (.slice ca cn cc)).set FX.out 1 (.slice ta tn tc)).set FX.out 2 (.int .i64 pc)).set FX.out 3 (.slice na 256 nc)).set FX.out 4 (.slice ra 256 rc)).set FX.out 5 (.slice ma mn mc)).set FX.out 6 (.bool h))
  have HUF := Lib.hid ((((((((HUZ.out).setCell (p := ⟨w.heap.size + 2, 0, none⟩) (by show w.heap.size ≤ w.heap.size + 2; omega) (.slice ca cn cc)).setCell (p := ⟨w.heap.size + 2, 1, none⟩) (by show w.heap.size ≤ w.heap.size + 2; omega) (.slice ta tn tc)).setCell (p := ⟨w.heap.size + 2, 2, none⟩) (by show w.heap.size ≤ w.heap.size + 2; omega) (.int .i64 pc)).setCell (p := ⟨w.heap.size + 2, 3, none⟩) (by show w.heap.size ≤ w.heap.size + 2; omega) (.slice na 256 nc)).setCell (p := ⟨w.heap.size + 2, 4, none⟩) (by show w.heap.size ≤ w.heap.size + 2; omega) (.slice ra 256 rc)).setCell (p := ⟨w.heap.size + 2, 5, none⟩) (by show w.heap.size ≤ w.heap.size + 2; omega) (.slice ma mn mc)).setCell (p := ⟨w.heap.size + 2, 6, none⟩) (by show w.heap.size ≤ w.heap.size + 2; omega) (.bool h))
  refine bodyPost_ret (v := .agg #[.slice ca cn cc, .slice ta tn tc, .int .i64 pc, .slice na 256 nc, .slice ra 256 rc, .slice ma mn mc, .bool h]) (by simp [results, Tryd.results55, go_sem, *]) rfl ?_
  exact ⟨_, rfl, HUF.out, HCF.out, FW.out⟩

set_option maxHeartbeats 8000000 in
theorem r49_integer2 (ca ta ra ma xa : Option Addr) (cn cc tn tc rc mn mc xc : Nat) (pc C n1 d kd bi fr ro ov : Int) (h : Bool) (X : List Int) (A B : Nat) (w : World) (hx : IntsAt w (.slice xa 256 xc) X) (hX : X.length = 256) (hA : A < 256) (hB : B < 256) :
    Calls Tryd.prog 55 #[.agg #[.slice ca cn cc, .slice ta tn tc, .int .i64 pc, .slice xa 256 xc, .slice ra 256 rc, .slice ma mn mc, .bool h], .agg #[.int .i64 2, .int .i64 (A : Int), .int .i64 (B : Int), .int .i64 C, .int .i64 n1, .int .i64 d, .int .i64 kd, .int .i64 bi, .int .i64 fr, .int .i64 ro, .int .i64 ov]] w fun e w' => ∃ x', e = .returned (.agg #[.slice ca cn cc, .slice ta tn tc, .int .i64 pc, x', .slice ra 256 rc, .slice ma mn mc, .bool h]) ∧ Up w w' ∧ IntsAt w' x' (X.set A (X.getD B 0)) ∧ Fresh w.heap.size x' := by
  have HU : Hid (Up w (((w.alloc (.cells #[.slice ca cn cc, .slice ta tn tc, .int .i64 pc, .slice xa 256 xc, .slice ra 256 rc, .slice ma mn mc, .bool h] 50)).alloc (.cells #[.int .i64 2, .int .i64 (A : Int), .int .i64 (B : Int), .int .i64 C, .int .i64 n1, .int .i64 d, .int .i64 kd, .int .i64 bi, .int .i64 fr, .int .i64 ro, .int .i64 ov] 64)).alloc (.cells #[.slice none 0 0, .slice none 0 0, .int .i64 0, .slice none 0 0, .slice none 0 0, .slice none 0 0, .bool false] 50))) := Lib.hid ((((Up.refl w).alloc _).alloc _).alloc _)
  have B0 : Hid (BoxC (((w.alloc (.cells #[.slice ca cn cc, .slice ta tn tc, .int .i64 pc, .slice xa 256 xc, .slice ra 256 rc, .slice ma mn mc, .bool h] 50)).alloc (.cells #[.int .i64 2, .int .i64 (A : Int), .int .i64 (B : Int), .int .i64 C, .int .i64 n1, .int .i64 d, .int .i64 kd, .int .i64 bi, .int .i64 fr, .int .i64 ro, .int .i64 ov] 64)).alloc (.cells #[.slice none 0 0, .slice none 0 0, .int .i64 0, .slice none 0 0, .slice none 0 0, .slice none 0 0, .bool false] 50)) w.heap.size 50 #[.slice ca cn cc, .slice ta tn tc, .int .i64 pc, .slice xa 256 xc, .slice ra 256 rc, .slice ma mn mc, .bool h]) := Lib.hid ((BoxC.new w _ _).up (((Up.refl _).alloc _).alloc _))
  have B1 : Hid (BoxC (((w.alloc (.cells #[.slice ca cn cc, .slice ta tn tc, .int .i64 pc, .slice xa 256 xc, .slice ra 256 rc, .slice ma mn mc, .bool h] 50)).alloc (.cells #[.int .i64 2, .int .i64 (A : Int), .int .i64 (B : Int), .int .i64 C, .int .i64 n1, .int .i64 d, .int .i64 kd, .int .i64 bi, .int .i64 fr, .int .i64 ro, .int .i64 ov] 64)).alloc (.cells #[.slice none 0 0, .slice none 0 0, .int .i64 0, .slice none 0 0, .slice none 0 0, .slice none 0 0, .bool false] 50)) (w.heap.size + 1) 64 #[.int .i64 2, .int .i64 (A : Int), .int .i64 (B : Int), .int .i64 C, .int .i64 n1, .int .i64 d, .int .i64 kd, .int .i64 bi, .int .i64 fr, .int .i64 ro, .int .i64 ov]) := Lib.hid ((BoxC.new2 w _ _ _).up ((Up.refl _).alloc _))
  have B2 : Hid (BoxC (((w.alloc (.cells #[.slice ca cn cc, .slice ta tn tc, .int .i64 pc, .slice xa 256 xc, .slice ra 256 rc, .slice ma mn mc, .bool h] 50)).alloc (.cells #[.int .i64 2, .int .i64 (A : Int), .int .i64 (B : Int), .int .i64 C, .int .i64 n1, .int .i64 d, .int .i64 kd, .int .i64 bi, .int .i64 fr, .int .i64 ro, .int .i64 ov] 64)).alloc (.cells #[.slice none 0 0, .slice none 0 0, .int .i64 0, .slice none 0 0, .slice none 0 0, .slice none 0 0, .bool false] 50)) (w.heap.size + 2) 50 #[.slice none 0 0, .slice none 0 0, .int .i64 0, .slice none 0 0, .slice none 0 0, .slice none 0 0, .bool false]) := Lib.hid (BoxC.new3 w _ _ _ _)
  have HX := Lib.hid (hx.up HU.out)
  have HXW := Lib.hid hx
  have HLX := Lib.hid hX
  clear hx hX
  obtain ⟨b, hb⟩ : ∃ b, X.getD B 0 = b := ⟨_, rfl⟩
  have HBB := Lib.hid hb
  rw [show (X.getD B 0) = b from by rw [hb]]
  clear hb
  go_enter Tryd.func55, Tryd.ntmps55
  have hAI : (A : Int) < 256 := by omega
  have hBI : (B : Int) < 256 := by omega
  go_wp2
  generalize (((w.alloc (.cells #[.slice ca cn cc, .slice ta tn tc, .int .i64 pc, .slice xa 256 xc, .slice ra 256 rc, .slice ma mn mc, .bool h] 50)).alloc (.cells #[.int .i64 2, .int .i64 (A : Int), .int .i64 (B : Int), .int .i64 C, .int .i64 n1, .int .i64 d, .int .i64 kd, .int .i64 bi, .int .i64 fr, .int .i64 ro, .int .i64 ov] 64)).alloc (.cells #[.slice none 0 0, .slice none 0 0, .int .i64 0, .slice none 0 0, .slice none 0 0, .slice none 0 0, .bool false] 50)) = y at *
  obtain ⟨p0, p1, p2, p3, p4, p5, p6⟩ := B0.out.seven
  have hI := B1.out
  have q1 : y.cell? ⟨w.heap.size + 1, 1, none⟩ = some (.int .i64 (A : Int)) := cell_of_row _ _ _ _ _ _ hI
  have q2 : y.cell? ⟨w.heap.size + 1, 2, none⟩ = some (.int .i64 (B : Int)) := cell_of_row _ _ _ _ _ _ hI
  have q3 : y.cell? ⟨w.heap.size + 1, 3, none⟩ = some (.int .i64 C) := cell_of_row _ _ _ _ _ _ hI
  clear hI
  have hs0 := B0.out.lt
  have hs1 := B1.out.lt
  have hs2 := B2.out.lt
  obtain ⟨bl, off, hxa, hbl, e0⟩ := HX.out.elem (Up.refl y) B (by rw [HLX.out]; exact hB) HLX.out rfl
  rw [HBB.out] at e0
  subst hxa
  have HSX := Lib.hid (fun x (hx : Up y x) => r49_setX ca ta ra ma cn cc tn tc 256 rc mn mc pc h (.slice (some ⟨bl, off, none⟩) 256 xc) X A b x (HX.out.up hx) (by rw [HLX.out]; exact hA) (by rw [HLX.out]; decide))
  clear HXW
  refine wp_region_mk 10 (fun _ _ v x => ∃ x', v = .agg #[.slice ca cn cc, .slice ta tn tc, .int .i64 pc, x', .slice ra 256 rc, .slice ma mn mc, .bool h] ∧ IntsAt x x' (X.set A b) ∧ Fresh y.heap.size x') (by kernel_rfl) (by kernel_rfl) ?_
  simp only [List.take_succ_cons, List.take_zero, List.drop_succ_cons, List.drop_zero]
  iterate 9 (refine wpMk_quiet anti_post (by kernel_rfl) ?_; go_big_quiet_step (fail); refine wpQuiet_nil ?_)
  refine wpMk_enter anti_post 67 #[.agg #[.slice ca cn cc, .slice ta tn tc, .int .i64 pc, .slice (some ⟨bl, off, none⟩) 256 xc, .slice ra 256 rc, .slice ma mn mc, .bool h], .int .i64 (A : Int), .int .i64 b] (fun v x y ⟨x', h1, h2, h3⟩ hu => ⟨x', h1, h2.up hu, h3⟩) (by kernel_rfl) (fun x => by go_simp) (fun x hx => (HSX.out x hx).mono fun e w' ⟨x', h1, h2, h3, h4⟩ => ⟨_, h1, h2, x', rfl, h3, h4.le hx.size⟩) ?_
  rintro v ⟨x0, hx0, x', rfl, hxi0, hxf0⟩
  obtain ⟨⟨na, nc, rfl⟩, -⟩ := hxi0.slice
  have hln : (X.set A b).length = 256 := by rw [List.length_set]; exact HLX.out
  rw [hln]
  simp only [Act.put, List.setIfInBounds_toArray, List.set_cons_succ, List.set_cons_zero]
  refine wpMk_nil ?_
  rintro z hz ⟨_, x', hxe, hxi, hxf⟩
  obtain rfl : x' = .slice na 256 nc := by
    injection hxe with hxe
    simp only [Array.mk.injEq, List.cons.injEq] at hxe
    exact hxe.2.2.2.1.symm
  have HUZ := Lib.hid (HU.out.trans hz)
  have HXI := Lib.hid hxi
  have FX := Lib.hid (hxf.ne hs2)
  have FW := Lib.hid (hxf.le HU.out.size)
  replace B2 := Lib.hid (B2.out.up hz)
  clear hz hxi hxf hxi0 hxf0 hln hxe
  obtain ⟨z0, z1, z2, z3, z4, z5, z6⟩ := B2.out.seven
  have zf := B2.out.frozen
  have HCF := Lib.hid ((((((((HXI.out).set FX.out 0 (.slice ca cn cc)).set FX.out 1 (.slice ta tn tc)).set FX.out 2 (.int .i64 pc)).set FX.out 3 (.slice na 256 nc)).set FX.out 4 (.slice ra 256 rc)).set FX.out 5 (.slice ma mn mc)).set FX.out 6 (.bool h))
  have HUF := Lib.hid ((((((((HUZ.out).setCell (p := ⟨w.heap.size + 2, 0, none⟩) (by show w.heap.size ≤ w.heap.size + 2; omega) (.slice ca cn cc)).setCell (p := ⟨w.heap.size + 2, 1, none⟩) (by show w.heap.size ≤ w.heap.size + 2; omega) (.slice ta tn tc)).setCell (p := ⟨w.heap.size + 2, 2, none⟩) (by show w.heap.size ≤ w.heap.size + 2; omega) (.int .i64 pc)).setCell (p := ⟨w.heap.size + 2, 3, none⟩) (by show w.heap.size ≤ w.heap.size + 2; omega) (.slice na 256 nc)).setCell (p := ⟨w.heap.size + 2, 4, none⟩) (by show w.heap.size ≤ w.heap.size + 2; omega) (.slice ra 256 rc)).setCell (p := ⟨w.heap.size + 2, 5, none⟩) (by show w.heap.size ≤ w.heap.size + 2; omega) (.slice ma mn mc)).setCell (p := ⟨w.heap.size + 2, 6, none⟩) (by show w.heap.size ≤ w.heap.size + 2; omega) (.bool h))
  go_wp2
  refine bodyPost_ret (v := .agg #[.slice ca cn cc, .slice ta tn tc, .int .i64 pc, .slice na 256 nc, .slice ra 256 rc, .slice ma mn mc, .bool h]) (by simp [results, Tryd.results55, go_sem, *]) rfl ?_
  exact ⟨_, rfl, HUF.out, HCF.out, FW.out⟩

set_option maxHeartbeats 8000000 in
theorem r49_integer3 (ca ta ra ma xa : Option Addr) (cn cc tn tc rc mn mc xc : Nat) (pc n1 d kd bi fr ro ov : Int) (h : Bool) (X : List Int) (A B D : Nat) (w : World) (hx : IntsAt w (.slice xa 256 xc) X) (hX : X.length = 256) (hA : A < 256) (hB : B < 256) (hD : D < 256) :
    Calls Tryd.prog 55 #[.agg #[.slice ca cn cc, .slice ta tn tc, .int .i64 pc, .slice xa 256 xc, .slice ra 256 rc, .slice ma mn mc, .bool h], .agg #[.int .i64 3, .int .i64 (A : Int), .int .i64 (B : Int), .int .i64 (D : Int), .int .i64 n1, .int .i64 d, .int .i64 kd, .int .i64 bi, .int .i64 fr, .int .i64 ro, .int .i64 ov]] w fun e w' => ∃ x', e = .returned (.agg #[.slice ca cn cc, .slice ta tn tc, .int .i64 pc, x', .slice ra 256 rc, .slice ma mn mc, .bool h]) ∧ Up w w' ∧ IntsAt w' x' (X.set A (wrap64 (X.getD B 0 + X.getD D 0))) ∧ Fresh w.heap.size x' := by
  have HU : Hid (Up w (((w.alloc (.cells #[.slice ca cn cc, .slice ta tn tc, .int .i64 pc, .slice xa 256 xc, .slice ra 256 rc, .slice ma mn mc, .bool h] 50)).alloc (.cells #[.int .i64 3, .int .i64 (A : Int), .int .i64 (B : Int), .int .i64 (D : Int), .int .i64 n1, .int .i64 d, .int .i64 kd, .int .i64 bi, .int .i64 fr, .int .i64 ro, .int .i64 ov] 64)).alloc (.cells #[.slice none 0 0, .slice none 0 0, .int .i64 0, .slice none 0 0, .slice none 0 0, .slice none 0 0, .bool false] 50))) := Lib.hid ((((Up.refl w).alloc _).alloc _).alloc _)
  have B0 : Hid (BoxC (((w.alloc (.cells #[.slice ca cn cc, .slice ta tn tc, .int .i64 pc, .slice xa 256 xc, .slice ra 256 rc, .slice ma mn mc, .bool h] 50)).alloc (.cells #[.int .i64 3, .int .i64 (A : Int), .int .i64 (B : Int), .int .i64 (D : Int), .int .i64 n1, .int .i64 d, .int .i64 kd, .int .i64 bi, .int .i64 fr, .int .i64 ro, .int .i64 ov] 64)).alloc (.cells #[.slice none 0 0, .slice none 0 0, .int .i64 0, .slice none 0 0, .slice none 0 0, .slice none 0 0, .bool false] 50)) w.heap.size 50 #[.slice ca cn cc, .slice ta tn tc, .int .i64 pc, .slice xa 256 xc, .slice ra 256 rc, .slice ma mn mc, .bool h]) := Lib.hid ((BoxC.new w _ _).up (((Up.refl _).alloc _).alloc _))
  have B1 : Hid (BoxC (((w.alloc (.cells #[.slice ca cn cc, .slice ta tn tc, .int .i64 pc, .slice xa 256 xc, .slice ra 256 rc, .slice ma mn mc, .bool h] 50)).alloc (.cells #[.int .i64 3, .int .i64 (A : Int), .int .i64 (B : Int), .int .i64 (D : Int), .int .i64 n1, .int .i64 d, .int .i64 kd, .int .i64 bi, .int .i64 fr, .int .i64 ro, .int .i64 ov] 64)).alloc (.cells #[.slice none 0 0, .slice none 0 0, .int .i64 0, .slice none 0 0, .slice none 0 0, .slice none 0 0, .bool false] 50)) (w.heap.size + 1) 64 #[.int .i64 3, .int .i64 (A : Int), .int .i64 (B : Int), .int .i64 (D : Int), .int .i64 n1, .int .i64 d, .int .i64 kd, .int .i64 bi, .int .i64 fr, .int .i64 ro, .int .i64 ov]) := Lib.hid ((BoxC.new2 w _ _ _).up ((Up.refl _).alloc _))
  have B2 : Hid (BoxC (((w.alloc (.cells #[.slice ca cn cc, .slice ta tn tc, .int .i64 pc, .slice xa 256 xc, .slice ra 256 rc, .slice ma mn mc, .bool h] 50)).alloc (.cells #[.int .i64 3, .int .i64 (A : Int), .int .i64 (B : Int), .int .i64 (D : Int), .int .i64 n1, .int .i64 d, .int .i64 kd, .int .i64 bi, .int .i64 fr, .int .i64 ro, .int .i64 ov] 64)).alloc (.cells #[.slice none 0 0, .slice none 0 0, .int .i64 0, .slice none 0 0, .slice none 0 0, .slice none 0 0, .bool false] 50)) (w.heap.size + 2) 50 #[.slice none 0 0, .slice none 0 0, .int .i64 0, .slice none 0 0, .slice none 0 0, .slice none 0 0, .bool false]) := Lib.hid (BoxC.new3 w _ _ _ _)
  have HX := Lib.hid (hx.up HU.out)
  have HXW := Lib.hid hx
  have HLX := Lib.hid hX
  clear hx hX
  obtain ⟨b, hb⟩ : ∃ b, X.getD B 0 = b := ⟨_, rfl⟩
  have HBB := Lib.hid hb
  obtain ⟨c, hc⟩ : ∃ c, X.getD D 0 = c := ⟨_, rfl⟩
  have HCC := Lib.hid hc
  rw [show (wrap64 (X.getD B 0 + X.getD D 0)) = (wrap64 (b + c)) from by rw [hb, hc]]
  clear hb hc
  go_enter Tryd.func55, Tryd.ntmps55
  have hAI : (A : Int) < 256 := by omega
  have hBI : (B : Int) < 256 := by omega
  go_wp2
  generalize (((w.alloc (.cells #[.slice ca cn cc, .slice ta tn tc, .int .i64 pc, .slice xa 256 xc, .slice ra 256 rc, .slice ma mn mc, .bool h] 50)).alloc (.cells #[.int .i64 3, .int .i64 (A : Int), .int .i64 (B : Int), .int .i64 (D : Int), .int .i64 n1, .int .i64 d, .int .i64 kd, .int .i64 bi, .int .i64 fr, .int .i64 ro, .int .i64 ov] 64)).alloc (.cells #[.slice none 0 0, .slice none 0 0, .int .i64 0, .slice none 0 0, .slice none 0 0, .slice none 0 0, .bool false] 50)) = y at *
  obtain ⟨p0, p1, p2, p3, p4, p5, p6⟩ := B0.out.seven
  have hI := B1.out
  have q1 : y.cell? ⟨w.heap.size + 1, 1, none⟩ = some (.int .i64 (A : Int)) := cell_of_row _ _ _ _ _ _ hI
  have q2 : y.cell? ⟨w.heap.size + 1, 2, none⟩ = some (.int .i64 (B : Int)) := cell_of_row _ _ _ _ _ _ hI
  have q3 : y.cell? ⟨w.heap.size + 1, 3, none⟩ = some (.int .i64 (D : Int)) := cell_of_row _ _ _ _ _ _ hI
  clear hI
  have hs0 := B0.out.lt
  have hs1 := B1.out.lt
  have hs2 := B2.out.lt
  obtain ⟨bl, off, hxa, hbl, e0⟩ := HX.out.elem (Up.refl y) B (by rw [HLX.out]; exact hB) HLX.out rfl
  rw [HBB.out] at e0
  have hDI : (D : Int) < 256 := by omega
  obtain ⟨bl', off', hxa', hbl', e1⟩ := HX.out.elem (Up.refl y) D (by rw [HLX.out]; exact hD) HLX.out rfl
  rw [HCC.out] at e1
  rw [hxa] at hxa'
  cases hxa'
  subst hxa
  have HSX := Lib.hid (fun x (hx : Up y x) => r49_setX ca ta ra ma cn cc tn tc 256 rc mn mc pc h (.slice (some ⟨bl, off, none⟩) 256 xc) X A (wrap64 (b + c)) x (HX.out.up hx) (by rw [HLX.out]; exact hA) (by rw [HLX.out]; decide))
  clear HXW
  refine wp_region_mk 17 (fun _ _ v x => ∃ x', v = .agg #[.slice ca cn cc, .slice ta tn tc, .int .i64 pc, x', .slice ra 256 rc, .slice ma mn mc, .bool h] ∧ IntsAt x x' (X.set A (wrap64 (b + c))) ∧ Fresh y.heap.size x') (by kernel_rfl) (by kernel_rfl) ?_
  simp only [List.take_succ_cons, List.take_zero, List.drop_succ_cons, List.drop_zero]
  iterate 16 (refine wpMk_quiet anti_post (by kernel_rfl) ?_; go_big_quiet_step (fail); refine wpQuiet_nil ?_)
  refine wpMk_enter anti_post 67 #[.agg #[.slice ca cn cc, .slice ta tn tc, .int .i64 pc, .slice (some ⟨bl, off, none⟩) 256 xc, .slice ra 256 rc, .slice ma mn mc, .bool h], .int .i64 (A : Int), .int .i64 (wrap64 (b + c))] (fun v x y ⟨x', h1, h2, h3⟩ hu => ⟨x', h1, h2.up hu, h3⟩) (by kernel_rfl) (fun x => by go_simp) (fun x hx => (HSX.out x hx).mono fun e w' ⟨x', h1, h2, h3, h4⟩ => ⟨_, h1, h2, x', rfl, h3, h4.le hx.size⟩) ?_
  rintro v ⟨x0, hx0, x', rfl, hxi0, hxf0⟩
  obtain ⟨⟨na, nc, rfl⟩, -⟩ := hxi0.slice
  have hln : (X.set A (wrap64 (b + c))).length = 256 := by rw [List.length_set]; exact HLX.out
  rw [hln]
  simp only [Act.put, List.setIfInBounds_toArray, List.set_cons_succ, List.set_cons_zero]
  refine wpMk_nil ?_
  rintro z hz ⟨_, x', hxe, hxi, hxf⟩
  obtain rfl : x' = .slice na 256 nc := by
    injection hxe with hxe
    simp only [Array.mk.injEq, List.cons.injEq] at hxe
    exact hxe.2.2.2.1.symm
  have HUZ := Lib.hid (HU.out.trans hz)
  have HXI := Lib.hid hxi
  have FX := Lib.hid (hxf.ne hs2)
  have FW := Lib.hid (hxf.le HU.out.size)
  replace B2 := Lib.hid (B2.out.up hz)
  clear hz hxi hxf hxi0 hxf0 hln hxe
  obtain ⟨z0, z1, z2, z3, z4, z5, z6⟩ := B2.out.seven
  have zf := B2.out.frozen
  have HCF := Lib.hid ((((((((HXI.out).set FX.out 0 (.slice ca cn cc)).set FX.out 1 (.slice ta tn tc)).set FX.out 2 (.int .i64 pc)).set FX.out 3 (.slice na 256 nc)).set FX.out 4 (.slice ra 256 rc)).set FX.out 5 (.slice ma mn mc)).set FX.out 6 (.bool h))
  have HUF := Lib.hid ((((((((HUZ.out).setCell (p := ⟨w.heap.size + 2, 0, none⟩) (by show w.heap.size ≤ w.heap.size + 2; omega) (.slice ca cn cc)).setCell (p := ⟨w.heap.size + 2, 1, none⟩) (by show w.heap.size ≤ w.heap.size + 2; omega) (.slice ta tn tc)).setCell (p := ⟨w.heap.size + 2, 2, none⟩) (by show w.heap.size ≤ w.heap.size + 2; omega) (.int .i64 pc)).setCell (p := ⟨w.heap.size + 2, 3, none⟩) (by show w.heap.size ≤ w.heap.size + 2; omega) (.slice na 256 nc)).setCell (p := ⟨w.heap.size + 2, 4, none⟩) (by show w.heap.size ≤ w.heap.size + 2; omega) (.slice ra 256 rc)).setCell (p := ⟨w.heap.size + 2, 5, none⟩) (by show w.heap.size ≤ w.heap.size + 2; omega) (.slice ma mn mc)).setCell (p := ⟨w.heap.size + 2, 6, none⟩) (by show w.heap.size ≤ w.heap.size + 2; omega) (.bool h))
  go_wp2
  refine bodyPost_ret (v := .agg #[.slice ca cn cc, .slice ta tn tc, .int .i64 pc, .slice na 256 nc, .slice ra 256 rc, .slice ma mn mc, .bool h]) (by simp [results, Tryd.results55, go_sem, *]) rfl ?_
  exact ⟨_, rfl, HUF.out, HCF.out, FW.out⟩

set_option maxHeartbeats 8000000 in
theorem r49_integer5 (ca ta ra ma xa : Option Addr) (cn cc tn tc rc mn mc xc : Nat) (pc n1 d kd bi fr ro ov : Int) (h : Bool) (X : List Int) (A B D : Nat) (w : World) (hx : IntsAt w (.slice xa 256 xc) X) (hX : X.length = 256) (hA : A < 256) (hB : B < 256) (hD : D < 256) :
    Calls Tryd.prog 55 #[.agg #[.slice ca cn cc, .slice ta tn tc, .int .i64 pc, .slice xa 256 xc, .slice ra 256 rc, .slice ma mn mc, .bool h], .agg #[.int .i64 5, .int .i64 (A : Int), .int .i64 (B : Int), .int .i64 (D : Int), .int .i64 n1, .int .i64 d, .int .i64 kd, .int .i64 bi, .int .i64 fr, .int .i64 ro, .int .i64 ov]] w fun e w' => ∃ x', e = .returned (.agg #[.slice ca cn cc, .slice ta tn tc, .int .i64 pc, x', .slice ra 256 rc, .slice ma mn mc, .bool h]) ∧ Up w w' ∧ IntsAt w' x' (X.set A (min (X.getD B 0) (X.getD D 0))) ∧ Fresh w.heap.size x' := by
  have HU : Hid (Up w (((w.alloc (.cells #[.slice ca cn cc, .slice ta tn tc, .int .i64 pc, .slice xa 256 xc, .slice ra 256 rc, .slice ma mn mc, .bool h] 50)).alloc (.cells #[.int .i64 5, .int .i64 (A : Int), .int .i64 (B : Int), .int .i64 (D : Int), .int .i64 n1, .int .i64 d, .int .i64 kd, .int .i64 bi, .int .i64 fr, .int .i64 ro, .int .i64 ov] 64)).alloc (.cells #[.slice none 0 0, .slice none 0 0, .int .i64 0, .slice none 0 0, .slice none 0 0, .slice none 0 0, .bool false] 50))) := Lib.hid ((((Up.refl w).alloc _).alloc _).alloc _)
  have B0 : Hid (BoxC (((w.alloc (.cells #[.slice ca cn cc, .slice ta tn tc, .int .i64 pc, .slice xa 256 xc, .slice ra 256 rc, .slice ma mn mc, .bool h] 50)).alloc (.cells #[.int .i64 5, .int .i64 (A : Int), .int .i64 (B : Int), .int .i64 (D : Int), .int .i64 n1, .int .i64 d, .int .i64 kd, .int .i64 bi, .int .i64 fr, .int .i64 ro, .int .i64 ov] 64)).alloc (.cells #[.slice none 0 0, .slice none 0 0, .int .i64 0, .slice none 0 0, .slice none 0 0, .slice none 0 0, .bool false] 50)) w.heap.size 50 #[.slice ca cn cc, .slice ta tn tc, .int .i64 pc, .slice xa 256 xc, .slice ra 256 rc, .slice ma mn mc, .bool h]) := Lib.hid ((BoxC.new w _ _).up (((Up.refl _).alloc _).alloc _))
  have B1 : Hid (BoxC (((w.alloc (.cells #[.slice ca cn cc, .slice ta tn tc, .int .i64 pc, .slice xa 256 xc, .slice ra 256 rc, .slice ma mn mc, .bool h] 50)).alloc (.cells #[.int .i64 5, .int .i64 (A : Int), .int .i64 (B : Int), .int .i64 (D : Int), .int .i64 n1, .int .i64 d, .int .i64 kd, .int .i64 bi, .int .i64 fr, .int .i64 ro, .int .i64 ov] 64)).alloc (.cells #[.slice none 0 0, .slice none 0 0, .int .i64 0, .slice none 0 0, .slice none 0 0, .slice none 0 0, .bool false] 50)) (w.heap.size + 1) 64 #[.int .i64 5, .int .i64 (A : Int), .int .i64 (B : Int), .int .i64 (D : Int), .int .i64 n1, .int .i64 d, .int .i64 kd, .int .i64 bi, .int .i64 fr, .int .i64 ro, .int .i64 ov]) := Lib.hid ((BoxC.new2 w _ _ _).up ((Up.refl _).alloc _))
  have B2 : Hid (BoxC (((w.alloc (.cells #[.slice ca cn cc, .slice ta tn tc, .int .i64 pc, .slice xa 256 xc, .slice ra 256 rc, .slice ma mn mc, .bool h] 50)).alloc (.cells #[.int .i64 5, .int .i64 (A : Int), .int .i64 (B : Int), .int .i64 (D : Int), .int .i64 n1, .int .i64 d, .int .i64 kd, .int .i64 bi, .int .i64 fr, .int .i64 ro, .int .i64 ov] 64)).alloc (.cells #[.slice none 0 0, .slice none 0 0, .int .i64 0, .slice none 0 0, .slice none 0 0, .slice none 0 0, .bool false] 50)) (w.heap.size + 2) 50 #[.slice none 0 0, .slice none 0 0, .int .i64 0, .slice none 0 0, .slice none 0 0, .slice none 0 0, .bool false]) := Lib.hid (BoxC.new3 w _ _ _ _)
  have HX := Lib.hid (hx.up HU.out)
  have HXW := Lib.hid hx
  have HLX := Lib.hid hX
  clear hx hX
  obtain ⟨b, hb⟩ : ∃ b, X.getD B 0 = b := ⟨_, rfl⟩
  have HBB := Lib.hid hb
  obtain ⟨c, hc⟩ : ∃ c, X.getD D 0 = c := ⟨_, rfl⟩
  have HCC := Lib.hid hc
  rw [show (min (X.getD B 0) (X.getD D 0)) = (min b c) from by rw [hb, hc]]
  clear hb hc
  go_enter Tryd.func55, Tryd.ntmps55
  have hAI : (A : Int) < 256 := by omega
  have hBI : (B : Int) < 256 := by omega
  go_wp2
  generalize (((w.alloc (.cells #[.slice ca cn cc, .slice ta tn tc, .int .i64 pc, .slice xa 256 xc, .slice ra 256 rc, .slice ma mn mc, .bool h] 50)).alloc (.cells #[.int .i64 5, .int .i64 (A : Int), .int .i64 (B : Int), .int .i64 (D : Int), .int .i64 n1, .int .i64 d, .int .i64 kd, .int .i64 bi, .int .i64 fr, .int .i64 ro, .int .i64 ov] 64)).alloc (.cells #[.slice none 0 0, .slice none 0 0, .int .i64 0, .slice none 0 0, .slice none 0 0, .slice none 0 0, .bool false] 50)) = y at *
  obtain ⟨p0, p1, p2, p3, p4, p5, p6⟩ := B0.out.seven
  have hI := B1.out
  have q1 : y.cell? ⟨w.heap.size + 1, 1, none⟩ = some (.int .i64 (A : Int)) := cell_of_row _ _ _ _ _ _ hI
  have q2 : y.cell? ⟨w.heap.size + 1, 2, none⟩ = some (.int .i64 (B : Int)) := cell_of_row _ _ _ _ _ _ hI
  have q3 : y.cell? ⟨w.heap.size + 1, 3, none⟩ = some (.int .i64 (D : Int)) := cell_of_row _ _ _ _ _ _ hI
  clear hI
  have hs0 := B0.out.lt
  have hs1 := B1.out.lt
  have hs2 := B2.out.lt
  obtain ⟨bl, off, hxa, hbl, e0⟩ := HX.out.elem (Up.refl y) B (by rw [HLX.out]; exact hB) HLX.out rfl
  rw [HBB.out] at e0
  have hDI : (D : Int) < 256 := by omega
  obtain ⟨bl', off', hxa', hbl', e1⟩ := HX.out.elem (Up.refl y) D (by rw [HLX.out]; exact hD) HLX.out rfl
  rw [HCC.out] at e1
  rw [hxa] at hxa'
  cases hxa'
  subst hxa
  have HSX := Lib.hid (fun x (hx : Up y x) => r49_setX ca ta ra ma cn cc tn tc 256 rc mn mc pc h (.slice (some ⟨bl, off, none⟩) 256 xc) X A (min b c) x (HX.out.up hx) (by rw [HLX.out]; exact hA) (by rw [HLX.out]; decide))
  clear HXW
  refine wp_region_mk 17 (fun _ _ v x => ∃ x', v = .agg #[.slice ca cn cc, .slice ta tn tc, .int .i64 pc, x', .slice ra 256 rc, .slice ma mn mc, .bool h] ∧ IntsAt x x' (X.set A (min b c)) ∧ Fresh y.heap.size x') (by kernel_rfl) (by kernel_rfl) ?_
  simp only [List.take_succ_cons, List.take_zero, List.drop_succ_cons, List.drop_zero]
  iterate 15 (refine wpMk_quiet anti_post (by kernel_rfl) ?_; go_big_quiet_step (fail); refine wpQuiet_nil ?_)
  refine wpMk_any anti_post (fun v _ => v = .int .i64 (min b c)) (fun v x y h hu => h) (by kernel_rfl) (fun x hx => ⟨.int .i64 (min b c), x, by (go_simp; (repeat' split) <;> omega), Up.refl x, rfl⟩) ?_
  rintro v ⟨y', hy', rfl⟩
  simp only [Act.put, List.setIfInBounds_toArray, List.set_cons_succ, List.set_cons_zero]
  refine wpMk_enter anti_post 67 #[.agg #[.slice ca cn cc, .slice ta tn tc, .int .i64 pc, .slice (some ⟨bl, off, none⟩) 256 xc, .slice ra 256 rc, .slice ma mn mc, .bool h], .int .i64 (A : Int), .int .i64 (min b c)] (fun v x y ⟨x', h1, h2, h3⟩ hu => ⟨x', h1, h2.up hu, h3⟩) (by kernel_rfl) (fun x => by go_simp) (fun x hx => (HSX.out x hx).mono fun e w' ⟨x', h1, h2, h3, h4⟩ => ⟨_, h1, h2, x', rfl, h3, h4.le hx.size⟩) ?_
  rintro v ⟨x0, hx0, x', rfl, hxi0, hxf0⟩
  obtain ⟨⟨na, nc, rfl⟩, -⟩ := hxi0.slice
  have hln : (X.set A (min b c)).length = 256 := by rw [List.length_set]; exact HLX.out
  rw [hln]
  simp only [Act.put, List.setIfInBounds_toArray, List.set_cons_succ, List.set_cons_zero]
  refine wpMk_nil ?_
  rintro z hz ⟨_, x', hxe, hxi, hxf⟩
  obtain rfl : x' = .slice na 256 nc := by
    injection hxe with hxe
    simp only [Array.mk.injEq, List.cons.injEq] at hxe
    exact hxe.2.2.2.1.symm
  have HUZ := Lib.hid (HU.out.trans hz)
  have HXI := Lib.hid hxi
  have FX := Lib.hid (hxf.ne hs2)
  have FW := Lib.hid (hxf.le HU.out.size)
  replace B2 := Lib.hid (B2.out.up hz)
  clear hz hxi hxf hxi0 hxf0 hln hxe
  obtain ⟨z0, z1, z2, z3, z4, z5, z6⟩ := B2.out.seven
  have zf := B2.out.frozen
  have HCF := Lib.hid ((((((((HXI.out).set FX.out 0 (.slice ca cn cc)).set FX.out 1 (.slice ta tn tc)).set FX.out 2 (.int .i64 pc)).set FX.out 3 (.slice na 256 nc)).set FX.out 4 (.slice ra 256 rc)).set FX.out 5 (.slice ma mn mc)).set FX.out 6 (.bool h))
  have HUF := Lib.hid ((((((((HUZ.out).setCell (p := ⟨w.heap.size + 2, 0, none⟩) (by show w.heap.size ≤ w.heap.size + 2; omega) (.slice ca cn cc)).setCell (p := ⟨w.heap.size + 2, 1, none⟩) (by show w.heap.size ≤ w.heap.size + 2; omega) (.slice ta tn tc)).setCell (p := ⟨w.heap.size + 2, 2, none⟩) (by show w.heap.size ≤ w.heap.size + 2; omega) (.int .i64 pc)).setCell (p := ⟨w.heap.size + 2, 3, none⟩) (by show w.heap.size ≤ w.heap.size + 2; omega) (.slice na 256 nc)).setCell (p := ⟨w.heap.size + 2, 4, none⟩) (by show w.heap.size ≤ w.heap.size + 2; omega) (.slice ra 256 rc)).setCell (p := ⟨w.heap.size + 2, 5, none⟩) (by show w.heap.size ≤ w.heap.size + 2; omega) (.slice ma mn mc)).setCell (p := ⟨w.heap.size + 2, 6, none⟩) (by show w.heap.size ≤ w.heap.size + 2; omega) (.bool h))
  go_wp2
  refine bodyPost_ret (v := .agg #[.slice ca cn cc, .slice ta tn tc, .int .i64 pc, .slice na 256 nc, .slice ra 256 rc, .slice ma mn mc, .bool h]) (by simp [results, Tryd.results55, go_sem, *]) rfl ?_
  exact ⟨_, rfl, HUF.out, HCF.out, FW.out⟩

set_option maxHeartbeats 8000000 in
theorem r49_integer6 (ca ta ra ma xa : Option Addr) (cn cc tn tc rc mn mc xc : Nat) (pc n1 d kd bi fr ro ov : Int) (h : Bool) (X : List Int) (A B D : Nat) (w : World) (hx : IntsAt w (.slice xa 256 xc) X) (hX : X.length = 256) (hA : A < 256) (hB : B < 256) (hD : D < 256) :
    Calls Tryd.prog 55 #[.agg #[.slice ca cn cc, .slice ta tn tc, .int .i64 pc, .slice xa 256 xc, .slice ra 256 rc, .slice ma mn mc, .bool h], .agg #[.int .i64 6, .int .i64 (A : Int), .int .i64 (B : Int), .int .i64 (D : Int), .int .i64 n1, .int .i64 d, .int .i64 kd, .int .i64 bi, .int .i64 fr, .int .i64 ro, .int .i64 ov]] w fun e w' => ∃ x', e = .returned (.agg #[.slice ca cn cc, .slice ta tn tc, .int .i64 pc, x', .slice ra 256 rc, .slice ma mn mc, .bool h]) ∧ Up w w' ∧ IntsAt w' x' (X.set A (max (X.getD B 0) (X.getD D 0))) ∧ Fresh w.heap.size x' := by
  have HU : Hid (Up w (((w.alloc (.cells #[.slice ca cn cc, .slice ta tn tc, .int .i64 pc, .slice xa 256 xc, .slice ra 256 rc, .slice ma mn mc, .bool h] 50)).alloc (.cells #[.int .i64 6, .int .i64 (A : Int), .int .i64 (B : Int), .int .i64 (D : Int), .int .i64 n1, .int .i64 d, .int .i64 kd, .int .i64 bi, .int .i64 fr, .int .i64 ro, .int .i64 ov] 64)).alloc (.cells #[.slice none 0 0, .slice none 0 0, .int .i64 0, .slice none 0 0, .slice none 0 0, .slice none 0 0, .bool false] 50))) := Lib.hid ((((Up.refl w).alloc _).alloc _).alloc _)
  have B0 : Hid (BoxC (((w.alloc (.cells #[.slice ca cn cc, .slice ta tn tc, .int .i64 pc, .slice xa 256 xc, .slice ra 256 rc, .slice ma mn mc, .bool h] 50)).alloc (.cells #[.int .i64 6, .int .i64 (A : Int), .int .i64 (B : Int), .int .i64 (D : Int), .int .i64 n1, .int .i64 d, .int .i64 kd, .int .i64 bi, .int .i64 fr, .int .i64 ro, .int .i64 ov] 64)).alloc (.cells #[.slice none 0 0, .slice none 0 0, .int .i64 0, .slice none 0 0, .slice none 0 0, .slice none 0 0, .bool false] 50)) w.heap.size 50 #[.slice ca cn cc, .slice ta tn tc, .int .i64 pc, .slice xa 256 xc, .slice ra 256 rc, .slice ma mn mc, .bool h]) := Lib.hid ((BoxC.new w _ _).up (((Up.refl _).alloc _).alloc _))
  have B1 : Hid (BoxC (((w.alloc (.cells #[.slice ca cn cc, .slice ta tn tc, .int .i64 pc, .slice xa 256 xc, .slice ra 256 rc, .slice ma mn mc, .bool h] 50)).alloc (.cells #[.int .i64 6, .int .i64 (A : Int), .int .i64 (B : Int), .int .i64 (D : Int), .int .i64 n1, .int .i64 d, .int .i64 kd, .int .i64 bi, .int .i64 fr, .int .i64 ro, .int .i64 ov] 64)).alloc (.cells #[.slice none 0 0, .slice none 0 0, .int .i64 0, .slice none 0 0, .slice none 0 0, .slice none 0 0, .bool false] 50)) (w.heap.size + 1) 64 #[.int .i64 6, .int .i64 (A : Int), .int .i64 (B : Int), .int .i64 (D : Int), .int .i64 n1, .int .i64 d, .int .i64 kd, .int .i64 bi, .int .i64 fr, .int .i64 ro, .int .i64 ov]) := Lib.hid ((BoxC.new2 w _ _ _).up ((Up.refl _).alloc _))
  have B2 : Hid (BoxC (((w.alloc (.cells #[.slice ca cn cc, .slice ta tn tc, .int .i64 pc, .slice xa 256 xc, .slice ra 256 rc, .slice ma mn mc, .bool h] 50)).alloc (.cells #[.int .i64 6, .int .i64 (A : Int), .int .i64 (B : Int), .int .i64 (D : Int), .int .i64 n1, .int .i64 d, .int .i64 kd, .int .i64 bi, .int .i64 fr, .int .i64 ro, .int .i64 ov] 64)).alloc (.cells #[.slice none 0 0, .slice none 0 0, .int .i64 0, .slice none 0 0, .slice none 0 0, .slice none 0 0, .bool false] 50)) (w.heap.size + 2) 50 #[.slice none 0 0, .slice none 0 0, .int .i64 0, .slice none 0 0, .slice none 0 0, .slice none 0 0, .bool false]) := Lib.hid (BoxC.new3 w _ _ _ _)
  have HX := Lib.hid (hx.up HU.out)
  have HXW := Lib.hid hx
  have HLX := Lib.hid hX
  clear hx hX
  obtain ⟨b, hb⟩ : ∃ b, X.getD B 0 = b := ⟨_, rfl⟩
  have HBB := Lib.hid hb
  obtain ⟨c, hc⟩ : ∃ c, X.getD D 0 = c := ⟨_, rfl⟩
  have HCC := Lib.hid hc
  rw [show (max (X.getD B 0) (X.getD D 0)) = (max b c) from by rw [hb, hc]]
  clear hb hc
  go_enter Tryd.func55, Tryd.ntmps55
  have hAI : (A : Int) < 256 := by omega
  have hBI : (B : Int) < 256 := by omega
  go_wp2
  generalize (((w.alloc (.cells #[.slice ca cn cc, .slice ta tn tc, .int .i64 pc, .slice xa 256 xc, .slice ra 256 rc, .slice ma mn mc, .bool h] 50)).alloc (.cells #[.int .i64 6, .int .i64 (A : Int), .int .i64 (B : Int), .int .i64 (D : Int), .int .i64 n1, .int .i64 d, .int .i64 kd, .int .i64 bi, .int .i64 fr, .int .i64 ro, .int .i64 ov] 64)).alloc (.cells #[.slice none 0 0, .slice none 0 0, .int .i64 0, .slice none 0 0, .slice none 0 0, .slice none 0 0, .bool false] 50)) = y at *
  obtain ⟨p0, p1, p2, p3, p4, p5, p6⟩ := B0.out.seven
  have hI := B1.out
  have q1 : y.cell? ⟨w.heap.size + 1, 1, none⟩ = some (.int .i64 (A : Int)) := cell_of_row _ _ _ _ _ _ hI
  have q2 : y.cell? ⟨w.heap.size + 1, 2, none⟩ = some (.int .i64 (B : Int)) := cell_of_row _ _ _ _ _ _ hI
  have q3 : y.cell? ⟨w.heap.size + 1, 3, none⟩ = some (.int .i64 (D : Int)) := cell_of_row _ _ _ _ _ _ hI
  clear hI
  have hs0 := B0.out.lt
  have hs1 := B1.out.lt
  have hs2 := B2.out.lt
  obtain ⟨bl, off, hxa, hbl, e0⟩ := HX.out.elem (Up.refl y) B (by rw [HLX.out]; exact hB) HLX.out rfl
  rw [HBB.out] at e0
  have hDI : (D : Int) < 256 := by omega
  obtain ⟨bl', off', hxa', hbl', e1⟩ := HX.out.elem (Up.refl y) D (by rw [HLX.out]; exact hD) HLX.out rfl
  rw [HCC.out] at e1
  rw [hxa] at hxa'
  cases hxa'
  subst hxa
  have HSX := Lib.hid (fun x (hx : Up y x) => r49_setX ca ta ra ma cn cc tn tc 256 rc mn mc pc h (.slice (some ⟨bl, off, none⟩) 256 xc) X A (max b c) x (HX.out.up hx) (by rw [HLX.out]; exact hA) (by rw [HLX.out]; decide))
  clear HXW
  refine wp_region_mk 17 (fun _ _ v x => ∃ x', v = .agg #[.slice ca cn cc, .slice ta tn tc, .int .i64 pc, x', .slice ra 256 rc, .slice ma mn mc, .bool h] ∧ IntsAt x x' (X.set A (max b c)) ∧ Fresh y.heap.size x') (by kernel_rfl) (by kernel_rfl) ?_
  simp only [List.take_succ_cons, List.take_zero, List.drop_succ_cons, List.drop_zero]
  iterate 15 (refine wpMk_quiet anti_post (by kernel_rfl) ?_; go_big_quiet_step (fail); refine wpQuiet_nil ?_)
  refine wpMk_any anti_post (fun v _ => v = .int .i64 (max b c)) (fun v x y h hu => h) (by kernel_rfl) (fun x hx => ⟨.int .i64 (max b c), x, by (go_simp; (repeat' split) <;> omega), Up.refl x, rfl⟩) ?_
  rintro v ⟨y', hy', rfl⟩
  simp only [Act.put, List.setIfInBounds_toArray, List.set_cons_succ, List.set_cons_zero]
  refine wpMk_enter anti_post 67 #[.agg #[.slice ca cn cc, .slice ta tn tc, .int .i64 pc, .slice (some ⟨bl, off, none⟩) 256 xc, .slice ra 256 rc, .slice ma mn mc, .bool h], .int .i64 (A : Int), .int .i64 (max b c)] (fun v x y ⟨x', h1, h2, h3⟩ hu => ⟨x', h1, h2.up hu, h3⟩) (by kernel_rfl) (fun x => by go_simp) (fun x hx => (HSX.out x hx).mono fun e w' ⟨x', h1, h2, h3, h4⟩ => ⟨_, h1, h2, x', rfl, h3, h4.le hx.size⟩) ?_
  rintro v ⟨x0, hx0, x', rfl, hxi0, hxf0⟩
  obtain ⟨⟨na, nc, rfl⟩, -⟩ := hxi0.slice
  have hln : (X.set A (max b c)).length = 256 := by rw [List.length_set]; exact HLX.out
  rw [hln]
  simp only [Act.put, List.setIfInBounds_toArray, List.set_cons_succ, List.set_cons_zero]
  refine wpMk_nil ?_
  rintro z hz ⟨_, x', hxe, hxi, hxf⟩
  obtain rfl : x' = .slice na 256 nc := by
    injection hxe with hxe
    simp only [Array.mk.injEq, List.cons.injEq] at hxe
    exact hxe.2.2.2.1.symm
  have HUZ := Lib.hid (HU.out.trans hz)
  have HXI := Lib.hid hxi
  have FX := Lib.hid (hxf.ne hs2)
  have FW := Lib.hid (hxf.le HU.out.size)
  replace B2 := Lib.hid (B2.out.up hz)
  clear hz hxi hxf hxi0 hxf0 hln hxe
  obtain ⟨z0, z1, z2, z3, z4, z5, z6⟩ := B2.out.seven
  have zf := B2.out.frozen
  have HCF := Lib.hid ((((((((HXI.out).set FX.out 0 (.slice ca cn cc)).set FX.out 1 (.slice ta tn tc)).set FX.out 2 (.int .i64 pc)).set FX.out 3 (.slice na 256 nc)).set FX.out 4 (.slice ra 256 rc)).set FX.out 5 (.slice ma mn mc)).set FX.out 6 (.bool h))
  have HUF := Lib.hid ((((((((HUZ.out).setCell (p := ⟨w.heap.size + 2, 0, none⟩) (by show w.heap.size ≤ w.heap.size + 2; omega) (.slice ca cn cc)).setCell (p := ⟨w.heap.size + 2, 1, none⟩) (by show w.heap.size ≤ w.heap.size + 2; omega) (.slice ta tn tc)).setCell (p := ⟨w.heap.size + 2, 2, none⟩) (by show w.heap.size ≤ w.heap.size + 2; omega) (.int .i64 pc)).setCell (p := ⟨w.heap.size + 2, 3, none⟩) (by show w.heap.size ≤ w.heap.size + 2; omega) (.slice na 256 nc)).setCell (p := ⟨w.heap.size + 2, 4, none⟩) (by show w.heap.size ≤ w.heap.size + 2; omega) (.slice ra 256 rc)).setCell (p := ⟨w.heap.size + 2, 5, none⟩) (by show w.heap.size ≤ w.heap.size + 2; omega) (.slice ma mn mc)).setCell (p := ⟨w.heap.size + 2, 6, none⟩) (by show w.heap.size ≤ w.heap.size + 2; omega) (.bool h))
  go_wp2
  refine bodyPost_ret (v := .agg #[.slice ca cn cc, .slice ta tn tc, .int .i64 pc, .slice na 256 nc, .slice ra 256 rc, .slice ma mn mc, .bool h]) (by simp [results, Tryd.results55, go_sem, *]) rfl ?_
  exact ⟨_, rfl, HUF.out, HCF.out, FW.out⟩

set_option maxHeartbeats 8000000 in
theorem r49_integer4 (ca ta ra ma xa : Option Addr) (cn cc tn tc rc mn mc xc : Nat) (pc C n1 d kd bi fr ro ov : Int) (h : Bool) (X : List Int) (A B : Nat) (w : World) (hx : IntsAt w (.slice xa 256 xc) X) (hX : X.length = 256) (hA : A < 256) (hB : B < 256) :
    Calls Tryd.prog 55 #[.agg #[.slice ca cn cc, .slice ta tn tc, .int .i64 pc, .slice xa 256 xc, .slice ra 256 rc, .slice ma mn mc, .bool h], .agg #[.int .i64 4, .int .i64 (A : Int), .int .i64 (B : Int), .int .i64 C, .int .i64 n1, .int .i64 d, .int .i64 kd, .int .i64 bi, .int .i64 fr, .int .i64 ro, .int .i64 ov]] w fun e w' => ∃ x', e = .returned (.agg #[.slice ca cn cc, .slice ta tn tc, .int .i64 pc, x', .slice ra 256 rc, .slice ma mn mc, .bool h]) ∧ Up w w' ∧ IntsAt w' x' (X.set A (wrap64 (X.getD B 0 * C))) ∧ Fresh w.heap.size x' := by
  have HU : Hid (Up w (((w.alloc (.cells #[.slice ca cn cc, .slice ta tn tc, .int .i64 pc, .slice xa 256 xc, .slice ra 256 rc, .slice ma mn mc, .bool h] 50)).alloc (.cells #[.int .i64 4, .int .i64 (A : Int), .int .i64 (B : Int), .int .i64 C, .int .i64 n1, .int .i64 d, .int .i64 kd, .int .i64 bi, .int .i64 fr, .int .i64 ro, .int .i64 ov] 64)).alloc (.cells #[.slice none 0 0, .slice none 0 0, .int .i64 0, .slice none 0 0, .slice none 0 0, .slice none 0 0, .bool false] 50))) := Lib.hid ((((Up.refl w).alloc _).alloc _).alloc _)
  have B0 : Hid (BoxC (((w.alloc (.cells #[.slice ca cn cc, .slice ta tn tc, .int .i64 pc, .slice xa 256 xc, .slice ra 256 rc, .slice ma mn mc, .bool h] 50)).alloc (.cells #[.int .i64 4, .int .i64 (A : Int), .int .i64 (B : Int), .int .i64 C, .int .i64 n1, .int .i64 d, .int .i64 kd, .int .i64 bi, .int .i64 fr, .int .i64 ro, .int .i64 ov] 64)).alloc (.cells #[.slice none 0 0, .slice none 0 0, .int .i64 0, .slice none 0 0, .slice none 0 0, .slice none 0 0, .bool false] 50)) w.heap.size 50 #[.slice ca cn cc, .slice ta tn tc, .int .i64 pc, .slice xa 256 xc, .slice ra 256 rc, .slice ma mn mc, .bool h]) := Lib.hid ((BoxC.new w _ _).up (((Up.refl _).alloc _).alloc _))
  have B1 : Hid (BoxC (((w.alloc (.cells #[.slice ca cn cc, .slice ta tn tc, .int .i64 pc, .slice xa 256 xc, .slice ra 256 rc, .slice ma mn mc, .bool h] 50)).alloc (.cells #[.int .i64 4, .int .i64 (A : Int), .int .i64 (B : Int), .int .i64 C, .int .i64 n1, .int .i64 d, .int .i64 kd, .int .i64 bi, .int .i64 fr, .int .i64 ro, .int .i64 ov] 64)).alloc (.cells #[.slice none 0 0, .slice none 0 0, .int .i64 0, .slice none 0 0, .slice none 0 0, .slice none 0 0, .bool false] 50)) (w.heap.size + 1) 64 #[.int .i64 4, .int .i64 (A : Int), .int .i64 (B : Int), .int .i64 C, .int .i64 n1, .int .i64 d, .int .i64 kd, .int .i64 bi, .int .i64 fr, .int .i64 ro, .int .i64 ov]) := Lib.hid ((BoxC.new2 w _ _ _).up ((Up.refl _).alloc _))
  have B2 : Hid (BoxC (((w.alloc (.cells #[.slice ca cn cc, .slice ta tn tc, .int .i64 pc, .slice xa 256 xc, .slice ra 256 rc, .slice ma mn mc, .bool h] 50)).alloc (.cells #[.int .i64 4, .int .i64 (A : Int), .int .i64 (B : Int), .int .i64 C, .int .i64 n1, .int .i64 d, .int .i64 kd, .int .i64 bi, .int .i64 fr, .int .i64 ro, .int .i64 ov] 64)).alloc (.cells #[.slice none 0 0, .slice none 0 0, .int .i64 0, .slice none 0 0, .slice none 0 0, .slice none 0 0, .bool false] 50)) (w.heap.size + 2) 50 #[.slice none 0 0, .slice none 0 0, .int .i64 0, .slice none 0 0, .slice none 0 0, .slice none 0 0, .bool false]) := Lib.hid (BoxC.new3 w _ _ _ _)
  have HX := Lib.hid (hx.up HU.out)
  have HXW := Lib.hid hx
  have HLX := Lib.hid hX
  clear hx hX
  obtain ⟨b, hb⟩ : ∃ b, X.getD B 0 = b := ⟨_, rfl⟩
  have HBB := Lib.hid hb
  rw [show (wrap64 (X.getD B 0 * C)) = (wrap64 (b * C)) from by rw [hb]]
  clear hb
  go_enter Tryd.func55, Tryd.ntmps55
  have hAI : (A : Int) < 256 := by omega
  have hBI : (B : Int) < 256 := by omega
  go_wp2
  generalize (((w.alloc (.cells #[.slice ca cn cc, .slice ta tn tc, .int .i64 pc, .slice xa 256 xc, .slice ra 256 rc, .slice ma mn mc, .bool h] 50)).alloc (.cells #[.int .i64 4, .int .i64 (A : Int), .int .i64 (B : Int), .int .i64 C, .int .i64 n1, .int .i64 d, .int .i64 kd, .int .i64 bi, .int .i64 fr, .int .i64 ro, .int .i64 ov] 64)).alloc (.cells #[.slice none 0 0, .slice none 0 0, .int .i64 0, .slice none 0 0, .slice none 0 0, .slice none 0 0, .bool false] 50)) = y at *
  obtain ⟨p0, p1, p2, p3, p4, p5, p6⟩ := B0.out.seven
  have hI := B1.out
  have q1 : y.cell? ⟨w.heap.size + 1, 1, none⟩ = some (.int .i64 (A : Int)) := cell_of_row _ _ _ _ _ _ hI
  have q2 : y.cell? ⟨w.heap.size + 1, 2, none⟩ = some (.int .i64 (B : Int)) := cell_of_row _ _ _ _ _ _ hI
  have q3 : y.cell? ⟨w.heap.size + 1, 3, none⟩ = some (.int .i64 C) := cell_of_row _ _ _ _ _ _ hI
  clear hI
  have hs0 := B0.out.lt
  have hs1 := B1.out.lt
  have hs2 := B2.out.lt
  obtain ⟨bl, off, hxa, hbl, e0⟩ := HX.out.elem (Up.refl y) B (by rw [HLX.out]; exact hB) HLX.out rfl
  rw [HBB.out] at e0
  subst hxa
  have HSX := Lib.hid (fun x (hx : Up y x) => r49_setX ca ta ra ma cn cc tn tc 256 rc mn mc pc h (.slice (some ⟨bl, off, none⟩) 256 xc) X A (wrap64 (b * C)) x (HX.out.up hx) (by rw [HLX.out]; exact hA) (by rw [HLX.out]; decide))
  clear HXW
  refine wp_region_mk 13 (fun _ _ v x => ∃ x', v = .agg #[.slice ca cn cc, .slice ta tn tc, .int .i64 pc, x', .slice ra 256 rc, .slice ma mn mc, .bool h] ∧ IntsAt x x' (X.set A (wrap64 (b * C))) ∧ Fresh y.heap.size x') (by kernel_rfl) (by kernel_rfl) ?_
  simp only [List.take_succ_cons, List.take_zero, List.drop_succ_cons, List.drop_zero]
  iterate 12 (refine wpMk_quiet anti_post (by kernel_rfl) ?_; go_big_quiet_step (fail); refine wpQuiet_nil ?_)
  refine wpMk_enter anti_post 67 #[.agg #[.slice ca cn cc, .slice ta tn tc, .int .i64 pc, .slice (some ⟨bl, off, none⟩) 256 xc, .slice ra 256 rc, .slice ma mn mc, .bool h], .int .i64 (A : Int), .int .i64 (wrap64 (b * C))] (fun v x y ⟨x', h1, h2, h3⟩ hu => ⟨x', h1, h2.up hu, h3⟩) (by kernel_rfl) (fun x => by go_simp) (fun x hx => (HSX.out x hx).mono fun e w' ⟨x', h1, h2, h3, h4⟩ => ⟨_, h1, h2, x', rfl, h3, h4.le hx.size⟩) ?_
  rintro v ⟨x0, hx0, x', rfl, hxi0, hxf0⟩
  obtain ⟨⟨na, nc, rfl⟩, -⟩ := hxi0.slice
  have hln : (X.set A (wrap64 (b * C))).length = 256 := by rw [List.length_set]; exact HLX.out
  rw [hln]
  simp only [Act.put, List.setIfInBounds_toArray, List.set_cons_succ, List.set_cons_zero]
  refine wpMk_nil ?_
  rintro z hz ⟨_, x', hxe, hxi, hxf⟩
  obtain rfl : x' = .slice na 256 nc := by
    injection hxe with hxe
    simp only [Array.mk.injEq, List.cons.injEq] at hxe
    exact hxe.2.2.2.1.symm
  have HUZ := Lib.hid (HU.out.trans hz)
  have HXI := Lib.hid hxi
  have FX := Lib.hid (hxf.ne hs2)
  have FW := Lib.hid (hxf.le HU.out.size)
  replace B2 := Lib.hid (B2.out.up hz)
  clear hz hxi hxf hxi0 hxf0 hln hxe
  obtain ⟨z0, z1, z2, z3, z4, z5, z6⟩ := B2.out.seven
  have zf := B2.out.frozen
  have HCF := Lib.hid ((((((((HXI.out).set FX.out 0 (.slice ca cn cc)).set FX.out 1 (.slice ta tn tc)).set FX.out 2 (.int .i64 pc)).set FX.out 3 (.slice na 256 nc)).set FX.out 4 (.slice ra 256 rc)).set FX.out 5 (.slice ma mn mc)).set FX.out 6 (.bool h))
  have HUF := Lib.hid ((((((((HUZ.out).setCell (p := ⟨w.heap.size + 2, 0, none⟩) (by show w.heap.size ≤ w.heap.size + 2; omega) (.slice ca cn cc)).setCell (p := ⟨w.heap.size + 2, 1, none⟩) (by show w.heap.size ≤ w.heap.size + 2; omega) (.slice ta tn tc)).setCell (p := ⟨w.heap.size + 2, 2, none⟩) (by show w.heap.size ≤ w.heap.size + 2; omega) (.int .i64 pc)).setCell (p := ⟨w.heap.size + 2, 3, none⟩) (by show w.heap.size ≤ w.heap.size + 2; omega) (.slice na 256 nc)).setCell (p := ⟨w.heap.size + 2, 4, none⟩) (by show w.heap.size ≤ w.heap.size + 2; omega) (.slice ra 256 rc)).setCell (p := ⟨w.heap.size + 2, 5, none⟩) (by show w.heap.size ≤ w.heap.size + 2; omega) (.slice ma mn mc)).setCell (p := ⟨w.heap.size + 2, 6, none⟩) (by show w.heap.size ≤ w.heap.size + 2; omega) (.bool h))
  go_wp2
  refine bodyPost_ret (v := .agg #[.slice ca cn cc, .slice ta tn tc, .int .i64 pc, .slice na 256 nc, .slice ra 256 rc, .slice ma mn mc, .bool h]) (by simp [results, Tryd.results55, go_sem, *]) rfl ?_
  exact ⟨_, rfl, HUF.out, HCF.out, FW.out⟩

set_option maxHeartbeats 8000000 in
theorem r49_integer15 (ca ta ra ma xa : Option Addr) (cn cc tn tc rc mn mc xc : Nat) (pc C n1 d kd bi fr ro ov : Int) (h : Bool) (X : List Int) (A B : Nat) (w : World) (hx : IntsAt w (.slice xa 256 xc) X) (hX : X.length = 256) (hA : A < 256) (hB : B < 256) (R : List (Int × Int)) (hr : ValsAt w (.slice ra 256 rc) R) (hR : R.length = 256) :
    Calls Tryd.prog 55 #[.agg #[.slice ca cn cc, .slice ta tn tc, .int .i64 pc, .slice xa 256 xc, .slice ra 256 rc, .slice ma mn mc, .bool h], .agg #[.int .i64 15, .int .i64 (A : Int), .int .i64 (B : Int), .int .i64 C, .int .i64 n1, .int .i64 d, .int .i64 kd, .int .i64 bi, .int .i64 fr, .int .i64 ro, .int .i64 ov]] w fun e w' => ∃ x', e = .returned (.agg #[.slice ca cn cc, .slice ta tn tc, .int .i64 pc, x', .slice ra 256 rc, .slice ma mn mc, .bool h]) ∧ Up w w' ∧ IntsAt w' x' (X.set A (max 0 (min (R.getD B (0, 0)).1 (wrap64 (C - 1))))) ∧ Fresh w.heap.size x' := by
  have HU : Hid (Up w (((w.alloc (.cells #[.slice ca cn cc, .slice ta tn tc, .int .i64 pc, .slice xa 256 xc, .slice ra 256 rc, .slice ma mn mc, .bool h] 50)).alloc (.cells #[.int .i64 15, .int .i64 (A : Int), .int .i64 (B : Int), .int .i64 C, .int .i64 n1, .int .i64 d, .int .i64 kd, .int .i64 bi, .int .i64 fr, .int .i64 ro, .int .i64 ov] 64)).alloc (.cells #[.slice none 0 0, .slice none 0 0, .int .i64 0, .slice none 0 0, .slice none 0 0, .slice none 0 0, .bool false] 50))) := Lib.hid ((((Up.refl w).alloc _).alloc _).alloc _)
  have B0 : Hid (BoxC (((w.alloc (.cells #[.slice ca cn cc, .slice ta tn tc, .int .i64 pc, .slice xa 256 xc, .slice ra 256 rc, .slice ma mn mc, .bool h] 50)).alloc (.cells #[.int .i64 15, .int .i64 (A : Int), .int .i64 (B : Int), .int .i64 C, .int .i64 n1, .int .i64 d, .int .i64 kd, .int .i64 bi, .int .i64 fr, .int .i64 ro, .int .i64 ov] 64)).alloc (.cells #[.slice none 0 0, .slice none 0 0, .int .i64 0, .slice none 0 0, .slice none 0 0, .slice none 0 0, .bool false] 50)) w.heap.size 50 #[.slice ca cn cc, .slice ta tn tc, .int .i64 pc, .slice xa 256 xc, .slice ra 256 rc, .slice ma mn mc, .bool h]) := Lib.hid ((BoxC.new w _ _).up (((Up.refl _).alloc _).alloc _))
  have B1 : Hid (BoxC (((w.alloc (.cells #[.slice ca cn cc, .slice ta tn tc, .int .i64 pc, .slice xa 256 xc, .slice ra 256 rc, .slice ma mn mc, .bool h] 50)).alloc (.cells #[.int .i64 15, .int .i64 (A : Int), .int .i64 (B : Int), .int .i64 C, .int .i64 n1, .int .i64 d, .int .i64 kd, .int .i64 bi, .int .i64 fr, .int .i64 ro, .int .i64 ov] 64)).alloc (.cells #[.slice none 0 0, .slice none 0 0, .int .i64 0, .slice none 0 0, .slice none 0 0, .slice none 0 0, .bool false] 50)) (w.heap.size + 1) 64 #[.int .i64 15, .int .i64 (A : Int), .int .i64 (B : Int), .int .i64 C, .int .i64 n1, .int .i64 d, .int .i64 kd, .int .i64 bi, .int .i64 fr, .int .i64 ro, .int .i64 ov]) := Lib.hid ((BoxC.new2 w _ _ _).up ((Up.refl _).alloc _))
  have B2 : Hid (BoxC (((w.alloc (.cells #[.slice ca cn cc, .slice ta tn tc, .int .i64 pc, .slice xa 256 xc, .slice ra 256 rc, .slice ma mn mc, .bool h] 50)).alloc (.cells #[.int .i64 15, .int .i64 (A : Int), .int .i64 (B : Int), .int .i64 C, .int .i64 n1, .int .i64 d, .int .i64 kd, .int .i64 bi, .int .i64 fr, .int .i64 ro, .int .i64 ov] 64)).alloc (.cells #[.slice none 0 0, .slice none 0 0, .int .i64 0, .slice none 0 0, .slice none 0 0, .slice none 0 0, .bool false] 50)) (w.heap.size + 2) 50 #[.slice none 0 0, .slice none 0 0, .int .i64 0, .slice none 0 0, .slice none 0 0, .slice none 0 0, .bool false]) := Lib.hid (BoxC.new3 w _ _ _ _)
  have HX := Lib.hid (hx.up HU.out)
  have HXW := Lib.hid hx
  have HLX := Lib.hid hX
  have HRV := Lib.hid (hr.up HU.out)
  have HLR := Lib.hid hR
  clear hx hX hr hR
  obtain ⟨b, hb⟩ : ∃ b, (R.getD B (0, 0)).1 = b := ⟨_, rfl⟩
  have HBB := Lib.hid hb
  rw [show (max 0 (min (R.getD B (0, 0)).1 (wrap64 (C - 1)))) = (max 0 (min b (wrap64 (C - 1)))) from by rw [hb]]
  clear hb
  go_enter Tryd.func55, Tryd.ntmps55
  have hAI : (A : Int) < 256 := by omega
  have hBI : (B : Int) < 256 := by omega
  go_wp2
  generalize (((w.alloc (.cells #[.slice ca cn cc, .slice ta tn tc, .int .i64 pc, .slice xa 256 xc, .slice ra 256 rc, .slice ma mn mc, .bool h] 50)).alloc (.cells #[.int .i64 15, .int .i64 (A : Int), .int .i64 (B : Int), .int .i64 C, .int .i64 n1, .int .i64 d, .int .i64 kd, .int .i64 bi, .int .i64 fr, .int .i64 ro, .int .i64 ov] 64)).alloc (.cells #[.slice none 0 0, .slice none 0 0, .int .i64 0, .slice none 0 0, .slice none 0 0, .slice none 0 0, .bool false] 50)) = y at *
  obtain ⟨p0, p1, p2, p3, p4, p5, p6⟩ := B0.out.seven
  have hI := B1.out
  have q1 : y.cell? ⟨w.heap.size + 1, 1, none⟩ = some (.int .i64 (A : Int)) := cell_of_row _ _ _ _ _ _ hI
  have q2 : y.cell? ⟨w.heap.size + 1, 2, none⟩ = some (.int .i64 (B : Int)) := cell_of_row _ _ _ _ _ _ hI
  have q3 : y.cell? ⟨w.heap.size + 1, 3, none⟩ = some (.int .i64 C) := cell_of_row _ _ _ _ _ _ hI
  clear hI
  have hs0 := B0.out.lt
  have hs1 := B1.out.lt
  have hs2 := B2.out.lt
  obtain ⟨bl, off, hxa, hbl, e0, e1⟩ := HRV.out.elem (Up.refl y) B (by rw [HLR.out]; exact hB) HLR.out rfl
  rw [HBB.out] at e0
  subst hxa
  have HSX := Lib.hid (fun x (hx : Up y x) => r49_setX ca ta (some ⟨bl, off, none⟩) ma cn cc tn tc 256 rc mn mc pc h (.slice xa 256 xc) X A (max 0 (min b (wrap64 (C - 1)))) x (HX.out.up hx) (by rw [HLX.out]; exact hA) (by rw [HLX.out]; decide))
  clear HXW
  refine wp_region_mk 16 (fun _ _ v x => ∃ x', v = .agg #[.slice ca cn cc, .slice ta tn tc, .int .i64 pc, x', .slice (some ⟨bl, off, none⟩) 256 rc, .slice ma mn mc, .bool h] ∧ IntsAt x x' (X.set A (max 0 (min b (wrap64 (C - 1))))) ∧ Fresh y.heap.size x') (by kernel_rfl) (by kernel_rfl) ?_
  simp only [List.take_succ_cons, List.take_zero, List.drop_succ_cons, List.drop_zero]
  iterate 13 (refine wpMk_quiet anti_post (by kernel_rfl) ?_; go_big_quiet_step (fail); refine wpQuiet_nil ?_)
  refine wpMk_any anti_post (fun v _ => v = .int .i64 (min b (wrap64 (C - 1)))) (fun v x y h hu => h) (by kernel_rfl) (fun x hx => ⟨.int .i64 (min b (wrap64 (C - 1))), x, by (go_simp; (repeat' split) <;> omega), Up.refl x, rfl⟩) ?_
  rintro v ⟨y', hy', rfl⟩
  simp only [Act.put, List.setIfInBounds_toArray, List.set_cons_succ, List.set_cons_zero]
  refine wpMk_any anti_post (fun v _ => v = .int .i64 (max 0 (min b (wrap64 (C - 1))))) (fun v x y h hu => h) (by kernel_rfl) (fun x hx => ⟨.int .i64 (max 0 (min b (wrap64 (C - 1)))), x, by (go_simp; (repeat' split) <;> omega), Up.refl x, rfl⟩) ?_
  rintro v ⟨y'', hy'', rfl⟩
  simp only [Act.put, List.setIfInBounds_toArray, List.set_cons_succ, List.set_cons_zero]
  refine wpMk_enter anti_post 67 #[.agg #[.slice ca cn cc, .slice ta tn tc, .int .i64 pc, .slice xa 256 xc, .slice (some ⟨bl, off, none⟩) 256 rc, .slice ma mn mc, .bool h], .int .i64 (A : Int), .int .i64 (max 0 (min b (wrap64 (C - 1))))] (fun v x y ⟨x', h1, h2, h3⟩ hu => ⟨x', h1, h2.up hu, h3⟩) (by kernel_rfl) (fun x => by go_simp) (fun x hx => (HSX.out x hx).mono fun e w' ⟨x', h1, h2, h3, h4⟩ => ⟨_, h1, h2, x', rfl, h3, h4.le hx.size⟩) ?_
  rintro v ⟨x0, hx0, x', rfl, hxi0, hxf0⟩
  obtain ⟨⟨na, nc, rfl⟩, -⟩ := hxi0.slice
  have hln : (X.set A (max 0 (min b (wrap64 (C - 1))))).length = 256 := by rw [List.length_set]; exact HLX.out
  rw [hln]
  simp only [Act.put, List.setIfInBounds_toArray, List.set_cons_succ, List.set_cons_zero]
  refine wpMk_nil ?_
  rintro z hz ⟨_, x', hxe, hxi, hxf⟩
  obtain rfl : x' = .slice na 256 nc := by
    injection hxe with hxe
    simp only [Array.mk.injEq, List.cons.injEq] at hxe
    exact hxe.2.2.2.1.symm
  have HUZ := Lib.hid (HU.out.trans hz)
  have HXI := Lib.hid hxi
  have FX := Lib.hid (hxf.ne hs2)
  have FW := Lib.hid (hxf.le HU.out.size)
  replace B2 := Lib.hid (B2.out.up hz)
  clear hz hxi hxf hxi0 hxf0 hln hxe
  obtain ⟨z0, z1, z2, z3, z4, z5, z6⟩ := B2.out.seven
  have zf := B2.out.frozen
  have HCF := Lib.hid ((((((((HXI.out).set FX.out 0 (.slice ca cn cc)).set FX.out 1 (.slice ta tn tc)).set FX.out 2 (.int .i64 pc)).set FX.out 3 (.slice na 256 nc)).set FX.out 4 (.slice (some ⟨bl, off, none⟩) 256 rc)).set FX.out 5 (.slice ma mn mc)).set FX.out 6 (.bool h))
  have HUF := Lib.hid ((((((((HUZ.out).setCell (p := ⟨w.heap.size + 2, 0, none⟩) (by show w.heap.size ≤ w.heap.size + 2; omega) (.slice ca cn cc)).setCell (p := ⟨w.heap.size + 2, 1, none⟩) (by show w.heap.size ≤ w.heap.size + 2; omega) (.slice ta tn tc)).setCell (p := ⟨w.heap.size + 2, 2, none⟩) (by show w.heap.size ≤ w.heap.size + 2; omega) (.int .i64 pc)).setCell (p := ⟨w.heap.size + 2, 3, none⟩) (by show w.heap.size ≤ w.heap.size + 2; omega) (.slice na 256 nc)).setCell (p := ⟨w.heap.size + 2, 4, none⟩) (by show w.heap.size ≤ w.heap.size + 2; omega) (.slice (some ⟨bl, off, none⟩) 256 rc)).setCell (p := ⟨w.heap.size + 2, 5, none⟩) (by show w.heap.size ≤ w.heap.size + 2; omega) (.slice ma mn mc)).setCell (p := ⟨w.heap.size + 2, 6, none⟩) (by show w.heap.size ≤ w.heap.size + 2; omega) (.bool h))
  go_wp2
  refine bodyPost_ret (v := .agg #[.slice ca cn cc, .slice ta tn tc, .int .i64 pc, .slice na 256 nc, .slice (some ⟨bl, off, none⟩) 256 rc, .slice ma mn mc, .bool h]) (by simp [results, Tryd.results55, go_sem, *]) rfl ?_
  exact ⟨_, rfl, HUF.out, HCF.out, FW.out⟩

end Go.Proofs.YtbpojmhgifgfdaaDoor
