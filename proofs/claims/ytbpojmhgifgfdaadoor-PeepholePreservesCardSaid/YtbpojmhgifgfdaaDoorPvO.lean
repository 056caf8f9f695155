/-
  Merged by a program (tools/mrg.py): PvM, PvO.
-/
import Derived.Test.YtbpojmhgifgfdaaDoorPvK
import Derived.Test.YtbpojmhgifgfdaaDoorMkL
import Derived.Test.YtbpojmhgifgfdaaDoorPvT
import Derived.Test.YtbpojmhgifgfdaaDoorPvG

section
namespace Go.Proofs.YtbpojmhgifgfdaaDoor
open Go.ChangeShapes Go.WideShapes Go.ChangeAt Go.RowKit
set_option linter.unusedVariables false
set_option linter.unusedSimpArgs false
set_option maxRecDepth 100000

set_option maxHeartbeats 8000000 in
theorem r49_compute12 (ca ta ra ma xa : Option Addr) (cn cc tn tc rc mn mc xc : Nat) (pc n1 d kd bi fr ro ov : Int) (h : Bool) (R : List (Int × Int)) (A B D : Nat) (r1 r2 r3 : Int) (w : World) (hr : ValsAt w (.slice ra 256 rc) R) (hR : R.length = 256) (hA : A < 256) (hB : B < 256) (hD : D < 256)
    (hn : R64 (R.getD B (0, 0)).1) (hp : R64 (R.getD D (0, 0)).1) (hap : applF n1 (kd, bi, fr, ro, ov) (R.getD B (0, 0)).1 (R.getD B (0, 0)).2 (R.getD D (0, 0)).1 (R.getD D (0, 0)).2 = (r1, r2, r3)) :
    Calls Tryd.prog 54 #[.agg #[.slice ca cn cc, .slice ta tn tc, .int .i64 pc, .slice xa 256 xc, .slice ra 256 rc, .slice ma mn mc, .bool h], .agg #[.int .i64 12, .int .i64 (A : Int), .int .i64 (B : Int), .int .i64 (D : Int), .int .i64 n1, .int .i64 d, .int .i64 kd, .int .i64 bi, .int .i64 fr, .int .i64 ro, .int .i64 ov]] w fun e w' => ∃ r', e = .returned (.tuple #[.agg #[.slice ca cn cc, .slice ta tn tc, .int .i64 pc, .slice xa 256 xc, r', .slice ma mn mc, .bool h], .int .i64 r3]) ∧ Up w w' ∧ ValsAt w' r' (R.set A (r1, r2)) ∧ Fresh w.heap.size r' := by
  have HU : Hid (Up w (((w.alloc (.cells #[.slice ca cn cc, .slice ta tn tc, .int .i64 pc, .slice xa 256 xc, .slice ra 256 rc, .slice ma mn mc, .bool h] 50)).alloc (.cells #[.int .i64 12, .int .i64 (A : Int), .int .i64 (B : Int), .int .i64 (D : Int), .int .i64 n1, .int .i64 d, .int .i64 kd, .int .i64 bi, .int .i64 fr, .int .i64 ro, .int .i64 ov] 64)).alloc (.cells #[.slice none 0 0, .slice none 0 0, .int .i64 0, .slice none 0 0, .slice none 0 0, .slice none 0 0, .bool false] 50))) := Lib.hid ((((Up.refl w).alloc _).alloc _).alloc _)
  have B0 : Hid (BoxC (((w.alloc (.cells #[.slice ca cn cc, .slice ta tn tc, .int .i64 pc, .slice xa 256 xc, .slice ra 256 rc, .slice ma mn mc, .bool h] 50)).alloc (.cells #[.int .i64 12, .int .i64 (A : Int), .int .i64 (B : Int), .int .i64 (D : Int), .int .i64 n1, .int .i64 d, .int .i64 kd, .int .i64 bi, .int .i64 fr, .int .i64 ro, .int .i64 ov] 64)).alloc (.cells #[.slice none 0 0, .slice none 0 0, .int .i64 0, .slice none 0 0, .slice none 0 0, .slice none 0 0, .bool false] 50)) w.heap.size 50 #[.slice ca cn cc, .slice ta tn tc, .int .i64 pc, .slice xa 256 xc, .slice ra 256 rc, .slice ma mn mc, .bool h]) := Lib.hid ((BoxC.new w _ _).up (((Up.refl _).alloc _).alloc _))
  have B1 : Hid (BoxC (((w.alloc (.cells #[.slice ca cn cc, .slice ta tn tc, .int .i64 pc, .slice xa 256 xc, .slice ra 256 rc, .slice ma mn mc, .bool h] 50)).alloc (.cells #[.int .i64 12, .int .i64 (A : Int), .int .i64 (B : Int), .int .i64 (D : Int), .int .i64 n1, .int .i64 d, .int .i64 kd, .int .i64 bi, .int .i64 fr, .int .i64 ro, .int .i64 ov] 64)).alloc (.cells #[.slice none 0 0, .slice none 0 0, .int .i64 0, .slice none 0 0, .slice none 0 0, .slice none 0 0, .bool false] 50)) (w.heap.size + 1) 64 #[.int .i64 12, .int .i64 (A : Int), .int .i64 (B : Int), .int .i64 (D : Int), .int .i64 n1, .int .i64 d, .int .i64 kd, .int .i64 bi, .int .i64 fr, .int .i64 ro, .int .i64 ov]) := Lib.hid ((BoxC.new2 w _ _ _).up ((Up.refl _).alloc _))
  have B2 : Hid (BoxC (((w.alloc (.cells #[.slice ca cn cc, .slice ta tn tc, .int .i64 pc, .slice xa 256 xc, .slice ra 256 rc, .slice ma mn mc, .bool h] 50)).alloc (.cells #[.int .i64 12, .int .i64 (A : Int), .int .i64 (B : Int), .int .i64 (D : Int), .int .i64 n1, .int .i64 d, .int .i64 kd, .int .i64 bi, .int .i64 fr, .int .i64 ro, .int .i64 ov] 64)).alloc (.cells #[.slice none 0 0, .slice none 0 0, .int .i64 0, .slice none 0 0, .slice none 0 0, .slice none 0 0, .bool false] 50)) (w.heap.size + 2) 50 #[.slice none 0 0, .slice none 0 0, .int .i64 0, .slice none 0 0, .slice none 0 0, .slice none 0 0, .bool false]) := Lib.hid (BoxC.new3 w _ _ _ _)
  have HRW := Lib.hid hr
  have HLR := Lib.hid hR
  clear hr hR
  have hAI : (A : Int) < 256 := by omega
  have hBI : (B : Int) < 256 := by omega
  have hDI : (D : Int) < 256 := by omega
  have HAP0 := Lib.hid (fun x => r04_Apply n1 (kd, bi, fr, ro, ov) _ _ _ _ hn hp (r1, r2, r3) hap x)
  go_enter Tryd.func54, Tryd.ntmps54
  go_wp2
  generalize hyw : (((w.alloc (.cells #[.slice ca cn cc, .slice ta tn tc, .int .i64 pc, .slice xa 256 xc, .slice ra 256 rc, .slice ma mn mc, .bool h] 50)).alloc (.cells #[.int .i64 12, .int .i64 (A : Int), .int .i64 (B : Int), .int .i64 (D : Int), .int .i64 n1, .int .i64 d, .int .i64 kd, .int .i64 bi, .int .i64 fr, .int .i64 ro, .int .i64 ov] 64)).alloc (.cells #[.slice none 0 0, .slice none 0 0, .int .i64 0, .slice none 0 0, .slice none 0 0, .slice none 0 0, .bool false] 50)) = y at *
  have HRY := Lib.hid (HRW.out.up HU.out)
  obtain ⟨p0, p1, p2, p3, p4, p5, p6⟩ := B0.out.seven
  have hI := B1.out
  have q1 : y.cell? ⟨w.heap.size + 1, 1, none⟩ = some (.int .i64 (A : Int)) := cell_of_row _ _ _ _ _ _ hI
  have q2 : y.cell? ⟨w.heap.size + 1, 2, none⟩ = some (.int .i64 (B : Int)) := cell_of_row _ _ _ _ _ _ hI
  have q3 : y.cell? ⟨w.heap.size + 1, 3, none⟩ = some (.int .i64 (D : Int)) := cell_of_row _ _ _ _ _ _ hI
  have q4 : y.cell? ⟨w.heap.size + 1, 4, none⟩ = some (.int .i64 n1) := cell_of_row _ _ _ _ _ _ hI
  have q6 : y.cell? ⟨w.heap.size + 1, 6, none⟩ = some (.int .i64 kd) := cell_of_row _ _ _ _ _ _ hI
  have q7 : y.cell? ⟨w.heap.size + 1, 7, none⟩ = some (.int .i64 bi) := cell_of_row _ _ _ _ _ _ hI
  have q8 : y.cell? ⟨w.heap.size + 1, 8, none⟩ = some (.int .i64 fr) := cell_of_row _ _ _ _ _ _ hI
  have q9 : y.cell? ⟨w.heap.size + 1, 9, none⟩ = some (.int .i64 ro) := cell_of_row _ _ _ _ _ _ hI
  have q10 : y.cell? ⟨w.heap.size + 1, 10, none⟩ = some (.int .i64 ov) := cell_of_row _ _ _ _ _ _ hI
  clear hI hyw
  have hs0 := B0.out.lt
  have hs1 := B1.out.lt
  have hs2 := B2.out.lt
  obtain ⟨bl, off, hxa, hbl, e0, e1⟩ := HRY.out.elem (Up.refl y) B (by rw [HLR.out]; exact hB) HLR.out rfl
  obtain ⟨bl', off', hxa', hbl', e2, e3⟩ := HRY.out.elem (Up.refl y) D (by rw [HLR.out]; exact hD) HLR.out rfl
  rw [hxa] at hxa'
  cases hxa'
  subst hxa
  have HSR := Lib.hid (fun x (hx : Up w x) => r49_setR ca ta xa ma cn cc tn tc 256 xc mn mc pc h (.slice (some ⟨bl, off, none⟩) 256 rc) R A r1 r2 x (HRW.out.up hx) (by rw [HLR.out]; exact hA) (by rw [HLR.out]; decide))
  generalize (R.getD B (0, 0)).1 = b1 at e0 HAP0
  generalize (R.getD B (0, 0)).2 = b2 at e1 HAP0
  generalize (R.getD D (0, 0)).1 = c1 at e2 HAP0
  generalize (R.getD D (0, 0)).2 = c2 at e3 HAP0
  refine wp_region_late 22 20 _ (fun _ _ v x => v = .tuple #[.agg #[.int .i64 r1, .int .i64 r2], .int .i64 r3]) (by kernel_rfl) (by kernel_rfl) rfl ?_
  simp only [List.take_succ_cons, List.take_zero, List.drop_succ_cons, List.drop_zero]
  iterate 17 (refine wpMk_quiet anti_post (by kernel_rfl) ?_; go_big_quiet_step (fail); refine wpQuiet_nil ?_)
  refine wpMk_enter anti_post 65 #[.int .i64 n1, typV (kd, bi, fr, ro, ov), .agg #[.int .i64 b1, .int .i64 b2], .agg #[.int .i64 c1, .int .i64 c2]] (fun v x y h hu => h) (by kernel_rfl) (fun x => by go_simp) (fun x hx => (HAP0.out x).mono fun e w' ⟨h1, h2⟩ => ⟨_, h1, h2, rfl⟩) ?_
  rintro v ⟨x0, hx0, rfl⟩
  simp only [Act.put, List.setIfInBounds_toArray, List.set_cons_succ, List.set_cons_zero]
  iterate 3 (refine wpMk_quiet anti_post (by kernel_rfl) ?_; go_big_quiet_step (fail); refine wpQuiet_nil ?_)
  refine wpMk_alloc anti_post #[.int .i64 0, .int .i64 0] 60 (by kernel_rfl) (fun x => by go_simp) ?_
  intro p hp'
  simp only [Act.put, List.setIfInBounds_toArray, List.set_cons_succ, List.set_cons_zero]
  refine wpMk_nil ?_
  rintro z hz ⟨_, hPA⟩
  have BP := Lib.hid (show BoxC z p 60 #[.int .i64 0, .int .i64 0] from hPA)
  have BQ := Lib.hid (BP.out.put (.int .i64 r1) (.int .i64 r2))
  obtain ⟨c0, c1⟩ := BP.out.two
  have cf := BP.out.frozen
  refine ⟨by kernel_rfl, .inr ⟨((z.setCell ⟨p, 0, none⟩ (.int .i64 r1)).setCell ⟨p, 1, none⟩ (.int .i64 r2)), by go_simp, ?_⟩⟩
  simp only [Act.put]
  have HYS := Lib.hid ((hz.setCell (p := ⟨p, 0, none⟩) hp' (.int .i64 r1)).setCell (p := ⟨p, 1, none⟩) hp' (.int .i64 r2))
  replace HU := Lib.hid (HU.out.trans HYS.out)
  replace B0 := Lib.hid (B0.out.up HYS.out)
  replace B1 := Lib.hid (B1.out.up HYS.out)
  replace B2 := Lib.hid (B2.out.up HYS.out)
  clear HYS BP c0 c1 cf hPA hz p0 p1 p2 p3 p4 p5 p6 q1 q2 q3 q4 q6 q7 q8 q9 q10 e0 e1 e2 e3 hs0 hs1 hs2 hp' HRY hbl hbl' HAP0
  generalize ((z.setCell ⟨p, 0, none⟩ (.int .i64 r1)).setCell ⟨p, 1, none⟩ (.int .i64 r2)) = v at *
  obtain ⟨p0, p1, p2, p3, p4, p5, p6⟩ := B0.out.seven
  have q1 : v.cell? ⟨w.heap.size + 1, 1, none⟩ = some (.int .i64 (A : Int)) := cell_of_row _ _ _ _ _ _ B1.out
  obtain ⟨c0, c1⟩ := BQ.out.two
  go_wp2_with (go_at_call 64; refine (HSR.out _ HU.out).mono ?_; rintro e z ⟨x', rfl, hz, hxi, hxf⟩; obtain ⟨⟨na, nc, rfl⟩, -⟩ := hxi.slice; have hln : (R.set A (r1, r2)).length = 256 := (by rw [List.length_set]; exact HLR.out); rw [hln] at hxi hxf ⊢; clear hln; have hlz : w.heap.size + 2 < z.heap.size := (B2.out.up hz).lt; have HUZ := Lib.hid (HU.out.trans hz); have HXI := Lib.hid hxi; have FX := Lib.hid (hxf.ne B2.out.lt); have FW := Lib.hid (hxf.le HU.out.size); replace B2 := Lib.hid (B2.out.up hz); clear hz hxi hxf; obtain ⟨z0, z1, z2, z3, z4, z5, z6⟩ := B2.out.seven; have zf := B2.out.frozen)
  have HCF := Lib.hid ((((((((HXI.out).set FX.out 0 (.slice ca cn cc)).set FX.out 1 (.slice ta tn tc)).set FX.out 2 (.int .i64 pc)).set FX.out 3 (.slice xa 256 xc)).set FX.out 4 (.slice na 256 nc)).set FX.out 5 (.slice ma mn mc)).set FX.out 6 (.bool h))
  have HUF := Lib.hid ((((((((HUZ.out).setCell (p := ⟨w.heap.size + 2, 0, none⟩) (by show w.heap.size ≤ w.heap.size + 2; omega) (.slice ca cn cc)).setCell (p := ⟨w.heap.size + 2, 1, none⟩) (by show w.heap.size ≤ w.heap.size + 2; omega) (.slice ta tn tc)).setCell (p := ⟨w.heap.size + 2, 2, none⟩) (by show w.heap.size ≤ w.heap.size + 2; omega) (.int .i64 pc)).setCell (p := ⟨w.heap.size + 2, 3, none⟩) (by show w.heap.size ≤ w.heap.size + 2; omega) (.slice xa 256 xc)).setCell (p := ⟨w.heap.size + 2, 4, none⟩) (by show w.heap.size ≤ w.heap.size + 2; omega) (.slice na 256 nc)).setCell (p := ⟨w.heap.size + 2, 5, none⟩) (by show w.heap.size ≤ w.heap.size + 2; omega) (.slice ma mn mc)).setCell (p := ⟨w.heap.size + 2, 6, none⟩) (by show w.heap.size ≤ w.heap.size + 2; omega) (.bool h))
  refine bodyPost_ret (v := .tuple #[.agg #[.slice ca cn cc, .slice ta tn tc, .int .i64 pc, .slice xa 256 xc, .slice na 256 nc, .slice ma mn mc, .bool h], .int .i64 r3]) (by simp [results, Tryd.results54, go_sem, *]) rfl ?_
  exact ⟨_, rfl, HUF.out, HCF.out, FW.out⟩

end Go.Proofs.YtbpojmhgifgfdaaDoor
end

section
namespace Go.Proofs.YtbpojmhgifgfdaaDoor
open Go.ChangeShapes Go.WideShapes Go.ChangeAt Go.RowKit
set_option linter.unusedVariables false
set_option linter.unusedSimpArgs false
set_option maxRecDepth 100000

set_option maxHeartbeats 8000000 in
theorem r49_compute13 (ca ta ra ma xa : Option Addr) (cn cc tn tc rc mn mc xc : Nat) (pc C d kd bi fr ro ov : Int) (h : Bool) (R : List (Int × Int)) (T : List Typ) (A B K : Nat) (fk fb ff fo fv : Int) (r1 r2 r3 : Int) (w : World) (hr : ValsAt w (.slice ra 256 rc) R) (hR : R.length = 256) (ht : TypAt w (.slice ta tn tc) T) (hT : T.length = tn) (htm : tn ≤ 100000) (hK : K < tn) (hf : T.getD K y0 = (fk, fb, ff, fo, fv)) (hA : A < 256) (hB : B < 256)
    (hn : R64 (R.getD B (0, 0)).1) (hap : castF (fk, fb, ff, fo, fv) (kd, bi, fr, ro, ov) (R.getD B (0, 0)).1 (R.getD B (0, 0)).2 = (r1, r2, r3)) :
    Calls Tryd.prog 54 #[.agg #[.slice ca cn cc, .slice ta tn tc, .int .i64 pc, .slice xa 256 xc, .slice ra 256 rc, .slice ma mn mc, .bool h], .agg #[.int .i64 13, .int .i64 (A : Int), .int .i64 (B : Int), .int .i64 C, .int .i64 (K : Int), .int .i64 d, .int .i64 kd, .int .i64 bi, .int .i64 fr, .int .i64 ro, .int .i64 ov]] w fun e w' => ∃ r', e = .returned (.tuple #[.agg #[.slice ca cn cc, .slice ta tn tc, .int .i64 pc, .slice xa 256 xc, r', .slice ma mn mc, .bool h], .int .i64 r3]) ∧ Up w w' ∧ ValsAt w' r' (R.set A (r1, r2)) ∧ Fresh w.heap.size r' := by
  have HU : Hid (Up w (((w.alloc (.cells #[.slice ca cn cc, .slice ta tn tc, .int .i64 pc, .slice xa 256 xc, .slice ra 256 rc, .slice ma mn mc, .bool h] 50)).alloc (.cells #[.int .i64 13, .int .i64 (A : Int), .int .i64 (B : Int), .int .i64 C, .int .i64 (K : Int), .int .i64 d, .int .i64 kd, .int .i64 bi, .int .i64 fr, .int .i64 ro, .int .i64 ov] 64)).alloc (.cells #[.slice none 0 0, .slice none 0 0, .int .i64 0, .slice none 0 0, .slice none 0 0, .slice none 0 0, .bool false] 50))) := Lib.hid ((((Up.refl w).alloc _).alloc _).alloc _)
  have B0 : Hid (BoxC (((w.alloc (.cells #[.slice ca cn cc, .slice ta tn tc, .int .i64 pc, .slice xa 256 xc, .slice ra 256 rc, .slice ma mn mc, .bool h] 50)).alloc (.cells #[.int .i64 13, .int .i64 (A : Int), .int .i64 (B : Int), .int .i64 C, .int .i64 (K : Int), .int .i64 d, .int .i64 kd, .int .i64 bi, .int .i64 fr, .int .i64 ro, .int .i64 ov] 64)).alloc (.cells #[.slice none 0 0, .slice none 0 0, .int .i64 0, .slice none 0 0, .slice none 0 0, .slice none 0 0, .bool false] 50)) w.heap.size 50 #[.slice ca cn cc, .slice ta tn tc, .int .i64 pc, .slice xa 256 xc, .slice ra 256 rc, .slice ma mn mc, .bool h]) := Lib.hid ((BoxC.new w _ _).up (((Up.refl _).alloc _).alloc _))
  have B1 : Hid (BoxC (((w.alloc (.cells #[.slice ca cn cc, .slice ta tn tc, .int .i64 pc, .slice xa 256 xc, .slice ra 256 rc, .slice ma mn mc, .bool h] 50)).alloc (.cells #[.int .i64 13, .int .i64 (A : Int), .int .i64 (B : Int), .int .i64 C, .int .i64 (K : Int), .int .i64 d, .int .i64 kd, .int .i64 bi, .int .i64 fr, .int .i64 ro, .int .i64 ov] 64)).alloc (.cells #[.slice none 0 0, .slice none 0 0, .int .i64 0, .slice none 0 0, .slice none 0 0, .slice none 0 0, .bool false] 50)) (w.heap.size + 1) 64 #[.int .i64 13, .int .i64 (A : Int), .int .i64 (B : Int), .int .i64 C, .int .i64 (K : Int), .int .i64 d, .int .i64 kd, .int .i64 bi, .int .i64 fr, .int .i64 ro, .int .i64 ov]) := Lib.hid ((BoxC.new2 w _ _ _).up ((Up.refl _).alloc _))
  have B2 : Hid (BoxC (((w.alloc (.cells #[.slice ca cn cc, .slice ta tn tc, .int .i64 pc, .slice xa 256 xc, .slice ra 256 rc, .slice ma mn mc, .bool h] 50)).alloc (.cells #[.int .i64 13, .int .i64 (A : Int), .int .i64 (B : Int), .int .i64 C, .int .i64 (K : Int), .int .i64 d, .int .i64 kd, .int .i64 bi, .int .i64 fr, .int .i64 ro, .int .i64 ov] 64)).alloc (.cells #[.slice none 0 0, .slice none 0 0, .int .i64 0, .slice none 0 0, .slice none 0 0, .slice none 0 0, .bool false] 50)) (w.heap.size + 2) 50 #[.slice none 0 0, .slice none 0 0, .int .i64 0, .slice none 0 0, .slice none 0 0, .slice none 0 0, .bool false]) := Lib.hid (BoxC.new3 w _ _ _ _)
  have HRW := Lib.hid hr
  have HLR := Lib.hid hR
  clear hr hR
  have HTW := Lib.hid ht
  have HLT := Lib.hid hT
  have HFF := Lib.hid hf
  clear ht hT hf
  have hAI : (A : Int) < 256 := by omega
  have hBI : (B : Int) < 256 := by omega
  have hKI : (K : Int) < tn := by omega
  have htI : (tn : Int) ≤ 100000 := by omega
  have HAP0 := Lib.hid (fun x => r04_Cast (fk, fb, ff, fo, fv) (kd, bi, fr, ro, ov) _ _ hn (r1, r2, r3) hap x)
  go_enter Tryd.func54, Tryd.ntmps54
  go_wp2
  generalize hyw : (((w.alloc (.cells #[.slice ca cn cc, .slice ta tn tc, .int .i64 pc, .slice xa 256 xc, .slice ra 256 rc, .slice ma mn mc, .bool h] 50)).alloc (.cells #[.int .i64 13, .int .i64 (A : Int), .int .i64 (B : Int), .int .i64 C, .int .i64 (K : Int), .int .i64 d, .int .i64 kd, .int .i64 bi, .int .i64 fr, .int .i64 ro, .int .i64 ov] 64)).alloc (.cells #[.slice none 0 0, .slice none 0 0, .int .i64 0, .slice none 0 0, .slice none 0 0, .slice none 0 0, .bool false] 50)) = y at *
  have HRY := Lib.hid (HRW.out.up HU.out)
  have HTY := Lib.hid (HTW.out.up HU.out)
  obtain ⟨p0, p1, p2, p3, p4, p5, p6⟩ := B0.out.seven
  have hI := B1.out
  have q1 : y.cell? ⟨w.heap.size + 1, 1, none⟩ = some (.int .i64 (A : Int)) := cell_of_row _ _ _ _ _ _ hI
  have q2 : y.cell? ⟨w.heap.size + 1, 2, none⟩ = some (.int .i64 (B : Int)) := cell_of_row _ _ _ _ _ _ hI
  have q4 : y.cell? ⟨w.heap.size + 1, 4, none⟩ = some (.int .i64 (K : Int)) := cell_of_row _ _ _ _ _ _ hI
  have q6 : y.cell? ⟨w.heap.size + 1, 6, none⟩ = some (.int .i64 kd) := cell_of_row _ _ _ _ _ _ hI
  have q7 : y.cell? ⟨w.heap.size + 1, 7, none⟩ = some (.int .i64 bi) := cell_of_row _ _ _ _ _ _ hI
  have q8 : y.cell? ⟨w.heap.size + 1, 8, none⟩ = some (.int .i64 fr) := cell_of_row _ _ _ _ _ _ hI
  have q9 : y.cell? ⟨w.heap.size + 1, 9, none⟩ = some (.int .i64 ro) := cell_of_row _ _ _ _ _ _ hI
  have q10 : y.cell? ⟨w.heap.size + 1, 10, none⟩ = some (.int .i64 ov) := cell_of_row _ _ _ _ _ _ hI
  clear hI hyw
  have hs0 := B0.out.lt
  have hs1 := B1.out.lt
  have hs2 := B2.out.lt
  obtain ⟨bl, off, hxa, hbl, e0, e1⟩ := HRY.out.elem (Up.refl y) B (by rw [HLR.out]; exact hB) HLR.out rfl
  subst hxa
  obtain ⟨tb, tof, hxt, htb, ⟨t0, t1, t2, t3, t4⟩, -⟩ := HTY.out.elem (Up.refl y) K (by rw [HLT.out]; exact hK) HLT.out rfl HFF.out
  subst hxt
  dsimp only at t0 t1 t2 t3 t4
  have HSR := Lib.hid (fun x (hx : Up w x) => r49_setR ca (some ⟨tb, tof, none⟩) xa ma cn cc tn tc 256 xc mn mc pc h (.slice (some ⟨bl, off, none⟩) 256 rc) R A r1 r2 x (HRW.out.up hx) (by rw [HLR.out]; exact hA) (by rw [HLR.out]; decide))
  generalize (R.getD B (0, 0)).1 = b1 at e0 HAP0
  generalize (R.getD B (0, 0)).2 = b2 at e1 HAP0
  refine wp_region_late 20 18 _ (fun _ _ v x => v = .tuple #[.agg #[.int .i64 r1, .int .i64 r2], .int .i64 r3]) (by kernel_rfl) (by kernel_rfl) rfl ?_
  simp only [List.take_succ_cons, List.take_zero, List.drop_succ_cons, List.drop_zero]
  iterate 15 (refine wpMk_quiet anti_post (by kernel_rfl) ?_; go_big_quiet_step (fail); refine wpQuiet_nil ?_)
  refine wpMk_enter anti_post 66 #[typV (fk, fb, ff, fo, fv), typV (kd, bi, fr, ro, ov), .agg #[.int .i64 b1, .int .i64 b2]] (fun v x y h hu => h) (by kernel_rfl) (fun x => by go_simp) (fun x hx => (HAP0.out x).mono fun e w' ⟨h1, h2⟩ => ⟨_, h1, h2, rfl⟩) ?_
  rintro v ⟨x0, hx0, rfl⟩
  simp only [Act.put, List.setIfInBounds_toArray, List.set_cons_succ, List.set_cons_zero]
  iterate 3 (refine wpMk_quiet anti_post (by kernel_rfl) ?_; go_big_quiet_step (fail); refine wpQuiet_nil ?_)
  refine wpMk_alloc anti_post #[.int .i64 0, .int .i64 0] 60 (by kernel_rfl) (fun x => by go_simp) ?_
  intro p hp'
  simp only [Act.put, List.setIfInBounds_toArray, List.set_cons_succ, List.set_cons_zero]
  refine wpMk_nil ?_
  rintro z hz ⟨_, hPA⟩
  have BP := Lib.hid (show BoxC z p 60 #[.int .i64 0, .int .i64 0] from hPA)
  have BQ := Lib.hid (BP.out.put (.int .i64 r1) (.int .i64 r2))
  obtain ⟨c0, c1⟩ := BP.out.two
  have cf := BP.out.frozen
  refine ⟨by kernel_rfl, .inr ⟨((z.setCell ⟨p, 0, none⟩ (.int .i64 r1)).setCell ⟨p, 1, none⟩ (.int .i64 r2)), by go_simp, ?_⟩⟩
  simp only [Act.put]
  have HYS := Lib.hid ((hz.setCell (p := ⟨p, 0, none⟩) hp' (.int .i64 r1)).setCell (p := ⟨p, 1, none⟩) hp' (.int .i64 r2))
  replace HU := Lib.hid (HU.out.trans HYS.out)
  replace B0 := Lib.hid (B0.out.up HYS.out)
  replace B1 := Lib.hid (B1.out.up HYS.out)
  replace B2 := Lib.hid (B2.out.up HYS.out)
  clear HYS BP c0 c1 cf hPA hz p0 p1 p2 p3 p4 p5 p6 q1 q2 q4 q6 q7 q8 q9 q10 e0 e1 hs0 hs1 hs2 hp' HRY hbl HAP0 t0 t1 t2 t3 t4 HTY htb
  generalize ((z.setCell ⟨p, 0, none⟩ (.int .i64 r1)).setCell ⟨p, 1, none⟩ (.int .i64 r2)) = v at *
  obtain ⟨p0, p1, p2, p3, p4, p5, p6⟩ := B0.out.seven
  have q1 : v.cell? ⟨w.heap.size + 1, 1, none⟩ = some (.int .i64 (A : Int)) := cell_of_row _ _ _ _ _ _ B1.out
  obtain ⟨c0, c1⟩ := BQ.out.two
  go_wp2_with (go_at_call 64; refine (HSR.out _ HU.out).mono ?_; rintro e z ⟨x', rfl, hz, hxi, hxf⟩; obtain ⟨⟨na, nc, rfl⟩, -⟩ := hxi.slice; have hln : (R.set A (r1, r2)).length = 256 := (by rw [List.length_set]; exact HLR.out); rw [hln] at hxi hxf ⊢; clear hln; have hlz : w.heap.size + 2 < z.heap.size := (B2.out.up hz).lt; have HUZ := Lib.hid (HU.out.trans hz); have HXI := Lib.hid hxi; have FX := Lib.hid (hxf.ne B2.out.lt); have FW := Lib.hid (hxf.le HU.out.size); replace B2 := Lib.hid (B2.out.up hz); clear hz hxi hxf; obtain ⟨z0, z1, z2, z3, z4, z5, z6⟩ := B2.out.seven; have zf := B2.out.frozen)
  have HCF := Lib.hid ((((((((HXI.out).set FX.out 0 (.slice ca cn cc)).set FX.out 1 (.slice (some ⟨tb, tof, none⟩) tn tc)).set FX.out 2 (.int .i64 pc)).set FX.out 3 (.slice xa 256 xc)).set FX.out 4 (.slice na 256 nc)).set FX.out 5 (.slice ma mn mc)).set FX.out 6 (.bool h))
  have HUF := Lib.hid ((((((((HUZ.out).setCell (p := ⟨w.heap.size + 2, 0, none⟩) (by show w.heap.size ≤ w.heap.size + 2; omega) (.slice ca cn cc)).setCell (p := ⟨w.heap.size + 2, 1, none⟩) (by show w.heap.size ≤ w.heap.size + 2; omega) (.slice (some ⟨tb, tof, none⟩) tn tc)).setCell (p := ⟨w.heap.size + 2, 2, none⟩) (by show w.heap.size ≤ w.heap.size + 2; omega) (.int .i64 pc)).setCell (p := ⟨w.heap.size + 2, 3, none⟩) (by show w.heap.size ≤ w.heap.size + 2; omega) (.slice xa 256 xc)).setCell (p := ⟨w.heap.size + 2, 4, none⟩) (by show w.heap.size ≤ w.heap.size + 2; omega) (.slice na 256 nc)).setCell (p := ⟨w.heap.size + 2, 5, none⟩) (by show w.heap.size ≤ w.heap.size + 2; omega) (.slice ma mn mc)).setCell (p := ⟨w.heap.size + 2, 6, none⟩) (by show w.heap.size ≤ w.heap.size + 2; omega) (.bool h))
  refine bodyPost_ret (v := .tuple #[.agg #[.slice ca cn cc, .slice (some ⟨tb, tof, none⟩) tn tc, .int .i64 pc, .slice xa 256 xc, .slice na 256 nc, .slice ma mn mc, .bool h], .int .i64 r3]) (by simp [results, Tryd.results54, go_sem, *]) rfl ?_
  exact ⟨_, rfl, HUF.out, HCF.out, FW.out⟩

end Go.Proofs.YtbpojmhgifgfdaaDoor
end
