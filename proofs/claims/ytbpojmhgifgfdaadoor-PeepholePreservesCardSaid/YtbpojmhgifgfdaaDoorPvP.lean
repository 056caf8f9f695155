/-
  The reference 49: memory at load, and out of bounds. Printed by mkPvP.py.
-/
import Derived.Test.YtbpojmhgifgfdaaDoorPvK
import Derived.Test.YtbpojmhgifgfdaaDoorPvN
namespace Go.Proofs.YtbpojmhgifgfdaaDoor
open Go.ChangeShapes Go.WideShapes Go.ChangeAt Go.RowKit
set_option linter.unusedVariables false
set_option linter.unusedSimpArgs false
set_option maxRecDepth 100000

set_option maxHeartbeats 8000000 in
theorem r49_memory10e (ca ta ra ma xa : Option Addr) (cn cc tn tc rc mn mc xc : Nat) (pc C n1 d kd bi fr ro ov : Int) (h : Bool) (X : List Int) (A B : Nat) (q : Int) (w : World) (hx : IntsAt w (.slice xa 256 xc) X) (hX : X.length = 256) (hB : B < 256) (hq : X.getD B 0 = q) (hout : q < n1 ∨ C ≤ q) :
    Calls Tryd.prog 53 #[.agg #[.slice ca cn cc, .slice ta tn tc, .int .i64 pc, .slice xa 256 xc, .slice ra 256 rc, .slice ma mn mc, .bool h], .agg #[.int .i64 10, .int .i64 (A : Int), .int .i64 (B : Int), .int .i64 C, .int .i64 n1, .int .i64 d, .int .i64 kd, .int .i64 bi, .int .i64 fr, .int .i64 ro, .int .i64 ov]] w fun e w' => e = .returned (.tuple #[.agg #[.slice ca cn cc, .slice ta tn tc, .int .i64 pc, .slice xa 256 xc, .slice ra 256 rc, .slice ma mn mc, .bool h], .int .i64 12]) ∧ Up w w' := by
  have HU : Hid (Up w (((w.alloc (.cells #[.slice ca cn cc, .slice ta tn tc, .int .i64 pc, .slice xa 256 xc, .slice ra 256 rc, .slice ma mn mc, .bool h] 50)).alloc (.cells #[.int .i64 10, .int .i64 (A : Int), .int .i64 (B : Int), .int .i64 C, .int .i64 n1, .int .i64 d, .int .i64 kd, .int .i64 bi, .int .i64 fr, .int .i64 ro, .int .i64 ov] 64)).alloc (.cells #[.slice none 0 0, .slice none 0 0, .int .i64 0, .slice none 0 0, .slice none 0 0, .slice none 0 0, .bool false] 50))) := Lib.hid ((((Up.refl w).alloc _).alloc _).alloc _)
  have B0 : Hid (BoxC (((w.alloc (.cells #[.slice ca cn cc, .slice ta tn tc, .int .i64 pc, .slice xa 256 xc, .slice ra 256 rc, .slice ma mn mc, .bool h] 50)).alloc (.cells #[.int .i64 10, .int .i64 (A : Int), .int .i64 (B : Int), .int .i64 C, .int .i64 n1, .int .i64 d, .int .i64 kd, .int .i64 bi, .int .i64 fr, .int .i64 ro, .int .i64 ov] 64)).alloc (.cells #[.slice none 0 0, .slice none 0 0, .int .i64 0, .slice none 0 0, .slice none 0 0, .slice none 0 0, .bool false] 50)) w.heap.size 50 #[.slice ca cn cc, .slice ta tn tc, .int .i64 pc, .slice xa 256 xc, .slice ra 256 rc, .slice ma mn mc, .bool h]) := Lib.hid ((BoxC.new w _ _).up (((Up.refl _).alloc _).alloc _))
  have B1 : Hid (BoxC (((w.alloc (.cells #[.slice ca cn cc, .slice ta tn tc, .int .i64 pc, .slice xa 256 xc, .slice ra 256 rc, .slice ma mn mc, .bool h] 50)).alloc (.cells #[.int .i64 10, .int .i64 (A : Int), .int .i64 (B : Int), .int .i64 C, .int .i64 n1, .int .i64 d, .int .i64 kd, .int .i64 bi, .int .i64 fr, .int .i64 ro, .int .i64 ov] 64)).alloc (.cells #[.slice none 0 0, .slice none 0 0, .int .i64 0, .slice none 0 0, .slice none 0 0, .slice none 0 0, .bool false] 50)) (w.heap.size + 1) 64 #[.int .i64 10, .int .i64 (A : Int), .int .i64 (B : Int), .int .i64 C, .int .i64 n1, .int .i64 d, .int .i64 kd, .int .i64 bi, .int .i64 fr, .int .i64 ro, .int .i64 ov]) := Lib.hid ((BoxC.new2 w _ _ _).up ((Up.refl _).alloc _))
  have B2 : Hid (BoxC (((w.alloc (.cells #[.slice ca cn cc, .slice ta tn tc, .int .i64 pc, .slice xa 256 xc, .slice ra 256 rc, .slice ma mn mc, .bool h] 50)).alloc (.cells #[.int .i64 10, .int .i64 (A : Int), .int .i64 (B : Int), .int .i64 C, .int .i64 n1, .int .i64 d, .int .i64 kd, .int .i64 bi, .int .i64 fr, .int .i64 ro, .int .i64 ov] 64)).alloc (.cells #[.slice none 0 0, .slice none 0 0, .int .i64 0, .slice none 0 0, .slice none 0 0, .slice none 0 0, .bool false] 50)) (w.heap.size + 2) 50 #[.slice none 0 0, .slice none 0 0, .int .i64 0, .slice none 0 0, .slice none 0 0, .slice none 0 0, .bool false]) := Lib.hid (BoxC.new3 w _ _ _ _)
  have HX := Lib.hid hx
  have HLX := Lib.hid hX
  have hBI : (B : Int) < 256 := by omega
  obtain ⟨bl, off, hxa, hbl, e0⟩ := HX.out.elem HU.out B (by rw [HLX.out]; exact hB) HLX.out rfl
  rw [hq] at e0
  subst hxa
  clear hx hX hq
  have hbl2 : bl < w.heap.size := hbl
  rcases (by omega : q < n1 ∨ (n1 ≤ q ∧ C ≤ q)) with h1 | ⟨h1, h2⟩
  · go_enter Tryd.func53, Tryd.ntmps53
    go_wp2
    refine bodyPost_ret (v := .tuple #[.agg #[.slice ca cn cc, .slice ta tn tc, .int .i64 pc, .slice (some ⟨bl, off, none⟩) 256 xc, .slice ra 256 rc, .slice ma mn mc, .bool h], .int .i64 12]) (by simp [results, Tryd.results53, go_sem, *]) rfl ?_
    exact ⟨rfl, (((Up.refl w).alloc _).alloc _).alloc _⟩
  · have h3 : ¬ q < n1 := by omega
    go_enter Tryd.func53, Tryd.ntmps53
    go_wp2
    refine bodyPost_ret (v := .tuple #[.agg #[.slice ca cn cc, .slice ta tn tc, .int .i64 pc, .slice (some ⟨bl, off, none⟩) 256 xc, .slice ra 256 rc, .slice ma mn mc, .bool h], .int .i64 12]) (by simp [results, Tryd.results53, go_sem, *]) rfl ?_
    exact ⟨rfl, (((Up.refl w).alloc _).alloc _).alloc _⟩
set_option maxHeartbeats 8000000 in
theorem r49_memory11e (ca ta ra ma xa : Option Addr) (cn cc tn tc rc mn mc xc : Nat) (pc C n1 d kd bi fr ro ov : Int) (h : Bool) (X : List Int) (A B : Nat) (q : Int) (w : World) (hx : IntsAt w (.slice xa 256 xc) X) (hX : X.length = 256) (hB : B < 256) (hq : X.getD B 0 = q) (hout : q < n1 ∨ C ≤ q) :
    Calls Tryd.prog 53 #[.agg #[.slice ca cn cc, .slice ta tn tc, .int .i64 pc, .slice xa 256 xc, .slice ra 256 rc, .slice ma mn mc, .bool h], .agg #[.int .i64 11, .int .i64 (A : Int), .int .i64 (B : Int), .int .i64 C, .int .i64 n1, .int .i64 d, .int .i64 kd, .int .i64 bi, .int .i64 fr, .int .i64 ro, .int .i64 ov]] w fun e w' => e = .returned (.tuple #[.agg #[.slice ca cn cc, .slice ta tn tc, .int .i64 pc, .slice xa 256 xc, .slice ra 256 rc, .slice ma mn mc, .bool h], .int .i64 12]) ∧ Up w w' := by
  have HU : Hid (Up w (((w.alloc (.cells #[.slice ca cn cc, .slice ta tn tc, .int .i64 pc, .slice xa 256 xc, .slice ra 256 rc, .slice ma mn mc, .bool h] 50)).alloc (.cells #[.int .i64 11, .int .i64 (A : Int), .int .i64 (B : Int), .int .i64 C, .int .i64 n1, .int .i64 d, .int .i64 kd, .int .i64 bi, .int .i64 fr, .int .i64 ro, .int .i64 ov] 64)).alloc (.cells #[.slice none 0 0, .slice none 0 0, .int .i64 0, .slice none 0 0, .slice none 0 0, .slice none 0 0, .bool false] 50))) := Lib.hid ((((Up.refl w).alloc _).alloc _).alloc _)
  have B0 : Hid (BoxC (((w.alloc (.cells #[.slice ca cn cc, .slice ta tn tc, .int .i64 pc, .slice xa 256 xc, .slice ra 256 rc, .slice ma mn mc, .bool h] 50)).alloc (.cells #[.int .i64 11, .int .i64 (A : Int), .int .i64 (B : Int), .int .i64 C, .int .i64 n1, .int .i64 d, .int .i64 kd, .int .i64 bi, .int .i64 fr, .int .i64 ro, .int .i64 ov] 64)).alloc (.cells #[.slice none 0 0, .slice none 0 0, .int .i64 0, .slice none 0 0, .slice none 0 0, .slice none 0 0, .bool false] 50)) w.heap.size 50 #[.slice ca cn cc, .slice ta tn tc, .int .i64 pc, .slice xa 256 xc, .slice ra 256 rc, .slice ma mn mc, .bool h]) := Lib.hid ((BoxC.new w _ _).up (((Up.refl _).alloc _).alloc _))
  have B1 : Hid (BoxC (((w.alloc (.cells #[.slice ca cn cc, .slice ta tn tc, .int .i64 pc, .slice xa 256 xc, .slice ra 256 rc, .slice ma mn mc, .bool h] 50)).alloc (.cells #[.int .i64 11, .int .i64 (A : Int), .int .i64 (B : Int), .int .i64 C, .int .i64 n1, .int .i64 d, .int .i64 kd, .int .i64 bi, .int .i64 fr, .int .i64 ro, .int .i64 ov] 64)).alloc (.cells #[.slice none 0 0, .slice none 0 0, .int .i64 0, .slice none 0 0, .slice none 0 0, .slice none 0 0, .bool false] 50)) (w.heap.size + 1) 64 #[.int .i64 11, .int .i64 (A : Int), .int .i64 (B : Int), .int .i64 C, .int .i64 n1, .int .i64 d, .int .i64 kd, .int .i64 bi, .int .i64 fr, .int .i64 ro, .int .i64 ov]) := Lib.hid ((BoxC.new2 w _ _ _).up ((Up.refl _).alloc _))
  have B2 : Hid (BoxC (((w.alloc (.cells #[.slice ca cn cc, .slice ta tn tc, .int .i64 pc, .slice xa 256 xc, .slice ra 256 rc, .slice ma mn mc, .bool h] 50)).alloc (.cells #[.int .i64 11, .int .i64 (A : Int), .int .i64 (B : Int), .int .i64 C, .int .i64 n1, .int .i64 d, .int .i64 kd, .int .i64 bi, .int .i64 fr, .int .i64 ro, .int .i64 ov] 64)).alloc (.cells #[.slice none 0 0, .slice none 0 0, .int .i64 0, .slice none 0 0, .slice none 0 0, .slice none 0 0, .bool false] 50)) (w.heap.size + 2) 50 #[.slice none 0 0, .slice none 0 0, .int .i64 0, .slice none 0 0, .slice none 0 0, .slice none 0 0, .bool false]) := Lib.hid (BoxC.new3 w _ _ _ _)
  have HX := Lib.hid hx
  have HLX := Lib.hid hX
  have hBI : (B : Int) < 256 := by omega
  obtain ⟨bl, off, hxa, hbl, e0⟩ := HX.out.elem HU.out B (by rw [HLX.out]; exact hB) HLX.out rfl
  rw [hq] at e0
  subst hxa
  clear hx hX hq
  have hbl2 : bl < w.heap.size := hbl
  rcases (by omega : q < n1 ∨ (n1 ≤ q ∧ C ≤ q)) with h1 | ⟨h1, h2⟩
  · go_enter Tryd.func53, Tryd.ntmps53
    go_wp2
    refine bodyPost_ret (v := .tuple #[.agg #[.slice ca cn cc, .slice ta tn tc, .int .i64 pc, .slice (some ⟨bl, off, none⟩) 256 xc, .slice ra 256 rc, .slice ma mn mc, .bool h], .int .i64 12]) (by simp [results, Tryd.results53, go_sem, *]) rfl ?_
    exact ⟨rfl, (((Up.refl w).alloc _).alloc _).alloc _⟩
  · have h3 : ¬ q < n1 := by omega
    go_enter Tryd.func53, Tryd.ntmps53
    go_wp2
    refine bodyPost_ret (v := .tuple #[.agg #[.slice ca cn cc, .slice ta tn tc, .int .i64 pc, .slice (some ⟨bl, off, none⟩) 256 xc, .slice ra 256 rc, .slice ma mn mc, .bool h], .int .i64 12]) (by simp [results, Tryd.results53, go_sem, *]) rfl ?_
    exact ⟨rfl, (((Up.refl w).alloc _).alloc _).alloc _⟩
set_option maxHeartbeats 8000000 in
theorem r49_memory10 (ca ta ra ma xa : Option Addr) (cn cc tn tc rc mn mc xc : Nat) (pc C n1 d kd bi fr ro ov : Int) (h : Bool) (X : List Int) (A B : Nat) (q : Int) (w : World) (hx : IntsAt w (.slice xa 256 xc) X) (hX : X.length = 256) (hB : B < 256) (hq : X.getD B 0 = q) (R M : List (Int × Int)) (hr : ValsAt w (.slice ra 256 rc) R) (hR : R.length = 256) (hA : A < 256) (hm : ValsAt w (.slice ma mn mc) M) (hM : M.length = mn) (Q : Nat) (hQ : q = (Q : Int)) (hlo : n1 ≤ q) (hhi : q < C) (hQm : Q < mn) :
    Calls Tryd.prog 53 #[.agg #[.slice ca cn cc, .slice ta tn tc, .int .i64 pc, .slice xa 256 xc, .slice ra 256 rc, .slice ma mn mc, .bool h], .agg #[.int .i64 10, .int .i64 (A : Int), .int .i64 (B : Int), .int .i64 C, .int .i64 n1, .int .i64 d, .int .i64 kd, .int .i64 bi, .int .i64 fr, .int .i64 ro, .int .i64 ov]] w fun e w' => ∃ r', e = .returned (.tuple #[.agg #[.slice ca cn cc, .slice ta tn tc, .int .i64 pc, .slice xa 256 xc, r', .slice ma mn mc, .bool h], .int .i64 0]) ∧ Up w w' ∧ ValsAt w' r' (R.set A (M.getD Q (0, 0))) ∧ Fresh w.heap.size r' := by
  have HU : Hid (Up w (((w.alloc (.cells #[.slice ca cn cc, .slice ta tn tc, .int .i64 pc, .slice xa 256 xc, .slice ra 256 rc, .slice ma mn mc, .bool h] 50)).alloc (.cells #[.int .i64 10, .int .i64 (A : Int), .int .i64 (B : Int), .int .i64 C, .int .i64 n1, .int .i64 d, .int .i64 kd, .int .i64 bi, .int .i64 fr, .int .i64 ro, .int .i64 ov] 64)).alloc (.cells #[.slice none 0 0, .slice none 0 0, .int .i64 0, .slice none 0 0, .slice none 0 0, .slice none 0 0, .bool false] 50))) := Lib.hid ((((Up.refl w).alloc _).alloc _).alloc _)
  have B0 : Hid (BoxC (((w.alloc (.cells #[.slice ca cn cc, .slice ta tn tc, .int .i64 pc, .slice xa 256 xc, .slice ra 256 rc, .slice ma mn mc, .bool h] 50)).alloc (.cells #[.int .i64 10, .int .i64 (A : Int), .int .i64 (B : Int), .int .i64 C, .int .i64 n1, .int .i64 d, .int .i64 kd, .int .i64 bi, .int .i64 fr, .int .i64 ro, .int .i64 ov] 64)).alloc (.cells #[.slice none 0 0, .slice none 0 0, .int .i64 0, .slice none 0 0, .slice none 0 0, .slice none 0 0, .bool false] 50)) w.heap.size 50 #[.slice ca cn cc, .slice ta tn tc, .int .i64 pc, .slice xa 256 xc, .slice ra 256 rc, .slice ma mn mc, .bool h]) := Lib.hid ((BoxC.new w _ _).up (((Up.refl _).alloc _).alloc _))
  have B1 : Hid (BoxC (((w.alloc (.cells #[.slice ca cn cc, .slice ta tn tc, .int .i64 pc, .slice xa 256 xc, .slice ra 256 rc, .slice ma mn mc, .bool h] 50)).alloc (.cells #[.int .i64 10, .int .i64 (A : Int), .int .i64 (B : Int), .int .i64 C, .int .i64 n1, .int .i64 d, .int .i64 kd, .int .i64 bi, .int .i64 fr, .int .i64 ro, .int .i64 ov] 64)).alloc (.cells #[.slice none 0 0, .slice none 0 0, .int .i64 0, .slice none 0 0, .slice none 0 0, .slice none 0 0, .bool false] 50)) (w.heap.size + 1) 64 #[.int .i64 10, .int .i64 (A : Int), .int .i64 (B : Int), .int .i64 C, .int .i64 n1, .int .i64 d, .int .i64 kd, .int .i64 bi, .int .i64 fr, .int .i64 ro, .int .i64 ov]) := Lib.hid ((BoxC.new2 w _ _ _).up ((Up.refl _).alloc _))
  have B2 : Hid (BoxC (((w.alloc (.cells #[.slice ca cn cc, .slice ta tn tc, .int .i64 pc, .slice xa 256 xc, .slice ra 256 rc, .slice ma mn mc, .bool h] 50)).alloc (.cells #[.int .i64 10, .int .i64 (A : Int), .int .i64 (B : Int), .int .i64 C, .int .i64 n1, .int .i64 d, .int .i64 kd, .int .i64 bi, .int .i64 fr, .int .i64 ro, .int .i64 ov] 64)).alloc (.cells #[.slice none 0 0, .slice none 0 0, .int .i64 0, .slice none 0 0, .slice none 0 0, .slice none 0 0, .bool false] 50)) (w.heap.size + 2) 50 #[.slice none 0 0, .slice none 0 0, .int .i64 0, .slice none 0 0, .slice none 0 0, .slice none 0 0, .bool false]) := Lib.hid (BoxC.new3 w _ _ _ _)
  have HX := Lib.hid hx
  have HLX := Lib.hid hX
  have hBI : (B : Int) < 256 := by omega
  obtain ⟨bl, off, hxa, hbl, e0⟩ := HX.out.elem HU.out B (by rw [HLX.out]; exact hB) HLX.out rfl
  rw [hq] at e0
  subst hxa
  clear hx hX hq
  subst hQ
  have HRW := Lib.hid hr
  have HLR := Lib.hid hR
  have HMW := Lib.hid hm
  have HLM := Lib.hid hM
  have h3 : ¬ (Q : Int) < n1 := by omega
  have h4 : ¬ C ≤ (Q : Int) := by omega
  have hQI : (Q : Int) < mn := by omega
  have hAI : (A : Int) < 256 := by omega
  obtain ⟨⟨k1, k2⟩, hk⟩ : ∃ x, M.getD Q (0, 0) = x := ⟨_, rfl⟩
  rw [hk]
  have HK := Lib.hid hk
  have HSR := Lib.hid (fun x (hx : Up w x) => r49_setR ca ta (some ⟨bl, off, none⟩) ma cn cc tn tc 256 xc mn mc pc h (.slice ra 256 rc) R A k1 k2 x (HRW.out.up hx) (by rw [HLR.out]; exact hA) (by rw [HLR.out]; decide))
  clear hr hR hm hM hk
  go_enter Tryd.func53, Tryd.ntmps53
  go_wp2
  generalize (((w.alloc (.cells #[.slice ca cn cc, .slice ta tn tc, .int .i64 pc, .slice (some ⟨bl, off, none⟩) 256 xc, .slice ra 256 rc, .slice ma mn mc, .bool h] 50)).alloc (.cells #[.int .i64 10, .int .i64 (A : Int), .int .i64 (B : Int), .int .i64 C, .int .i64 n1, .int .i64 d, .int .i64 kd, .int .i64 bi, .int .i64 fr, .int .i64 ro, .int .i64 ov] 64)).alloc (.cells #[.slice none 0 0, .slice none 0 0, .int .i64 0, .slice none 0 0, .slice none 0 0, .slice none 0 0, .bool false] 50)) = y at *
  have HMY := Lib.hid (HMW.out.up HU.out)
  obtain ⟨p0, p1, p2, p3, p4, p5, p6⟩ := B0.out.seven
  have hI := B1.out
  have q1 : y.cell? ⟨w.heap.size + 1, 1, none⟩ = some (.int .i64 (A : Int)) := cell_of_row _ _ _ _ _ _ hI
  clear hI
  have hs0 := B0.out.lt
  have hs1 := B1.out.lt
  have hs2 := B2.out.lt
  obtain ⟨bm, om, hma, hbm, e1, e2⟩ := HMY.out.elem (Up.refl y) Q (by rw [HLM.out]; exact hQm) HLM.out rfl
  subst hma
  rw [HK.out] at e1 e2
  refine wp_region_mk 9 (fun _ _ v x => ∃ r', v = .agg #[.slice ca cn cc, .slice ta tn tc, .int .i64 pc, .slice (some ⟨bl, off, none⟩) 256 xc, r', .slice (some ⟨bm, om, none⟩) mn mc, .bool h] ∧ ValsAt x r' (R.set A (k1, k2)) ∧ Fresh y.heap.size r') (by kernel_rfl) (by kernel_rfl) ?_
  simp only [List.take_succ_cons, List.take_zero, List.drop_succ_cons, List.drop_zero]
  iterate 8 (refine wpMk_quiet anti_post (by kernel_rfl) ?_; go_big_quiet_step (fail); refine wpQuiet_nil ?_)
  refine wpMk_enter anti_post 64 #[.agg #[.slice ca cn cc, .slice ta tn tc, .int .i64 pc, .slice (some ⟨bl, off, none⟩) 256 xc, .slice ra 256 rc, .slice (some ⟨bm, om, none⟩) mn mc, .bool h], .int .i64 (A : Int), .agg #[.int .i64 k1, .int .i64 k2]] (fun v x y ⟨x', h1, h2, h3⟩ hu => ⟨x', h1, h2.up hu, h3⟩) (by kernel_rfl) (fun x => by go_simp) (fun x hx => (HSR.out x (HU.out.trans hx)).mono fun e w' ⟨x', h1, h2, h3, h4⟩ => ⟨_, h1, h2, x', rfl, h3, h4.le hx.size⟩) ?_
  rintro v ⟨x0, hx0, r', rfl, hxi0, hxf0⟩
  obtain ⟨⟨na, nc, rfl⟩, -⟩ := hxi0.slice
  have hln : (R.set A (k1, k2)).length = 256 := by rw [List.length_set]; exact HLR.out
  rw [hln]
  simp only [Act.put, List.setIfInBounds_toArray, List.set_cons_succ, List.set_cons_zero]
  refine wpMk_nil ?_
  rintro z hz ⟨_, x', hxe, hxi, hxf⟩
  obtain rfl : x' = .slice na 256 nc := by
    injection hxe with hxe
    simp only [Array.mk.injEq, List.cons.injEq] at hxe
    exact hxe.2.2.2.2.1.symm
  have HUZ := Lib.hid (HU.out.trans hz)
  have HXI := Lib.hid hxi
  have FX := Lib.hid (hxf.ne hs2)
  have FW := Lib.hid (hxf.le HU.out.size)
  replace B2 := Lib.hid (B2.out.up hz)
  clear hz hxi hxf hxi0 hxf0 hln hxe
  obtain ⟨z0, z1, z2, z3, z4, z5, z6⟩ := B2.out.seven
  have zf := B2.out.frozen
  go_wp2
  have HCF := Lib.hid ((((((((HXI.out).set FX.out 0 (.slice ca cn cc)).set FX.out 1 (.slice ta tn tc)).set FX.out 2 (.int .i64 pc)).set FX.out 3 (.slice (some ⟨bl, off, none⟩) 256 xc)).set FX.out 4 (.slice na 256 nc)).set FX.out 5 (.slice (some ⟨bm, om, none⟩) mn mc)).set FX.out 6 (.bool h))
  have HUF := Lib.hid ((((((((HUZ.out).setCell (p := ⟨w.heap.size + 2, 0, none⟩) (by show w.heap.size ≤ w.heap.size + 2; omega) (.slice ca cn cc)).setCell (p := ⟨w.heap.size + 2, 1, none⟩) (by show w.heap.size ≤ w.heap.size + 2; omega) (.slice ta tn tc)).setCell (p := ⟨w.heap.size + 2, 2, none⟩) (by show w.heap.size ≤ w.heap.size + 2; omega) (.int .i64 pc)).setCell (p := ⟨w.heap.size + 2, 3, none⟩) (by show w.heap.size ≤ w.heap.size + 2; omega) (.slice (some ⟨bl, off, none⟩) 256 xc)).setCell (p := ⟨w.heap.size + 2, 4, none⟩) (by show w.heap.size ≤ w.heap.size + 2; omega) (.slice na 256 nc)).setCell (p := ⟨w.heap.size + 2, 5, none⟩) (by show w.heap.size ≤ w.heap.size + 2; omega) (.slice (some ⟨bm, om, none⟩) mn mc)).setCell (p := ⟨w.heap.size + 2, 6, none⟩) (by show w.heap.size ≤ w.heap.size + 2; omega) (.bool h))
  refine bodyPost_ret (v := .tuple #[.agg #[.slice ca cn cc, .slice ta tn tc, .int .i64 pc, .slice (some ⟨bl, off, none⟩) 256 xc, .slice na 256 nc, .slice (some ⟨bm, om, none⟩) mn mc, .bool h], .int .i64 0]) (by simp [results, Tryd.results53, go_sem, *]) rfl ?_
  exact ⟨_, rfl, HUF.out, HCF.out, FW.out⟩

end Go.Proofs.YtbpojmhgifgfdaaDoor
