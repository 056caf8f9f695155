/-
  The reference 49: Step, whole. Printed by mkPvX.py.
-/
import Derived.Test.YtbpojmhgifgfdaaDoorPvV
import Derived.Test.YtbpojmhgifgfdaaDoorPvT
import Derived.Test.YtbpojmhgifgfdaaDoorPvQ
import Derived.Test.YtbpojmhgifgfdaaDoorPvO

import Derived.Test.YtbpojmhgifgfdaaDoorPvL
import Derived.Test.YtbpojmhgifgfdaaDoorPvJ
namespace Go.Proofs.YtbpojmhgifgfdaaDoor
open Go.ChangeShapes Go.WideShapes Go.ChangeAt Go.RowKit
set_option linter.unusedVariables false
set_option linter.unusedSimpArgs false
set_option maxRecDepth 100000

set_option maxHeartbeats 8000000 in
theorem r49_integer1b (ca ta ra ma xa : Option Addr) (cn cc tn tc rc mn mc xc : Nat) (pc C n1 d kd bi fr ro ov : Int) (h : Bool) (X : List Int) (A : Nat) (B : Int) (w : World) (hx : IntsAt w (.slice xa 256 xc) X) (hX : X.length = 256) (hA : A < 256) (hB1 : -2147483647 ≤ B) (hB2 : B ≤ 2147483647) :
    Calls Tryd.prog 55 #[.agg #[.slice ca cn cc, .slice ta tn tc, .int .i64 pc, .slice xa 256 xc, .slice ra 256 rc, .slice ma mn mc, .bool h], .agg #[.int .i64 1, .int .i64 (A : Int), .int .i64 B, .int .i64 C, .int .i64 n1, .int .i64 d, .int .i64 kd, .int .i64 bi, .int .i64 fr, .int .i64 ro, .int .i64 ov]] w fun e w' => ∃ x', e = .returned (.agg #[.slice ca cn cc, .slice ta tn tc, .int .i64 pc, x', .slice ra 256 rc, .slice ma mn mc, .bool h]) ∧ Up w w' ∧ IntsAt w' x' (X.set A B) ∧ Fresh w.heap.size x' := by
  have HU : Hid (Up w (((w.alloc (.cells #[.slice ca cn cc, .slice ta tn tc, .int .i64 pc, .slice xa 256 xc, .slice ra 256 rc, .slice ma mn mc, .bool h] 50)).alloc (.cells #[.int .i64 1, .int .i64 (A : Int), .int .i64 B, .int .i64 C, .int .i64 n1, .int .i64 d, .int .i64 kd, .int .i64 bi, .int .i64 fr, .int .i64 ro, .int .i64 ov] 64)).alloc (.cells #[.slice none 0 0, .slice none 0 0, .int .i64 0, .slice none 0 0, .slice none 0 0, .slice none 0 0, .bool false] 50))) := Lib.hid ((((Up.refl w).alloc _).alloc _).alloc _)
  have B0 : Hid (BoxC (((w.alloc (.cells #[.slice ca cn cc, .slice ta tn tc, .int .i64 pc, .slice xa 256 xc, .slice ra 256 rc, .slice ma mn mc, .bool h] 50)).alloc (.cells #[.int .i64 1, .int .i64 (A : Int), .int .i64 B, .int .i64 C, .int .i64 n1, .int .i64 d, .int .i64 kd, .int .i64 bi, .int .i64 fr, .int .i64 ro, .int .i64 ov] 64)).alloc (.cells #[.slice none 0 0, .slice none 0 0, .int .i64 0, .slice none 0 0, .slice none 0 0, .slice none 0 0, .bool false] 50)) w.heap.size 50 #[.slice ca cn cc, .slice ta tn tc, .int .i64 pc, .slice xa 256 xc, .slice ra 256 rc, .slice ma mn mc, .bool h]) := Lib.hid ((BoxC.new w _ _).up (((Up.refl _).alloc _).alloc _))
  have B1 : Hid (BoxC (((w.alloc (.cells #[.slice ca cn cc, .slice ta tn tc, .int .i64 pc, .slice xa 256 xc, .slice ra 256 rc, .slice ma mn mc, .bool h] 50)).alloc (.cells #[.int .i64 1, .int .i64 (A : Int), .int .i64 B, .int .i64 C, .int .i64 n1, .int .i64 d, .int .i64 kd, .int .i64 bi, .int .i64 fr, .int .i64 ro, .int .i64 ov] 64)).alloc (.cells #[.slice none 0 0, .slice none 0 0, .int .i64 0, .slice none 0 0, .slice none 0 0, .slice none 0 0, .bool false] 50)) (w.heap.size + 1) 64 #[.int .i64 1, .int .i64 (A : Int), .int .i64 B, .int .i64 C, .int .i64 n1, .int .i64 d, .int .i64 kd, .int .i64 bi, .int .i64 fr, .int .i64 ro, .int .i64 ov]) := Lib.hid ((BoxC.new2 w _ _ _).up ((Up.refl _).alloc _))
  have B2 : Hid (BoxC (((w.alloc (.cells #[.slice ca cn cc, .slice ta tn tc, .int .i64 pc, .slice xa 256 xc, .slice ra 256 rc, .slice ma mn mc, .bool h] 50)).alloc (.cells #[.int .i64 1, .int .i64 (A : Int), .int .i64 B, .int .i64 C, .int .i64 n1, .int .i64 d, .int .i64 kd, .int .i64 bi, .int .i64 fr, .int .i64 ro, .int .i64 ov] 64)).alloc (.cells #[.slice none 0 0, .slice none 0 0, .int .i64 0, .slice none 0 0, .slice none 0 0, .slice none 0 0, .bool false] 50)) (w.heap.size + 2) 50 #[.slice none 0 0, .slice none 0 0, .int .i64 0, .slice none 0 0, .slice none 0 0, .slice none 0 0, .bool false]) := Lib.hid (BoxC.new3 w _ _ _ _)
  have HX := Lib.hid (hx.up HU.out)
  have HXW := Lib.hid hx
  have HLX := Lib.hid hX
  clear hx hX
  go_enter Tryd.func55, Tryd.ntmps55
  have HSX := Lib.hid (fun x (hx : Up w x) => r49_setX ca ta ra ma cn cc tn tc 256 rc mn mc pc h (.slice xa 256 xc) X A B x (HXW.out.up hx) (by rw [HLX.out]; exact hA) (by rw [HLX.out]; decide))
  go_wp2_with (go_at_call 67; refine (HSX.out _ HU.out).mono ?_; rintro e z ⟨x', rfl, hz, hxi, hxf⟩; obtain ⟨⟨na, nc, rfl⟩, -⟩ := hxi.slice; have hln : (X.set A B).length = 256 := (by rw [List.length_set]; exact HLX.out); rw [hln] at hxi hxf ⊢; clear hln; have hlz : w.heap.size + 2 < z.heap.size := (B2.out.up hz).lt; have HUZ := Lib.hid (HU.out.trans hz); have HXI := Lib.hid hxi; have FX := Lib.hid (hxf.ne B2.out.lt); have FW := Lib.hid (hxf.le HU.out.size); replace B2 := Lib.hid (B2.out.up hz); clear hz hxi hxf; obtain ⟨z0, z1, z2, z3, z4, z5, z6⟩ := B2.out.seven; have zf := B2.out.frozen)
  have HCF := Lib.hid ((((((((HXI.out).set FX.out 0 (.slice ca cn cc)).set FX.out 1 (.slice ta tn tc)).set FX.out 2 (.int .i64 pc)).set FX.out 3 (.slice na 256 nc)).set FX.out 4 (.slice ra 256 rc)).set FX.out 5 (.slice ma mn mc)).set FX.out 6 (.bool h))
  have HUF := Lib.hid ((((((((HUZ.out).setCell (p := ⟨w.heap.size + 2, 0, none⟩) (by show w.heap.size ≤ w.heap.size + 2; omega) (.slice ca cn cc)).setCell (p := ⟨w.heap.size + 2, 1, none⟩) (by show w.heap.size ≤ w.heap.size + 2; omega) (.slice ta tn tc)).setCell (p := ⟨w.heap.size + 2, 2, none⟩) (by show w.heap.size ≤ w.heap.size + 2; omega) (.int .i64 pc)).setCell (p := ⟨w.heap.size + 2, 3, none⟩) (by show w.heap.size ≤ w.heap.size + 2; omega) (.slice na 256 nc)).setCell (p := ⟨w.heap.size + 2, 4, none⟩) (by show w.heap.size ≤ w.heap.size + 2; omega) (.slice ra 256 rc)).setCell (p := ⟨w.heap.size + 2, 5, none⟩) (by show w.heap.size ≤ w.heap.size + 2; omega) (.slice ma mn mc)).setCell (p := ⟨w.heap.size + 2, 6, none⟩) (by show w.heap.size ≤ w.heap.size + 2; omega) (.bool h))
  refine bodyPost_ret (v := .agg #[.slice ca cn cc, .slice ta tn tc, .int .i64 pc, .slice na 256 nc, .slice ra 256 rc, .slice ma mn mc, .bool h]) (by simp [results, Tryd.results55, go_sem, *]) rfl ?_
  exact ⟨_, rfl, HUF.out, HCF.out, FW.out⟩


theorem pack_R {ca ta ra ma xa : Option Addr} {cn cc tn tc rc mn mc xc : Nat} {pc er : Int} {P : Program} {f : FuncId} {args : Array Value} {x : World} {s : St} {R' : List (Int × Int)} (h : Calls P f args x fun e z => ∃ r', e = .returned (.tuple #[.agg #[.slice ca cn cc, .slice ta tn tc, .int .i64 pc, .slice xa 256 xc, r', .slice ma mn mc, .bool false], .int .i64 er]) ∧ Up x z ∧ ValsAt z r' R' ∧ Fresh x.heap.size r') (hl : R'.length = 256) (hX : IntsAt x (.slice xa 256 xc) s.X) (hR : ValsAt x (.slice ra 256 rc) s.R) (hM : ValsAt x (.slice ma mn mc) s.M) (hCM : CapOK (.slice ma mn mc)) :
    Calls P f args x fun e z => ∃ xa' xc' ra' rc' ma' mc', e = .returned (.tuple #[.agg #[.slice ca cn cc, .slice ta tn tc, .int .i64 pc, .slice xa' 256 xc', .slice ra' 256 rc', .slice ma' mn mc', .bool false], .int .i64 er]) ∧ Up x z ∧ StR x.heap.size (.slice xa 256 xc) (.slice ra 256 rc) (.slice ma mn mc) z (.slice xa' 256 xc') (.slice ra' 256 rc') (.slice ma' mn mc') { s with R := R' } := h.mono fun e z ⟨v, h1, h2, h3, h4⟩ => by
  obtain ⟨⟨ra', rc', rfl⟩, -⟩ := h3.slice
  rw [hl] at h1 h3 h4
  exact ⟨_, _, ra', rc', _, _, h1, h2, hX.up h2, h3, hM.up h2, hCM, FO.refl _ _, FO.of h4, FO.refl _ _⟩
theorem pack_M {ca ta ra ma xa : Option Addr} {cn cc tn tc rc mn mc xc : Nat} {pc er : Int} {P : Program} {f : FuncId} {args : Array Value} {x : World} {s : St} {R' : List (Int × Int)} (h : Calls P f args x fun e z => ∃ m', e = .returned (.tuple #[.agg #[.slice ca cn cc, .slice ta tn tc, .int .i64 pc, .slice xa 256 xc, .slice ra 256 rc, m', .bool false], .int .i64 er]) ∧ Up x z ∧ ValsAt z m' R' ∧ Fresh x.heap.size m' ∧ CapOK m') (hl : R'.length = mn) (hX : IntsAt x (.slice xa 256 xc) s.X) (hR : ValsAt x (.slice ra 256 rc) s.R) (hM : ValsAt x (.slice ma mn mc) s.M) (hCM : CapOK (.slice ma mn mc)) :
    Calls P f args x fun e z => ∃ xa' xc' ra' rc' ma' mc', e = .returned (.tuple #[.agg #[.slice ca cn cc, .slice ta tn tc, .int .i64 pc, .slice xa' 256 xc', .slice ra' 256 rc', .slice ma' mn mc', .bool false], .int .i64 er]) ∧ Up x z ∧ StR x.heap.size (.slice xa 256 xc) (.slice ra 256 rc) (.slice ma mn mc) z (.slice xa' 256 xc') (.slice ra' 256 rc') (.slice ma' mn mc') { s with M := R' } := h.mono fun e z ⟨v, h1, h2, h3, h4, h5⟩ => by
  obtain ⟨⟨ra', rc', rfl⟩, -⟩ := h3.slice
  rw [hl] at h1 h3 h4 h5
  exact ⟨_, _, _, _, ra', rc', h1, h2, hX.up h2, hR.up h2, h3, h5, FO.refl _ _, FO.refl _ _, FO.of h4⟩
theorem pack_X {ca ta ra ma xa : Option Addr} {cn cc tn tc rc mn mc xc : Nat} {pc : Int} {P : Program} {f : FuncId} {args : Array Value} {x : World} {s : St} {R' : List Int} (h : Calls P f args x fun e z => ∃ x', e = .returned (.agg #[.slice ca cn cc, .slice ta tn tc, .int .i64 pc, x', .slice ra 256 rc, .slice ma mn mc, .bool false]) ∧ Up x z ∧ IntsAt z x' R' ∧ Fresh x.heap.size x') (hl : R'.length = 256) (hX : IntsAt x (.slice xa 256 xc) s.X) (hR : ValsAt x (.slice ra 256 rc) s.R) (hM : ValsAt x (.slice ma mn mc) s.M) (hCM : CapOK (.slice ma mn mc)) :
    Calls P f args x fun e z => ∃ xa' xc' ra' rc' ma' mc', e = .returned (.agg #[.slice ca cn cc, .slice ta tn tc, .int .i64 pc, .slice xa' 256 xc', .slice ra' 256 rc', .slice ma' mn mc', .bool false]) ∧ Up x z ∧ StR x.heap.size (.slice xa 256 xc) (.slice ra 256 rc) (.slice ma mn mc) z (.slice xa' 256 xc') (.slice ra' 256 rc') (.slice ma' mn mc') { s with X := R' } := h.mono fun e z ⟨v, h1, h2, h3, h4⟩ => by
  obtain ⟨⟨ra', rc', rfl⟩, -⟩ := h3.slice
  rw [hl] at h1 h3 h4
  exact ⟨ra', rc', _, _, _, _, h1, h2, h3, hR.up h2, hM.up h2, hCM, FO.of h4, FO.refl _ _, FO.refl _ _⟩
theorem pack_e {ca ta ra ma xa : Option Addr} {cn cc tn tc rc mn mc xc : Nat} {pc er : Int} {P : Program} {f : FuncId} {args : Array Value} {x : World} (h : Calls P f args x fun e z => e = .returned (.tuple #[.agg #[.slice ca cn cc, .slice ta tn tc, .int .i64 pc, .slice xa 256 xc, .slice ra 256 rc, .slice ma mn mc, .bool false], .int .i64 er]) ∧ Up x z) :
    Calls P f args x fun e z => ∃ xa' xc' ra' rc' ma' mc', e = .returned (.tuple #[.agg #[.slice ca cn cc, .slice ta tn tc, .int .i64 pc, .slice xa' 256 xc', .slice ra' 256 rc', .slice ma' mn mc', .bool false], .int .i64 er]) ∧ Up x z := h.mono fun e z ⟨h1, h2⟩ => ⟨_, _, _, _, _, _, h1, h2⟩
theorem pack_Re {ca ta ra ma xa : Option Addr} {cn cc tn tc rc mn mc xc : Nat} {pc er : Int} {P : Program} {f : FuncId} {args : Array Value} {x : World} {R' : List (Int × Int)} (h : Calls P f args x fun e z => ∃ r', e = .returned (.tuple #[.agg #[.slice ca cn cc, .slice ta tn tc, .int .i64 pc, .slice xa 256 xc, r', .slice ma mn mc, .bool false], .int .i64 er]) ∧ Up x z ∧ ValsAt z r' R' ∧ Fresh x.heap.size r') (hl : R'.length = 256) :
    Calls P f args x fun e z => ∃ xa' xc' ra' rc' ma' mc', e = .returned (.tuple #[.agg #[.slice ca cn cc, .slice ta tn tc, .int .i64 pc, .slice xa' 256 xc', .slice ra' 256 rc', .slice ma' mn mc', .bool false], .int .i64 er]) ∧ Up x z := h.mono fun e z ⟨v, h1, h2, h3, h4⟩ => by
  obtain ⟨⟨ra', rc', rfl⟩, -⟩ := h3.slice
  rw [hl] at h1
  exact ⟨_, _, _, _, _, _, h1, h2⟩
theorem SlAt.blk_lt {w : World} {v : Value} {n k : Nat} {f : Nat → Nat → Value} (h : SlAt w v n k f) (hn : 0 < n) : ∀ g, blk v = some g → g < w.heap.size := by
  obtain ⟨⟨a, cap, rfl, h0, hc⟩, -⟩ := h
  intro g hg
  cases a with
  | none => cases hg
  | some y =>
    obtain ⟨_, g2, _⟩ := hc y rfl hn
    have : y.block = g := by simpa [blk] using hg
    omega
theorem op_cases {op : Int} (h : 0 ≤ op ∧ op < 17) : op = 0 ∨ op = 1 ∨ op = 2 ∨ op = 3 ∨ op = 4 ∨ op = 5 ∨ op = 6 ∨ op = 7 ∨ op = 8 ∨ op = 9 ∨ op = 10 ∨ op = 11 ∨ op = 12 ∨ op = 13 ∨ op = 14 ∨ op = 15 ∨ op = 16 := by omega
theorem num_lo {n d lo hi : Int} (h : numB n d lo hi = true) : lo ≤ n ∧ n ≤ hi := by
  unfold numB at h
  simp only [decide_eq_true_eq] at h
  exact h.2
theorem nat_of {A : Int} (h : 0 ≤ A ∧ A ≤ 255) : ∃ k : Nat, A = k ∧ k < 256 := ⟨A.toNat, by omega, by omega⟩

set_option maxHeartbeats 4000000 in
theorem step_go (ca ta ra ma xa : Option Addr) (cn cc tn tc rc mn mc xc pc : Nat) (l : List Ins) (ts : List Typ) (s : St) (w : World) (hc : InsAt w (.slice ca cn cc) l) (hL : l.length = cn) (ht : TypAt w (.slice ta tn tc) ts) (hT : ts.length = tn) (hX : IntsAt w (.slice xa 256 xc) s.X) (hR : ValsAt w (.slice ra 256 rc) s.R) (hM : ValsAt w (.slice ma mn mc) s.M) (hCM : CapOK (.slice ma mn mc)) (l1 : s.X.length = 256) (l2 : s.R.length = 256) (l3 : s.M.length = mn) (hG : Good s) (hp : pc < cn) (b1 : cn ≤ 100000) (b2 : tn ≤ 100000) (b3 : mn ≤ 100000) (hv : valB (l.getD pc i0) l.length ts.length mn = true) {s' : St} {j : Bool} (he : exF ts (l.getD pc i0) s = .go j s') :
    Calls Tryd.prog 38 #[.agg #[.slice ca cn cc, .slice ta tn tc, .int .i64 (pc : Int), .slice xa 256 xc, .slice ra 256 rc, .slice ma mn mc, .bool false]] w fun e w' => ∃ xa' xc' ra' rc' ma' mc', e = .returned (.tuple #[.agg #[.slice ca cn cc, .slice ta tn tc, .int .i64 ((if j then xA (l.getD pc i0) else pc + 1 : Nat) : Int), .slice xa' 256 xc', .slice ra' 256 rc', .slice ma' mn mc', .bool false], .bool true, .int .i64 0]) ∧ Up w w' ∧ StR w.heap.size (.slice xa 256 xc) (.slice ra 256 rc) (.slice ma mn mc) w' (.slice xa' 256 xc') (.slice ra' 256 rc') (.slice ma' mn mc') s' ∧ s'.X.length = 256 ∧ s'.R.length = 256 ∧ s'.M.length = mn := by
  obtain ⟨⟨op, A, B, C, ⟨n1, d⟩, kd, bi, fr, ro, ov⟩, hx⟩ : ∃ x, l.getD pc i0 = x := ⟨_, rfl⟩
  rw [hx] at hv he ⊢
  obtain ⟨f1, f2, f3, f4, f5⟩ := val_fields hv
  have hop := op_cases (val_op hv)
  have hj := fun hj => valid_jump hv hj
  have hm := fun ho => val_mem hv ho
  have hct := fun ho => val_cast hv ho
  have hxb := hX.blk_lt (by rw [l1]; decide)
  have hrb := hR.blk_lt (by rw [l2]; decide)
  have hmb : 0 < s.M.length → ∀ g, blk (.slice ma mn mc) = some g → g < w.heap.size := fun h => hM.blk_lt h
  obtain ⟨hcm1, hcm2⟩ : mn ≤ mc ∧ mc ≤ 9223372036854775807 := by
    obtain ⟨a, n, c, e, g1, g2⟩ := hCM
    cases e
    exact ⟨g1, g2⟩
  dsimp only at f1 f2 f3 f4 f5 hop hj hm hct
  clear hv
  rcases hop with rfl | rfl | rfl | rfl | rfl | rfl | rfl | rfl | rfl | rfl | rfl | rfl | rfl | rfl | rfl | rfl | rfl
  · have e : exF ts (0, A, B, C, (n1, d), kd, bi, fr, ro, ov) s = .stop := rfl
    rw [e] at he
    cases he
  · obtain ⟨A, rfl, hA⟩ := nat_of (fld_x f1)
    have e : exF ts (1, (A : Int), B, C, (n1, d), kd, bi, fr, ro, ov) s = .go false { s with X := s.X.set A B } := rfl
    rw [e] at he
    injection he with g1 g2
    subst g1 g2
    refine (stp_1 ca ta ra ma xa cn cc tn tc rc mn mc xc pc  (A : Int) B C n1 d kd bi fr ro ov l w hc hL hp b1 hx { s with X := s.X.set A B } hxb hrb hmb (fun x hu => pack_X (r49_integer1b ca ta ra ma xa cn cc tn tc rc mn mc xc pc C n1 d kd bi fr ro ov false s.X A B x (hX.up hu) l1 hA (fld_n f2).1 (fld_n f2).2) (by rw [List.length_set]; exact l1) (hX.up hu) (hR.up hu) (hM.up hu) hCM)).mono ?_
    rintro e w' ⟨xa', xc', ra', rc', ma', mc', rfl, hu, hst⟩
    exact ⟨_, _, _, _, _, _, rfl, hu, hst, by rw [List.length_set]; exact l1, l2, l3⟩
  · obtain ⟨A, rfl, hA⟩ := nat_of (fld_x f1)
    obtain ⟨B, rfl, hB⟩ := nat_of (fld_x f2)
    have e : exF ts (2, (A : Int), (B : Int), C, (n1, d), kd, bi, fr, ro, ov) s = .go false { s with X := s.X.set A (s.X.getD B 0) } := rfl
    rw [e] at he
    injection he with g1 g2
    subst g1 g2
    refine (stp_2 ca ta ra ma xa cn cc tn tc rc mn mc xc pc  (A : Int) (B : Int) C n1 d kd bi fr ro ov l w hc hL hp b1 hx { s with X := s.X.set A (s.X.getD B 0) } hxb hrb hmb (fun x hu => pack_X (r49_integer2 ca ta ra ma xa cn cc tn tc rc mn mc xc pc C n1 d kd bi fr ro ov false s.X A B x (hX.up hu) l1 hA hB) (by rw [List.length_set]; exact l1) (hX.up hu) (hR.up hu) (hM.up hu) hCM)).mono ?_
    rintro e w' ⟨xa', xc', ra', rc', ma', mc', rfl, hu, hst⟩
    exact ⟨_, _, _, _, _, _, rfl, hu, hst, by rw [List.length_set]; exact l1, l2, l3⟩
  · obtain ⟨A, rfl, hA⟩ := nat_of (fld_x f1)
    obtain ⟨B, rfl, hB⟩ := nat_of (fld_x f2)
    obtain ⟨C, rfl, hC⟩ := nat_of (fld_x f3)
    have e : exF ts (3, (A : Int), (B : Int), (C : Int), (n1, d), kd, bi, fr, ro, ov) s = .go false { s with X := s.X.set A (wrap64 (s.X.getD B 0 + s.X.getD C 0)) } := rfl
    rw [e] at he
    injection he with g1 g2
    subst g1 g2
    refine (stp_3 ca ta ra ma xa cn cc tn tc rc mn mc xc pc  (A : Int) (B : Int) (C : Int) n1 d kd bi fr ro ov l w hc hL hp b1 hx { s with X := s.X.set A (wrap64 (s.X.getD B 0 + s.X.getD C 0)) } hxb hrb hmb (fun x hu => pack_X (r49_integer3 ca ta ra ma xa cn cc tn tc rc mn mc xc pc n1 d kd bi fr ro ov false s.X A B C x (hX.up hu) l1 hA hB hC) (by rw [List.length_set]; exact l1) (hX.up hu) (hR.up hu) (hM.up hu) hCM)).mono ?_
    rintro e w' ⟨xa', xc', ra', rc', ma', mc', rfl, hu, hst⟩
    exact ⟨_, _, _, _, _, _, rfl, hu, hst, by rw [List.length_set]; exact l1, l2, l3⟩
  · obtain ⟨A, rfl, hA⟩ := nat_of (fld_x f1)
    obtain ⟨B, rfl, hB⟩ := nat_of (fld_x f2)
    have e : exF ts (4, (A : Int), (B : Int), C, (n1, d), kd, bi, fr, ro, ov) s = .go false { s with X := s.X.set A (wrap64 (s.X.getD B 0 * C)) } := rfl
    rw [e] at he
    injection he with g1 g2
    subst g1 g2
    refine (stp_4 ca ta ra ma xa cn cc tn tc rc mn mc xc pc  (A : Int) (B : Int) C n1 d kd bi fr ro ov l w hc hL hp b1 hx { s with X := s.X.set A (wrap64 (s.X.getD B 0 * C)) } hxb hrb hmb (fun x hu => pack_X (r49_integer4 ca ta ra ma xa cn cc tn tc rc mn mc xc pc C n1 d kd bi fr ro ov false s.X A B x (hX.up hu) l1 hA hB) (by rw [List.length_set]; exact l1) (hX.up hu) (hR.up hu) (hM.up hu) hCM)).mono ?_
    rintro e w' ⟨xa', xc', ra', rc', ma', mc', rfl, hu, hst⟩
    exact ⟨_, _, _, _, _, _, rfl, hu, hst, by rw [List.length_set]; exact l1, l2, l3⟩
  · obtain ⟨A, rfl, hA⟩ := nat_of (fld_x f1)
    obtain ⟨B, rfl, hB⟩ := nat_of (fld_x f2)
    obtain ⟨C, rfl, hC⟩ := nat_of (fld_x f3)
    have e : exF ts (5, (A : Int), (B : Int), (C : Int), (n1, d), kd, bi, fr, ro, ov) s = .go false { s with X := s.X.set A (min (s.X.getD B 0) (s.X.getD C 0)) } := rfl
    rw [e] at he
    injection he with g1 g2
    subst g1 g2
    refine (stp_5 ca ta ra ma xa cn cc tn tc rc mn mc xc pc  (A : Int) (B : Int) (C : Int) n1 d kd bi fr ro ov l w hc hL hp b1 hx { s with X := s.X.set A (min (s.X.getD B 0) (s.X.getD C 0)) } hxb hrb hmb (fun x hu => pack_X (r49_integer5 ca ta ra ma xa cn cc tn tc rc mn mc xc pc n1 d kd bi fr ro ov false s.X A B C x (hX.up hu) l1 hA hB hC) (by rw [List.length_set]; exact l1) (hX.up hu) (hR.up hu) (hM.up hu) hCM)).mono ?_
    rintro e w' ⟨xa', xc', ra', rc', ma', mc', rfl, hu, hst⟩
    exact ⟨_, _, _, _, _, _, rfl, hu, hst, by rw [List.length_set]; exact l1, l2, l3⟩
  · obtain ⟨A, rfl, hA⟩ := nat_of (fld_x f1)
    obtain ⟨B, rfl, hB⟩ := nat_of (fld_x f2)
    obtain ⟨C, rfl, hC⟩ := nat_of (fld_x f3)
    have e : exF ts (6, (A : Int), (B : Int), (C : Int), (n1, d), kd, bi, fr, ro, ov) s = .go false { s with X := s.X.set A (max (s.X.getD B 0) (s.X.getD C 0)) } := rfl
    rw [e] at he
    injection he with g1 g2
    subst g1 g2
    refine (stp_6 ca ta ra ma xa cn cc tn tc rc mn mc xc pc  (A : Int) (B : Int) (C : Int) n1 d kd bi fr ro ov l w hc hL hp b1 hx { s with X := s.X.set A (max (s.X.getD B 0) (s.X.getD C 0)) } hxb hrb hmb (fun x hu => pack_X (r49_integer6 ca ta ra ma xa cn cc tn tc rc mn mc xc pc n1 d kd bi fr ro ov false s.X A B C x (hX.up hu) l1 hA hB hC) (by rw [List.length_set]; exact l1) (hX.up hu) (hR.up hu) (hM.up hu) hCM)).mono ?_
    rintro e w' ⟨xa', xc', ra', rc', ma', mc', rfl, hu, hst⟩
    exact ⟨_, _, _, _, _, _, rfl, hu, hst, by rw [List.length_set]; exact l1, l2, l3⟩
  · have e : exF ts (7, A, B, C, (n1, d), kd, bi, fr, ro, ov) s = .go true s := rfl
    rw [e] at he
    injection he with g1 g2
    subst g1 g2
    obtain ⟨a0, a1⟩ := hj rfl
    obtain ⟨A, rfl⟩ : ∃ k : Nat, A = k := ⟨A.toNat, by omega⟩
    refine (stp_7 ca ta ra ma xa cn cc tn tc rc mn mc xc pc  A B C n1 d kd bi fr ro ov l w hc hL hp b1 hx s hxb hrb hmb hX hR hM hCM).mono ?_
    rintro e w' ⟨xa', xc', ra', rc', ma', mc', rfl, hu, hst⟩
    exact ⟨_, _, _, _, _, _, rfl, hu, hst, l1, l2, l3⟩
  · obtain ⟨B, rfl, hB⟩ := nat_of (fld_x f2)
    obtain ⟨C, rfl, hC⟩ := nat_of (fld_x f3)
    obtain ⟨a0, a1⟩ := hj rfl
    obtain ⟨A, rfl⟩ : ∃ k : Nat, A = k := ⟨A.toNat, by omega⟩
    have e : exF ts (8, (A : Int), (B : Int), (C : Int), (n1, d), kd, bi, fr, ro, ov) s = .go (decide (s.X.getD B 0 < s.X.getD C 0)) s := rfl
    rw [e] at he
    injection he with g1 g2
    subst g2
    by_cases hlt : s.X.getD B 0 < s.X.getD C 0
    · rw [decide_eq_true hlt] at g1
      subst g1
      refine (stp_8t ca ta ra ma xa cn cc tn tc rc mn mc xc pc A n1 d kd bi fr ro ov l w hc hL hp b1 B C hB hC hx s hxb hrb hmb hX hR hM hCM l1 hlt).mono ?_
      rintro e w' ⟨xa', xc', ra', rc', ma', mc', rfl, hu, hst⟩
      exact ⟨_, _, _, _, _, _, rfl, hu, hst, l1, l2, l3⟩
    · rw [decide_eq_false hlt] at g1
      subst g1
      refine (stp_8f ca ta ra ma xa cn cc tn tc rc mn mc xc pc A n1 d kd bi fr ro ov l w hc hL hp b1 B C hB hC hx s hxb hrb hmb hX hR hM hCM l1 hlt).mono ?_
      rintro e w' ⟨xa', xc', ra', rc', ma', mc', rfl, hu, hst⟩
      exact ⟨_, _, _, _, _, _, rfl, hu, hst, l1, l2, l3⟩
  · obtain ⟨A, rfl, hA⟩ := nat_of (fld_r f1)
    have e : exF ts (9, (A : Int), B, C, (n1, d), kd, bi, fr, ro, ov) s = .go false { s with R := s.R.set A (n1, d) } := rfl
    rw [e] at he
    injection he with g1 g2
    subst g1 g2
    refine (stp_9 ca ta ra ma xa cn cc tn tc rc mn mc xc pc  (A : Int) B C n1 d kd bi fr ro ov l w hc hL hp b1 hx { s with R := s.R.set A (n1, d) } hxb hrb hmb (fun x hu => pack_R (r49_compute9 ca ta ra ma xa cn cc tn tc rc mn mc xc pc B C n1 d kd bi fr ro ov false s.R A x (hR.up hu) l2 hA) (by rw [List.length_set]; exact l2) (hX.up hu) (hR.up hu) (hM.up hu) hCM)).mono ?_
    rintro e w' ⟨xa', xc', ra', rc', ma', mc', rfl, hu, hst⟩
    exact ⟨_, _, _, _, _, _, rfl, hu, hst, l1, by rw [List.length_set]; exact l2, l3⟩
  · obtain ⟨A, rfl, hA⟩ := nat_of (fld_r f1)
    obtain ⟨B, rfl, hB⟩ := nat_of (fld_x f2)
    have e : exF ts (10, (A : Int), (B : Int), C, (n1, d), kd, bi, fr, ro, ov) s = (if s.X.getD B 0 < n1 ∨ C ≤ s.X.getD B 0 then .bad 12 else .go false { s with R := s.R.set A (s.M.getD (s.X.getD B 0).toNat (0, 0)) }) := rfl
    rw [e] at he
    by_cases hb : s.X.getD B 0 < n1 ∨ C ≤ s.X.getD B 0
    · rw [if_pos hb] at he; cases he
    rw [if_neg hb] at he
    injection he with g1 g2
    subst g1 g2
    have hn1 : 0 ≤ n1 := (num_lo (show numB n1 d 0 C = true from f4)).1
    have hCw : C ≤ mn := hm (.inl rfl)
    obtain ⟨Q, hQ⟩ : ∃ Q : Nat, s.X.getD B 0 = Q := ⟨(s.X.getD B 0).toNat, by omega⟩
    rw [hQ] at hb ⊢
    rw [Int.toNat_natCast]
    have hQm : Q < mn := by omega
    refine (stp_10 ca ta ra ma xa cn cc tn tc rc mn mc xc pc  (A : Int) (B : Int) C n1 d kd bi fr ro ov l w hc hL hp b1 hx { s with R := s.R.set A (s.M.getD Q (0, 0)) } hxb hrb hmb (fun x hu => pack_R (r49_memory10 ca ta ra ma xa cn cc tn tc rc mn mc xc pc C n1 d kd bi fr ro ov false s.X A B _ x (hX.up hu) l1 hB hQ s.R s.M (hR.up hu) l2 hA (hM.up hu) l3 Q rfl (by omega) (by omega) hQm) (by rw [List.length_set]; exact l2) (hX.up hu) (hR.up hu) (hM.up hu) hCM)).mono ?_
    rintro e w' ⟨xa', xc', ra', rc', ma', mc', rfl, hu, hst⟩
    exact ⟨_, _, _, _, _, _, rfl, hu, hst, l1, by rw [List.length_set]; exact l2, l3⟩
  · obtain ⟨A, rfl, hA⟩ := nat_of (fld_r f1)
    obtain ⟨B, rfl, hB⟩ := nat_of (fld_x f2)
    have e : exF ts (11, (A : Int), (B : Int), C, (n1, d), kd, bi, fr, ro, ov) s = (if s.X.getD B 0 < n1 ∨ C ≤ s.X.getD B 0 then .bad 12 else .go false { s with M := stL s.M (s.X.getD B 0).toNat [s.R.getD A (0, 0)] }) := rfl
    rw [e] at he
    by_cases hb : s.X.getD B 0 < n1 ∨ C ≤ s.X.getD B 0
    · rw [if_pos hb] at he; cases he
    rw [if_neg hb] at he
    injection he with g1 g2
    subst g1 g2
    have hn1 : 0 ≤ n1 := (num_lo (show numB n1 d 0 C = true from f4)).1
    have hCw : C ≤ mn := hm (.inr rfl)
    obtain ⟨Q, hQ⟩ : ∃ Q : Nat, s.X.getD B 0 = Q := ⟨(s.X.getD B 0).toNat, by omega⟩
    rw [hQ] at hb ⊢
    rw [Int.toNat_natCast]
    have hQm : Q < mn := by omega
    have LMX : (stL s.M Q [s.R.getD A (0, 0)]).length = mn := by rw [stL_len _ _ _ (by rw [l3]; exact hQm)]; exact l3
    refine (stp_11 ca ta ra ma xa cn cc tn tc rc mn mc xc pc  (A : Int) (B : Int) C n1 d kd bi fr ro ov l w hc hL hp b1 hx { s with M := stL s.M Q [s.R.getD A (0, 0)] } hxb hrb (fun h => hmb (by rw [l3]; omega)) (fun x hu => pack_M (r49_memory11 ca ta ra ma xa cn cc tn tc rc mn mc xc pc C n1 d kd bi fr ro ov false s.X A B _ x (hX.up hu) l1 hB hQ s.R s.M (hR.up hu) l2 hA (hM.up hu) l3 hcm1 b3 hcm2 Q rfl (by omega) (by omega) hQm) LMX (hX.up hu) (hR.up hu) (hM.up hu) hCM)).mono ?_
    rintro e w' ⟨xa', xc', ra', rc', ma', mc', rfl, hu, hst⟩
    exact ⟨_, _, _, _, _, _, rfl, hu, hst, l1, l2, LMX⟩
  · obtain ⟨A, rfl, hA⟩ := nat_of (fld_r f1)
    obtain ⟨B, rfl, hB⟩ := nat_of (fld_r f2)
    obtain ⟨C, rfl, hC⟩ := nat_of (fld_r f3)
    have e : exF ts (12, (A : Int), (B : Int), (C : Int), (n1, d), kd, bi, fr, ro, ov) s = lay3 (12, (A : Int), (B : Int), (C : Int), (n1, d), kd, bi, fr, ro, ov) s (opF (12, (A : Int), (B : Int), (C : Int), (n1, d), kd, bi, fr, ro, ov) s) := rfl
    rw [e] at he
    obtain ⟨⟨r1, r2, r3⟩, hr⟩ : ∃ r, opF (12, (A : Int), (B : Int), (C : Int), (n1, d), kd, bi, fr, ro, ov) s = r := ⟨_, rfl⟩
    rw [hr] at he
    unfold lay3 at he
    dsimp only at he
    by_cases h3 : r3 = 0
    · subst h3
      rw [if_pos rfl] at he
      injection he with g1 g2
      subst g1 g2
      refine (stp_12 ca ta ra ma xa cn cc tn tc rc mn mc xc pc  (A : Int) (B : Int) (C : Int) n1 d kd bi fr ro ov l w hc hL hp b1 hx { s with R := s.R.set A (r1, r2) } hxb hrb hmb (fun x hu => pack_R (r49_compute12 ca ta ra ma xa cn cc tn tc rc mn mc xc pc n1 d kd bi fr ro ov false s.R A B C r1 r2 0 x (hR.up hu) l2 hA hB hC (hG.2.1 B) (hG.2.1 C) hr) (by rw [List.length_set]; exact l2) (hX.up hu) (hR.up hu) (hM.up hu) hCM)).mono ?_
      rintro e w' ⟨xa', xc', ra', rc', ma', mc', rfl, hu, hst⟩
      exact ⟨_, _, _, _, _, _, rfl, hu, hst, l1, by rw [List.length_set]; exact l2, l3⟩
    · rw [if_neg h3] at he; cases he
  · obtain ⟨A, rfl, hA⟩ := nat_of (fld_r f1)
    obtain ⟨B, rfl, hB⟩ := nat_of (fld_r f2)
    obtain ⟨k0, k1⟩ := num_lo (show numB n1 d 0 255 = true from f4)
    have k2 := hct rfl
    obtain ⟨K, rfl⟩ : ∃ K : Nat, n1 = K := ⟨n1.toNat, by omega⟩
    have hK : K < tn := by rw [← hT]; omega
    obtain ⟨⟨fk, fb, ff, fo, fv⟩, hf⟩ : ∃ f, ts.getD K y0 = f := ⟨_, rfl⟩
    have e : exF ts (13, (A : Int), (B : Int), C, ((K : Int), d), kd, bi, fr, ro, ov) s = lay3 (13, (A : Int), (B : Int), C, ((K : Int), d), kd, bi, fr, ro, ov) s (caF ts (13, (A : Int), (B : Int), C, ((K : Int), d), kd, bi, fr, ro, ov) s) := rfl
    rw [e] at he
    obtain ⟨⟨r1, r2, r3⟩, hr⟩ : ∃ r, caF ts (13, (A : Int), (B : Int), C, ((K : Int), d), kd, bi, fr, ro, ov) s = r := ⟨_, rfl⟩
    rw [hr] at he
    unfold lay3 at he
    dsimp only at he
    by_cases h3 : r3 = 0
    · subst h3
      rw [if_pos rfl] at he
      injection he with g1 g2
      subst g1 g2
      refine (stp_13 ca ta ra ma xa cn cc tn tc rc mn mc xc pc  (A : Int) (B : Int) C (K : Int) d kd bi fr ro ov l w hc hL hp b1 hx { s with R := s.R.set A (r1, r2) } hxb hrb hmb (fun x hu => pack_R (r49_compute13 ca ta ra ma xa cn cc tn tc rc mn mc xc pc C d kd bi fr ro ov false s.R ts A B K fk fb ff fo fv r1 r2 0 x (hR.up hu) l2 (ht.up hu) hT b2 hK hf hA hB (hG.2.1 B) (by have h := hr; unfold caF n1F at h; dsimp only at h; rw [Int.toNat_natCast, hf] at h; exact h)) (by rw [List.length_set]; exact l2) (hX.up hu) (hR.up hu) (hM.up hu) hCM)).mono ?_
      rintro e w' ⟨xa', xc', ra', rc', ma', mc', rfl, hu, hst⟩
      exact ⟨_, _, _, _, _, _, rfl, hu, hst, l1, by rw [List.length_set]; exact l2, l3⟩
    · rw [if_neg h3] at he; cases he
  · obtain ⟨B, rfl, hB⟩ := nat_of (fld_r f2)
    obtain ⟨C, rfl, hC⟩ := nat_of (fld_r f3)
    obtain ⟨a0, a1⟩ := hj rfl
    obtain ⟨A, rfl⟩ : ∃ k : Nat, A = k := ⟨A.toNat, by omega⟩
    have e : exF ts (14, (A : Int), (B : Int), (C : Int), (n1, d), kd, bi, fr, ro, ov) s = (if (teF (14, (A : Int), (B : Int), (C : Int), (n1, d), kd, bi, fr, ro, ov) s).2 = 0 then Out.go (!(teF (14, (A : Int), (B : Int), (C : Int), (n1, d), kd, bi, fr, ro, ov) s).1) s else .bad (teF (14, (A : Int), (B : Int), (C : Int), (n1, d), kd, bi, fr, ro, ov) s).2) := rfl
    rw [e] at he
    obtain ⟨⟨r1, r2⟩, hr⟩ : ∃ r, teF (14, (A : Int), (B : Int), (C : Int), (n1, d), kd, bi, fr, ro, ov) s = r := ⟨_, rfl⟩
    rw [hr] at he
    dsimp only at he
    have HT := fun x (hu : Up w x) => r49_test ca ta ra ma xa cn cc tn tc rc mn mc xc pc A n1 d kd bi fr ro ov false s.R B C x (hR.up hu) l2 hB hC (hG.2.1 B) (hG.2.1 C) (r1, r2) hr
    by_cases h2 : r2 = 0
    · subst h2
      rw [if_pos rfl] at he
      injection he with g1 g2
      subst g2
      cases r1 with
      | true =>
        subst g1
        refine (stp_14t ca ta ra ma xa cn cc tn tc rc mn mc xc pc A B C n1 d kd bi fr ro ov l w hc hL hp b1 hx s hxb hrb hmb hX hR hM hCM HT).mono ?_
        rintro e w' ⟨xa', xc', ra', rc', ma', mc', rfl, hu, hst⟩
        exact ⟨_, _, _, _, _, _, rfl, hu, hst, l1, l2, l3⟩
      | false =>
        subst g1
        refine (stp_14f ca ta ra ma xa cn cc tn tc rc mn mc xc pc A B C n1 d kd bi fr ro ov l w hc hL hp b1 hx s hxb hrb hmb hX hR hM hCM HT).mono ?_
        rintro e w' ⟨xa', xc', ra', rc', ma', mc', rfl, hu, hst⟩
        exact ⟨_, _, _, _, _, _, rfl, hu, hst, l1, l2, l3⟩
    · rw [if_neg h2] at he; cases he
  · obtain ⟨A, rfl, hA⟩ := nat_of (fld_x f1)
    obtain ⟨B, rfl, hB⟩ := nat_of (fld_r f2)
    have e : exF ts (15, (A : Int), (B : Int), C, (n1, d), kd, bi, fr, ro, ov) s = .go false { s with X := s.X.set A (max 0 (min (s.R.getD B (0, 0)).1 (wrap64 (C - 1)))) } := rfl
    rw [e] at he
    injection he with g1 g2
    subst g1 g2
    refine (stp_15 ca ta ra ma xa cn cc tn tc rc mn mc xc pc  (A : Int) (B : Int) C n1 d kd bi fr ro ov l w hc hL hp b1 hx { s with X := s.X.set A (max 0 (min (s.R.getD B (0, 0)).1 (wrap64 (C - 1)))) } hxb hrb hmb (fun x hu => pack_X (r49_integer15 ca ta ra ma xa cn cc tn tc rc mn mc xc pc C n1 d kd bi fr ro ov false s.X A B x (hX.up hu) l1 hA hB s.R (hR.up hu) l2) (by rw [List.length_set]; exact l1) (hX.up hu) (hR.up hu) (hM.up hu) hCM)).mono ?_
    rintro e w' ⟨xa', xc', ra', rc', ma', mc', rfl, hu, hst⟩
    exact ⟨_, _, _, _, _, _, rfl, hu, hst, by rw [List.length_set]; exact l1, l2, l3⟩
  · obtain ⟨A, rfl, hA⟩ := nat_of (fld_r f1)
    obtain ⟨B, rfl, hB⟩ := nat_of (fld_x f2)
    have e : exF ts (16, (A : Int), (B : Int), C, (n1, d), kd, bi, fr, ro, ov) s = (if 2147483647 < s.X.getD B 0 ∨ s.X.getD B 0 < -2147483647 then .bad 3 else .go false { s with R := s.R.set A (s.X.getD B 0, 1) }) := rfl
    rw [e] at he
    by_cases hb : 2147483647 < s.X.getD B 0 ∨ s.X.getD B 0 < -2147483647
    · rw [if_pos hb] at he; cases he
    rw [if_neg hb] at he
    injection he with g1 g2
    subst g1 g2
    refine (stp_16 ca ta ra ma xa cn cc tn tc rc mn mc xc pc  (A : Int) (B : Int) C n1 d kd bi fr ro ov l w hc hL hp b1 hx { s with R := s.R.set A (s.X.getD B 0, 1) } hxb hrb hmb (fun x hu => pack_R (r49_compute16 ca ta ra ma xa cn cc tn tc rc mn mc xc pc C n1 d kd bi fr ro ov false s.X s.R A B _ x (hX.up hu) l1 hB rfl (hR.up hu) l2 hA (by omega) (by omega)) (by rw [List.length_set]; exact l2) (hX.up hu) (hR.up hu) (hM.up hu) hCM)).mono ?_
    rintro e w' ⟨xa', xc', ra', rc', ma', mc', rfl, hu, hst⟩
    exact ⟨_, _, _, _, _, _, rfl, hu, hst, l1, by rw [List.length_set]; exact l2, l3⟩
set_option maxHeartbeats 4000000 in
theorem step_bad (ca ta ra ma xa : Option Addr) (cn cc tn tc rc mn mc xc pc : Nat) (l : List Ins) (ts : List Typ) (s : St) (w : World) (hc : InsAt w (.slice ca cn cc) l) (hL : l.length = cn) (ht : TypAt w (.slice ta tn tc) ts) (hT : ts.length = tn) (hX : IntsAt w (.slice xa 256 xc) s.X) (hR : ValsAt w (.slice ra 256 rc) s.R) (hM : ValsAt w (.slice ma mn mc) s.M) (hCM : CapOK (.slice ma mn mc)) (l1 : s.X.length = 256) (l2 : s.R.length = 256) (l3 : s.M.length = mn) (hG : Good s) (hp : pc < cn) (b1 : cn ≤ 100000) (b2 : tn ≤ 100000) (b3 : mn ≤ 100000) (hv : valB (l.getD pc i0) l.length ts.length mn = true) {er : Int} (he : exF ts (l.getD pc i0) s = .bad er) :
    Calls Tryd.prog 38 #[.agg #[.slice ca cn cc, .slice ta tn tc, .int .i64 (pc : Int), .slice xa 256 xc, .slice ra 256 rc, .slice ma mn mc, .bool false]] w fun e w' => e = .returned (.tuple #[.agg #[.slice ca cn cc, .slice ta tn tc, .int .i64 (pc : Int), .slice xa 256 xc, .slice ra 256 rc, .slice ma mn mc, .bool false], .bool false, .int .i64 er]) ∧ Up w w' := by
  obtain ⟨⟨op, A, B, C, ⟨n1, d⟩, kd, bi, fr, ro, ov⟩, hx⟩ : ∃ x, l.getD pc i0 = x := ⟨_, rfl⟩
  rw [hx] at hv he
  obtain ⟨f1, f2, f3, f4, f5⟩ := val_fields hv
  have hop := op_cases (val_op hv)
  have hj := fun hj => valid_jump hv hj
  have hm := fun ho => val_mem hv ho
  have hct := fun ho => val_cast hv ho
  have hxb := hX.blk_lt (by rw [l1]; decide)
  have hrb := hR.blk_lt (by rw [l2]; decide)
  have hmb : 0 < s.M.length → ∀ g, blk (.slice ma mn mc) = some g → g < w.heap.size := fun h => hM.blk_lt h
  obtain ⟨hcm1, hcm2⟩ : mn ≤ mc ∧ mc ≤ 9223372036854775807 := by
    obtain ⟨a, n, c, e, g1, g2⟩ := hCM
    cases e
    exact ⟨g1, g2⟩
  dsimp only at f1 f2 f3 f4 f5 hop hj hm hct
  clear hv
  rcases hop with rfl | rfl | rfl | rfl | rfl | rfl | rfl | rfl | rfl | rfl | rfl | rfl | rfl | rfl | rfl | rfl | rfl
  · cases he
  · cases he
  · cases he
  · cases he
  · cases he
  · cases he
  · cases he
  · cases he
  · cases he
  · cases he
  · obtain ⟨A, rfl, hA⟩ := nat_of (fld_r f1)
    obtain ⟨B, rfl, hB⟩ := nat_of (fld_x f2)
    by_cases hb : s.X.getD B 0 < n1 ∨ C ≤ s.X.getD B 0
    · have e : exF ts (10, (A : Int), (B : Int), C, (n1, d), kd, bi, fr, ro, ov) s = .bad 12 := if_pos hb
      rw [e] at he
      injection he with he
      subst he
      exact stp_10e ca ta ra ma xa cn cc tn tc rc mn mc xc pc  (A : Int) (B : Int) C n1 d kd bi fr ro ov l w hc hL hp b1 hx 12 (fun x hu => pack_e (r49_memory10e ca ta ra ma xa cn cc tn tc rc mn mc xc pc C n1 d kd bi fr ro ov false s.X A B _ x (hX.up hu) l1 hB rfl hb)) (by decide)
    · have e : exF ts (10, (A : Int), (B : Int), C, (n1, d), kd, bi, fr, ro, ov) s = .go false _ := if_neg hb
      rw [e] at he; cases he
  · obtain ⟨A, rfl, hA⟩ := nat_of (fld_r f1)
    obtain ⟨B, rfl, hB⟩ := nat_of (fld_x f2)
    by_cases hb : s.X.getD B 0 < n1 ∨ C ≤ s.X.getD B 0
    · have e : exF ts (11, (A : Int), (B : Int), C, (n1, d), kd, bi, fr, ro, ov) s = .bad 12 := if_pos hb
      rw [e] at he
      injection he with he
      subst he
      exact stp_11e ca ta ra ma xa cn cc tn tc rc mn mc xc pc  (A : Int) (B : Int) C n1 d kd bi fr ro ov l w hc hL hp b1 hx 12 (fun x hu => pack_e (r49_memory11e ca ta ra ma xa cn cc tn tc rc mn mc xc pc C n1 d kd bi fr ro ov false s.X A B _ x (hX.up hu) l1 hB rfl hb)) (by decide)
    · have e : exF ts (11, (A : Int), (B : Int), C, (n1, d), kd, bi, fr, ro, ov) s = .go false _ := if_neg hb
      rw [e] at he; cases he
  · obtain ⟨A, rfl, hA⟩ := nat_of (fld_r f1)
    obtain ⟨B, rfl, hB⟩ := nat_of (fld_r f2)
    obtain ⟨C, rfl, hC⟩ := nat_of (fld_r f3)
    have e : exF ts (12, (A : Int), (B : Int), (C : Int), (n1, d), kd, bi, fr, ro, ov) s = lay3 (12, (A : Int), (B : Int), (C : Int), (n1, d), kd, bi, fr, ro, ov) s (opF (12, (A : Int), (B : Int), (C : Int), (n1, d), kd, bi, fr, ro, ov) s) := rfl
    rw [e] at he
    obtain ⟨⟨r1, r2, r3⟩, hr⟩ : ∃ r, opF (12, (A : Int), (B : Int), (C : Int), (n1, d), kd, bi, fr, ro, ov) s = r := ⟨_, rfl⟩
    rw [hr] at he
    unfold lay3 at he
    dsimp only at he
    by_cases h3 : r3 = 0
    · rw [if_pos h3] at he; cases he
    rw [if_neg h3] at he
    injection he with he
    subst he
    exact stp_12e ca ta ra ma xa cn cc tn tc rc mn mc xc pc  (A : Int) (B : Int) (C : Int) n1 d kd bi fr ro ov l w hc hL hp b1 hx r3 (fun x hu => pack_Re (ra := ra) (rc := rc) (r49_compute12 ca ta ra ma xa cn cc tn tc rc mn mc xc pc n1 d kd bi fr ro ov false s.R A B C r1 r2 r3 x (hR.up hu) l2 hA hB hC (hG.2.1 B) (hG.2.1 C) hr) (by rw [List.length_set]; exact l2)) h3
  · obtain ⟨A, rfl, hA⟩ := nat_of (fld_r f1)
    obtain ⟨B, rfl, hB⟩ := nat_of (fld_r f2)
    obtain ⟨k0, k1⟩ := num_lo (show numB n1 d 0 255 = true from f4)
    have k2 := hct rfl
    obtain ⟨K, rfl⟩ : ∃ K : Nat, n1 = K := ⟨n1.toNat, by omega⟩
    have hK : K < tn := by rw [← hT]; omega
    obtain ⟨⟨fk, fb, ff, fo, fv⟩, hf⟩ : ∃ f, ts.getD K y0 = f := ⟨_, rfl⟩
    have e : exF ts (13, (A : Int), (B : Int), C, ((K : Int), d), kd, bi, fr, ro, ov) s = lay3 (13, (A : Int), (B : Int), C, ((K : Int), d), kd, bi, fr, ro, ov) s (caF ts (13, (A : Int), (B : Int), C, ((K : Int), d), kd, bi, fr, ro, ov) s) := rfl
    rw [e] at he
    obtain ⟨⟨r1, r2, r3⟩, hr⟩ : ∃ r, caF ts (13, (A : Int), (B : Int), C, ((K : Int), d), kd, bi, fr, ro, ov) s = r := ⟨_, rfl⟩
    rw [hr] at he
    unfold lay3 at he
    dsimp only at he
    by_cases h3 : r3 = 0
    · rw [if_pos h3] at he; cases he
    rw [if_neg h3] at he
    injection he with he
    subst he
    exact stp_13e ca ta ra ma xa cn cc tn tc rc mn mc xc pc  (A : Int) (B : Int) C (K : Int) d kd bi fr ro ov l w hc hL hp b1 hx r3 (fun x hu => pack_Re (ra := ra) (rc := rc) (r49_compute13 ca ta ra ma xa cn cc tn tc rc mn mc xc pc C d kd bi fr ro ov false s.R ts A B K fk fb ff fo fv r1 r2 r3 x (hR.up hu) l2 (ht.up hu) hT b2 hK hf hA hB (hG.2.1 B) (by have h := hr; unfold caF n1F at h; dsimp only at h; rw [Int.toNat_natCast, hf] at h; exact h)) (by rw [List.length_set]; exact l2)) h3
  · obtain ⟨B, rfl, hB⟩ := nat_of (fld_r f2)
    obtain ⟨C, rfl, hC⟩ := nat_of (fld_r f3)
    have e : exF ts (14, A, (B : Int), (C : Int), (n1, d), kd, bi, fr, ro, ov) s = (if (teF (14, A, (B : Int), (C : Int), (n1, d), kd, bi, fr, ro, ov) s).2 = 0 then Out.go (!(teF (14, A, (B : Int), (C : Int), (n1, d), kd, bi, fr, ro, ov) s).1) s else .bad (teF (14, A, (B : Int), (C : Int), (n1, d), kd, bi, fr, ro, ov) s).2) := rfl
    rw [e] at he
    obtain ⟨⟨r1, r2⟩, hr⟩ : ∃ r, teF (14, A, (B : Int), (C : Int), (n1, d), kd, bi, fr, ro, ov) s = r := ⟨_, rfl⟩
    rw [hr] at he
    dsimp only at he
    by_cases h2 : r2 = 0
    · rw [if_pos h2] at he; cases he
    rw [if_neg h2] at he
    injection he with he
    subst he
    exact stp_14e ca ta ra ma xa cn cc tn tc rc mn mc xc pc A B C n1 d kd bi fr ro ov l w hc hL hp b1 hx r1 r2 (fun x hu => r49_test ca ta ra ma xa cn cc tn tc rc mn mc xc pc A n1 d kd bi fr ro ov false s.R B C x (hR.up hu) l2 hB hC (hG.2.1 B) (hG.2.1 C) (r1, r2) hr) h2
  · cases he
  · obtain ⟨A, rfl, hA⟩ := nat_of (fld_r f1)
    obtain ⟨B, rfl, hB⟩ := nat_of (fld_x f2)
    by_cases hb : 2147483647 < s.X.getD B 0 ∨ s.X.getD B 0 < -2147483647
    · have e : exF ts (16, (A : Int), (B : Int), C, (n1, d), kd, bi, fr, ro, ov) s = .bad 3 := if_pos hb
      rw [e] at he
      injection he with he
      subst he
      exact stp_16e ca ta ra ma xa cn cc tn tc rc mn mc xc pc  (A : Int) (B : Int) C n1 d kd bi fr ro ov l w hc hL hp b1 hx 3 (fun x hu => pack_e (r49_compute16e ca ta ra ma xa cn cc tn tc rc mn mc xc pc C n1 d kd bi fr ro ov false s.X s.R A B _ x (hX.up hu) l1 hB rfl (hR.up hu) l2 hA hb)) (by decide)
    · have e : exF ts (16, (A : Int), (B : Int), C, (n1, d), kd, bi, fr, ro, ov) s = .go false _ := if_neg hb
      rw [e] at he; cases he
set_option maxHeartbeats 4000000 in
theorem step_stop (ca ta ra ma xa : Option Addr) (cn cc tn tc rc mn mc xc pc : Nat) (l : List Ins) (ts : List Typ) (s : St) (w : World) (hc : InsAt w (.slice ca cn cc) l) (hL : l.length = cn) (ht : TypAt w (.slice ta tn tc) ts) (hT : ts.length = tn) (hX : IntsAt w (.slice xa 256 xc) s.X) (hR : ValsAt w (.slice ra 256 rc) s.R) (hM : ValsAt w (.slice ma mn mc) s.M) (hCM : CapOK (.slice ma mn mc)) (l1 : s.X.length = 256) (l2 : s.R.length = 256) (l3 : s.M.length = mn) (hG : Good s) (hp : pc < cn) (b1 : cn ≤ 100000) (b2 : tn ≤ 100000) (b3 : mn ≤ 100000) (hv : valB (l.getD pc i0) l.length ts.length mn = true) (he : exF ts (l.getD pc i0) s = .stop) :
    Calls Tryd.prog 38 #[.agg #[.slice ca cn cc, .slice ta tn tc, .int .i64 (pc : Int), .slice xa 256 xc, .slice ra 256 rc, .slice ma mn mc, .bool false]] w fun e w' => ∃ xa' xc' ra' rc' ma' mc', e = .returned (.tuple #[.agg #[.slice ca cn cc, .slice ta tn tc, .int .i64 (pc : Int), .slice xa' 256 xc', .slice ra' 256 rc', .slice ma' mn mc', .bool true], .bool false, .int .i64 0]) ∧ Up w w' ∧ StR w.heap.size (.slice xa 256 xc) (.slice ra 256 rc) (.slice ma mn mc) w' (.slice xa' 256 xc') (.slice ra' 256 rc') (.slice ma' mn mc') s := by
  obtain ⟨⟨op, A, B, C, ⟨n1, d⟩, kd, bi, fr, ro, ov⟩, hx⟩ : ∃ x, l.getD pc i0 = x := ⟨_, rfl⟩
  rw [hx] at hv he
  obtain ⟨f1, f2, f3, f4, f5⟩ := val_fields hv
  have hop := op_cases (val_op hv)
  have hj := fun hj => valid_jump hv hj
  have hm := fun ho => val_mem hv ho
  have hct := fun ho => val_cast hv ho
  have hxb := hX.blk_lt (by rw [l1]; decide)
  have hrb := hR.blk_lt (by rw [l2]; decide)
  have hmb : 0 < s.M.length → ∀ g, blk (.slice ma mn mc) = some g → g < w.heap.size := fun h => hM.blk_lt h
  obtain ⟨hcm1, hcm2⟩ : mn ≤ mc ∧ mc ≤ 9223372036854775807 := by
    obtain ⟨a, n, c, e, g1, g2⟩ := hCM
    cases e
    exact ⟨g1, g2⟩
  dsimp only at f1 f2 f3 f4 f5 hop hj hm hct
  clear hv
  have h0 : op = 0 := by
    by_cases h0 : op = 0
    · exact h0
    exfalso
    have hs : ∀ j s', Out.go j s' ≠ .stop := fun j s' h => by cases h
    have hb : ∀ e, Out.bad e ≠ .stop := fun e h => by cases h
    revert he
    show _ ≠ _
    unfold exF memF lay3
    dsimp only
    rw [if_neg h0]
    repeat first | exact hs _ _ | exact hb _ | refine ite_ne ?_ ?_
  subst h0
  exact stp_0 ca ta ra ma xa cn cc tn tc rc mn mc xc pc A B C n1 d kd bi fr ro ov l w hc hL hp b1 hx s hxb hrb hmb hX hR hM hCM
end Go.Proofs.YtbpojmhgifgfdaaDoor
