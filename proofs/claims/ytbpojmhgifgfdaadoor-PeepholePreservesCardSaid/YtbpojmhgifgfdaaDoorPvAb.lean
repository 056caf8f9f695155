/-
  Merged by a program (tools/mrg.py): PvW, PvAb.
-/
import Derived.Test.YtbpojmhgifgfdaaDoorPvN
import Derived.Test.YtbpojmhgifgfdaaDoorPvJ
import Derived.Test.YtbpojmhgifgfdaaDoorPeT
import Derived.Test.YtbpojmhgifgfdaaDoorMk
import Derived.Test.YtbpojmhgifgfdaaDoorPvY
import Derived.Test.YtbpojmhgifgfdaaDoorPeTm

section
namespace Go.Proofs.YtbpojmhgifgfdaaDoor
open Go.ChangeShapes Go.WideShapes Go.ChangeAt Go.RowKit
set_option linter.unusedVariables false
set_option linter.unusedSimpArgs false
set_option maxRecDepth 100000

set_option maxHeartbeats 4000000 in
theorem r49_New_e (ca ta : Option Addr) (cn cc tn tc : Nat) (l : List Ins) (ts : List Typ) (words vi ve : Int) (w : World) (hc : InsAt w (.slice ca cn cc) l) (ht : TypAt w (.slice ta tn tc) ts) (hl : l.length ≤ 100000) (htl : ts.length ≤ 100000) (hv : validateF l ts words = (vi, ve)) (hve : ve ≠ 0) :
    Calls Tryd.prog 19 #[.slice ca cn cc, .slice ta tn tc, .int .i64 words] w fun e w' => e = .returned (.tuple #[.agg #[.slice none 0 0, .slice none 0 0, .int .i64 0, .slice none 0 0, .slice none 0 0, .slice none 0 0, .bool false], .int .i64 ve]) ∧ Up w w' := by
  have HV : Hid (∀ z, Up w z → Calls Tryd.prog 18 #[.slice ca cn cc, .slice ta tn tc, .int .i64 words] z fun e w' => e = .returned (.tuple #[.int .i64 vi, .int .i64 ve]) ∧ Up z w') := Lib.hid (fun z hz => by
      have := r47_Validate _ _ l ts words z (hc.up hz) (ht.up hz) hl htl
      rw [hv] at this; exact this)
  have hv1 : (ve != 0) = true := by simpa using hve
  have HU : Hid (Up w (w.alloc (.cells #[.slice none 0 0, .slice none 0 0, .int .i64 0, .slice none 0 0, .slice none 0 0, .slice none 0 0, .bool false] 50))) := Lib.hid ((Up.refl w).alloc _)
  have B0 : Hid (BoxC (w.alloc (.cells #[.slice none 0 0, .slice none 0 0, .int .i64 0, .slice none 0 0, .slice none 0 0, .slice none 0 0, .bool false] 50)) w.heap.size 50 #[.slice none 0 0, .slice none 0 0, .int .i64 0, .slice none 0 0, .slice none 0 0, .slice none 0 0, .bool false]) := Lib.hid (BoxC.new w _ _)
  clear hc ht hl htl hv hve
  go_enter Tryd.func19, Tryd.ntmps19
  go_wp2_with (go_at_call 18; refine (HV.out _ HU.out).mono ?_; rintro e z ⟨rfl, hz⟩; replace HU := Lib.hid (HU.out.trans hz); replace B0 := Lib.hid (B0.out.up hz); clear hz; obtain ⟨p0, p1, p2, p3, p4, p5, p6⟩ := B0.out.seven; have pf := B0.out.frozen)
  have HUF := Lib.hid ((((((((HU.out).setCell (p := ⟨w.heap.size, 0, none⟩) (Nat.le_refl _) (.slice none 0 0)).setCell (p := ⟨w.heap.size, 1, none⟩) (Nat.le_refl _) (.slice none 0 0)).setCell (p := ⟨w.heap.size, 2, none⟩) (Nat.le_refl _) (.int .i64 0)).setCell (p := ⟨w.heap.size, 3, none⟩) (Nat.le_refl _) (.slice none 0 0)).setCell (p := ⟨w.heap.size, 4, none⟩) (Nat.le_refl _) (.slice none 0 0)).setCell (p := ⟨w.heap.size, 5, none⟩) (Nat.le_refl _) (.slice none 0 0)).setCell (p := ⟨w.heap.size, 6, none⟩) (Nat.le_refl _) (.bool false))
  refine bodyPost_ret (v := .tuple #[.agg #[.slice none 0 0, .slice none 0 0, .int .i64 0, .slice none 0 0, .slice none 0 0, .slice none 0 0, .bool false], .int .i64 ve]) (by simp [results, Tryd.results19, go_sem, *]) rfl ?_
  exact ⟨rfl, HUF.out⟩

def zeroX : List Int := List.replicate 256 0
theorem arr1 {a b : Nat} (h : #[Value.int .i64 (a : Int)] = #[Value.int .i64 (b : Int)]) : a = b := by
  injection h with h
  simp only [List.cons.injEq, Value.int.injEq, true_and, and_true] at h
  omega
/-- What a call of zeros gives. -/
def ZerosM (B : Nat) (args : Array Value) (v : Value) (x : World) : Prop := ∃ k : Nat, args = #[.int .i64 k] ∧ ValsAt x v (zeroL k) ∧ Fresh B v ∧ CapOK v
def MakeM (B : Nat) (v : Value) (x : World) : Prop := ∃ b, v = .slice (some ⟨b, 0, none⟩) 256 256 ∧ B ≤ b ∧ IntsAt x v zeroX
set_option maxHeartbeats 8000000 in
theorem r49_New (ca ta : Option Addr) (cn cc tn tc : Nat) (l : List Ins) (ts : List Typ) (n : Nat) (vi : Int) (w : World) (hc : InsAt w (.slice ca cn cc) l) (ht : TypAt w (.slice ta tn tc) ts) (hl : l.length ≤ 100000) (htl : ts.length ≤ 100000) (hn : n ≤ 100000) (hv : validateF l ts n = (vi, 0)) :
    Calls Tryd.prog 19 #[.slice ca cn cc, .slice ta tn tc, .int .i64 n] w fun e w' => ∃ xa xc ra rc ma mc, e = .returned (.tuple #[.agg #[.slice ca cn cc, .slice ta tn tc, .int .i64 0, .slice xa 256 xc, .slice ra 256 rc, .slice ma n mc, .bool false], .int .i64 0]) ∧ Up w w' ∧ IntsAt w' (.slice xa 256 xc) zeroX ∧ ValsAt w' (.slice ra 256 rc) (zeroL 256) ∧ ValsAt w' (.slice ma n mc) (zeroL n) ∧ CapOK (.slice ma n mc) ∧ Fresh w.heap.size (.slice xa 256 xc) ∧ Fresh w.heap.size (.slice ra 256 rc) ∧ Fresh w.heap.size (.slice ma n mc) := by
  obtain ⟨j0, hi0, hz0, hz1, hz2⟩ := info_parts int64_info
  have HV : Hid (∀ z, Up w z → Calls Tryd.prog 18 #[.slice ca cn cc, .slice ta tn tc, .int .i64 n] z fun e w' => e = .returned (.tuple #[.int .i64 vi, .int .i64 0]) ∧ Up z w') := Lib.hid (fun z hz => by
      have := r47_Validate _ _ l ts n z (hc.up hz) (ht.up hz) hl htl
      rw [hv] at this; exact this)
  have HU : Hid (Up w (w.alloc (.cells #[.slice none 0 0, .slice none 0 0, .int .i64 0, .slice none 0 0, .slice none 0 0, .slice none 0 0, .bool false] 50))) := Lib.hid ((Up.refl w).alloc _)
  have B0 : Hid (BoxC (w.alloc (.cells #[.slice none 0 0, .slice none 0 0, .int .i64 0, .slice none 0 0, .slice none 0 0, .slice none 0 0, .bool false] 50)) w.heap.size 50 #[.slice none 0 0, .slice none 0 0, .int .i64 0, .slice none 0 0, .slice none 0 0, .slice none 0 0, .bool false]) := Lib.hid (BoxC.new w _ _)
  clear hc ht hl htl hv
  go_enter Tryd.func19, Tryd.ntmps19
  go_wp2_with (go_at_call 18; refine (HV.out _ HU.out).mono ?_; rintro e z ⟨rfl, hz⟩; replace HU := Lib.hid (HU.out.trans hz); replace B0 := Lib.hid (B0.out.up hz); clear hz)
  rename World => y
  have hsy := B0.out.lt
  have HUY := Lib.hid HU.out
  refine wp_region_mk 7 (fun _ args v x => ZerosM y.heap.size args v x) (by kernel_rfl) (by kernel_rfl) ?_
  simp only [List.take_succ_cons, List.take_zero, List.drop_succ_cons, List.drop_zero]
  iterate 2 (refine wpMk_quiet anti_post (by kernel_rfl) ?_; go_big_quiet_step (fail); refine wpQuiet_nil ?_)
  refine wpMk_any anti_post (MakeM y.heap.size) (fun v x x' ⟨b, h1, h2, h3⟩ hu => ⟨b, h1, h2, h3.up hu⟩) (by kernel_rfl) (fun x hx => ?_) ?_
  · obtain ⟨x', hrun, r1, r2⟩ := run_make_full (P := Tryd.prog) x x.heap.size 48 _ j0 _ 1 (by kernel_rfl) hi0 hz0 hz1 .i64 .i64 256 (by rw [hz2]; decide) (by decide) (Nat.le_refl _)
    have hz0 : (madeCells (Value.int IntKind.i64 0).cells (256 * 1)).toList = intV zeroX := by kernel_rfl
    rw [hz0] at r1
    refine ⟨.slice (some ⟨x.heap.size, 0, none⟩) 256 256, x', ?_, grown_up r2 (fun k hk => by cases hk), ⟨x.heap.size, rfl, hx.size, IntsAt.own (n := 256) (l := zeroX) r1 (by decide) (by decide)⟩⟩
    go_simp
    have hrun' : (Instr.makeSlice 48 (.int .i64 256) (.int .i64 256)).run Tryd.prog x = .ok (.slice (some ⟨x.heap.size, 0, none⟩) 256 256) x' := hrun
    rw [hrun']
    rfl
  rintro v1 ⟨x1, hx1, b1, rfl, hb1, hi1⟩
  simp only [Act.put, List.setIfInBounds_toArray, List.set_cons_succ, List.set_cons_zero]
  refine wpMk_enter anti_post 36 #[.int .i64 256] (fun v x y' ⟨k, h1, h2, h3, h4⟩ hu => ⟨k, h1, h2.up hu, h3, h4⟩) (by kernel_rfl) (fun x => by go_simp) (fun x hx => (r49_zeros 256 (by decide) x).mono fun e w' ⟨v, h1, h2, h3, h4, h5⟩ => ⟨v, h1, h2, 256, rfl, h3, h4.le hx.size, h5⟩) ?_
  rintro v2 ⟨x2, hx2, k2, hk2, hz2', hf2, hc2⟩
  simp only [Act.put, List.setIfInBounds_toArray, List.set_cons_succ, List.set_cons_zero]
  iterate 1 (refine wpMk_quiet anti_post (by kernel_rfl) ?_; go_big_quiet_step (fail); refine wpQuiet_nil ?_)
  refine wpMk_enter anti_post 36 #[.int .i64 n] (fun v x y' ⟨k, h1, h2, h3, h4⟩ hu => ⟨k, h1, h2.up hu, h3, h4⟩) (by kernel_rfl) (fun x => by go_simp) (fun x hx => (r49_zeros n hn x).mono fun e w' ⟨v, h1, h2, h3, h4, h5⟩ => ⟨v, h1, h2, n, rfl, h3, h4.le hx.size, h5⟩) ?_
  rintro v3 ⟨x3, hx3, k3, hk3, hz3, hf3, hc3⟩
  simp only [Act.put, List.setIfInBounds_toArray, List.set_cons_succ, List.set_cons_zero]
  obtain rfl : 256 = k2 := arr1 hk2
  obtain rfl : n = k3 := arr1 hk3
  obtain ⟨⟨ra, rc, rfl⟩, -⟩ := hz2'.slice
  obtain ⟨⟨ma, mc, rfl⟩, -⟩ := hz3.slice
  rw [zeroL_len, zeroL_len] at *
  iterate 1 (refine wpMk_quiet anti_post (by kernel_rfl) ?_; go_big_quiet_step (fail); refine wpQuiet_nil ?_)
  refine wpMk_nil ?_
  rintro z hz ⟨⟨⟨_, b4, hb4, -, hi4⟩, k4, hk4, hz4, hf4, -⟩, k5, hk5, hz5, hf5, hc5⟩
  obtain rfl : 256 = k4 := arr1 hk4
  obtain rfl : n = k5 := arr1 hk5
  have hX := Lib.hid hi4
  cases hb4
  replace B0 := Lib.hid (B0.out.up hz)
  replace HU := Lib.hid (HU.out.trans hz)
  have HZ4 := Lib.hid hz4
  have HZ5 := Lib.hid hz5
  have F1 : ∀ g, blk (.slice (some ⟨b1, 0, none⟩) 256 256) = some g → g ≠ w.heap.size := fun g hg => by
    have : b1 = g := by simpa [blk] using hg
    omega
  have F2 := Lib.hid (hf4.ne hsy)
  have F3 := Lib.hid (hf5.ne hsy)
  have F4 := Lib.hid F1
  have FR4 := Lib.hid (hf4.le HUY.out.size)
  have FR5 := Lib.hid (hf5.le HUY.out.size)
  have FR1 : Hid (Fresh w.heap.size (.slice (some ⟨b1, 0, none⟩) 256 256)) := Lib.hid (fun g hg => by
    have : b1 = g := by simpa [blk] using hg
    have := HUY.out.size
    omega)
  have HC5 := Lib.hid hc5
  clear F1 hi4 hz4 hz5 hf4 hf5 hc5 hk4 hk5 hi1 hz2' hf2 hc2 hz3 hf3 hc3 hk2 hk3 hz hx1 hx2 hx3
  obtain ⟨p0, p1, p2, p3, p4, p5, p6⟩ := B0.out.seven
  have pf := B0.out.frozen
  go_wp2
  have HUF := Lib.hid ((((((((HU.out).setCell (p := ⟨w.heap.size, 0, none⟩) (Nat.le_refl _) (.slice ca cn cc)).setCell (p := ⟨w.heap.size, 1, none⟩) (Nat.le_refl _) (.slice ta tn tc)).setCell (p := ⟨w.heap.size, 2, none⟩) (Nat.le_refl _) (.int .i64 0)).setCell (p := ⟨w.heap.size, 3, none⟩) (Nat.le_refl _) (.slice (some ⟨b1, 0, none⟩) 256 256)).setCell (p := ⟨w.heap.size, 4, none⟩) (Nat.le_refl _) (.slice ra 256 rc)).setCell (p := ⟨w.heap.size, 5, none⟩) (Nat.le_refl _) (.slice ma n mc)).setCell (p := ⟨w.heap.size, 6, none⟩) (Nat.le_refl _) (.bool false))
  have G1 := Lib.hid ((((((((hX.out).set F4.out 0 (.slice ca cn cc)).set F4.out 1 (.slice ta tn tc)).set F4.out 2 (.int .i64 0)).set F4.out 3 (.slice (some ⟨b1, 0, none⟩) 256 256)).set F4.out 4 (.slice ra 256 rc)).set F4.out 5 (.slice ma n mc)).set F4.out 6 (.bool false))
  have G2 := Lib.hid ((((((((HZ4.out).set F2.out 0 (.slice ca cn cc)).set F2.out 1 (.slice ta tn tc)).set F2.out 2 (.int .i64 0)).set F2.out 3 (.slice (some ⟨b1, 0, none⟩) 256 256)).set F2.out 4 (.slice ra 256 rc)).set F2.out 5 (.slice ma n mc)).set F2.out 6 (.bool false))
  have G3 := Lib.hid ((((((((HZ5.out).set F3.out 0 (.slice ca cn cc)).set F3.out 1 (.slice ta tn tc)).set F3.out 2 (.int .i64 0)).set F3.out 3 (.slice (some ⟨b1, 0, none⟩) 256 256)).set F3.out 4 (.slice ra 256 rc)).set F3.out 5 (.slice ma n mc)).set F3.out 6 (.bool false))
  refine bodyPost_ret (v := .tuple #[.agg #[.slice ca cn cc, .slice ta tn tc, .int .i64 0, .slice (some ⟨b1, 0, none⟩) 256 256, .slice ra 256 rc, .slice ma n mc, .bool false], .int .i64 0]) (by simp [results, Tryd.results19, go_sem, *]) rfl ?_
  exact ⟨_, _, _, _, _, _, rfl, HUF.out, G1.out, G2.out, G3.out, HC5.out, FR1.out, FR4.out, FR5.out⟩
end Go.Proofs.YtbpojmhgifgfdaaDoor
end

section
namespace Go.Proofs.YtbpojmhgifgfdaaDoor
open Go.ChangeShapes Go.WideShapes Go.ChangeAt Go.RowKit
set_option linter.unusedVariables false
set_option linter.unusedSimpArgs false
set_option maxRecDepth 100000

/-- The box of a machine, whatever it holds. -/
def MBox (v : World) (b : Nat) : Prop := ∃ (a1 a2 a3 a4 a5 : Option Addr) (n1 c1 n2 c2 n3 c3 n4 c4 n5 c5 : Nat) (p : Int) (h : Bool), BoxC v b 50 #[.slice a1 n1 c1, .slice a2 n2 c2, .int .i64 p, .slice a3 n3 c3, .slice a4 n4 c4, .slice a5 n5 c5, .bool h]
theorem ne_ints {v : World} {g o b : Nat} (hb : MBox v b) {i j : Int} (h0 : v.cell? ⟨g, o, none⟩ = some (.int .i64 i)) (h1 : v.cell? ⟨g, o + 1, none⟩ = some (.int .i64 j)) : g ≠ b := by
  rintro rfl
  obtain ⟨a1, a2, a3, a4, a5, n1, c1, n2, c2, n3, c3, n4, c4, n5, c5, p, h, hb⟩ := hb
  have e0 := cell_of_row v g o _ _ _ hb
  have e1 := cell_of_row v g (o + 1) _ _ _ hb
  rw [h0] at e0
  rw [h1] at e1
  rcases o with _ | _ | _ | _ | _ | _ | _ | o <;> simp at e0 e1
def NEn (n : Nat) (x : Value) (b : Nat) : Prop := n = 0 ∨ ∀ g, blk x = some g → g ≠ b
theorem SlAt.ne_box {v : World} {x : Value} {n k : Nat} {f : Nat → Nat → Value} {b : Nat} (h : SlAt v x n k f) (hf : ∀ i j, ∃ z, f i j = .int .i64 z) (h2 : n = 0 ∨ 2 ≤ k ∨ (k = 1 ∧ 2 ≤ n)) (hb : MBox v b) : NEn n x b := by
  rcases Nat.eq_zero_or_pos n with h0 | h0
  · exact .inl h0
  refine .inr ?_
  obtain ⟨⟨a, cap, rfl, hn, hc⟩, -⟩ := h
  intro g hg
  cases a with
  | none => cases hg
  | some y =>
    obtain ⟨g1, g2, g3⟩ := hc y rfl h0
    have hy : y.block = g := by simpa [blk] using hg
    subst hy
    rcases h2 with h2 | h2 | ⟨rfl, h2⟩
    · omega
    · obtain ⟨z0, e0⟩ := hf 0 0
      obtain ⟨z1, e1⟩ := hf 0 1
      have q0 := g3 0 0 h0 (by omega)
      have q1 := g3 0 1 h0 (by omega)
      rw [e0, show y.off + 0 * k + 0 = y.off by omega] at q0
      rw [e1, show y.off + 0 * k + 1 = y.off + 1 by omega] at q1
      exact ne_ints hb q0 q1
    · obtain ⟨z0, e0⟩ := hf 0 0
      obtain ⟨z1, e1⟩ := hf 1 0
      have q0 := g3 0 0 h0 (by omega)
      have q1 := g3 1 0 (by omega) (by omega)
      rw [e0, show y.off + 0 * 1 + 0 = y.off by omega] at q0
      rw [e1, show y.off + 1 * 1 + 0 = y.off + 1 by omega] at q1
      exact ne_ints hb q0 q1
theorem SlAt.sets {v : World} {x : Value} {n k : Nat} {f : Nat → Nat → Value} {b : Nat} (h : SlAt v x n k f) (hn : NEn n x b) (o : Nat) (u : Value) : SlAt (v.setCell ⟨b, o, none⟩ u) x n k f := by
  rcases hn with rfl | hn
  · obtain ⟨⟨a, cap, hv, e0, _⟩, hmx⟩ := h
    exact ⟨⟨a, cap, hv, e0, fun x _ hl => absurd hl (by omega)⟩, hmx⟩
  · exact h.set hn o u
/-- A world behind the seven stores into a box. -/
def set7 (v : World) (b : Nat) (u0 u1 u2 u3 u4 u5 u6 : Value) : World := ((((((v.setCell ⟨b, 0, none⟩ u0).setCell ⟨b, 1, none⟩ u1).setCell ⟨b, 2, none⟩ u2).setCell ⟨b, 3, none⟩ u3).setCell ⟨b, 4, none⟩ u4).setCell ⟨b, 5, none⟩ u5).setCell ⟨b, 6, none⟩ u6
theorem SlAt.put7 {v : World} {x : Value} {n k : Nat} {f : Nat → Nat → Value} {b : Nat} (h : SlAt v x n k f) (hn : NEn n x b) (u0 u1 u2 u3 u4 u5 u6 : Value) : SlAt (set7 v b u0 u1 u2 u3 u4 u5 u6) x n k f :=
  ((((((h.sets hn 0 u0).sets hn 1 u1).sets hn 2 u2).sets hn 3 u3).sets hn 4 u4).sets hn 5 u5).sets hn 6 u6
section
variable {v : World} {b : Nat} (hb : MBox v b) (u0 u1 u2 u3 u4 u5 u6 : Value)
include hb
theorem InsAt.put7 {c : Value} {l : List Ins} (h : InsAt v c l) : InsAt (set7 v b u0 u1 u2 u3 u4 u5 u6) c l :=
  ⟨h.1.put7 (h.1.ne_box (fun i j => ⟨_, rfl⟩) (.inr (.inl (by decide))) hb) _ _ _ _ _ _ _, h.2⟩
theorem TypAt.put7 {c : Value} {l : List Typ} (h : TypAt v c l) : TypAt (set7 v b u0 u1 u2 u3 u4 u5 u6) c l :=
  ⟨h.1.put7 (h.1.ne_box (fun i j => ⟨_, rfl⟩) (.inr (.inl (by decide))) hb) _ _ _ _ _ _ _, h.2⟩
theorem ValsAt.put7 {c : Value} {l : List (Int × Int)} (h : ValsAt v c l) : ValsAt (set7 v b u0 u1 u2 u3 u4 u5 u6) c l :=
  SlAt.put7 h (SlAt.ne_box h (fun i j => by
    unfold vlF
    cases j with
    | zero => exact ⟨_, rfl⟩
    | succ j => exact ⟨_, rfl⟩) (.inr (.inl (by decide))) hb) _ _ _ _ _ _ _
theorem IntsAt.put7 {c : Value} {l : List Int} (h : IntsAt v c l) (hl : l.length = 256) : IntsAt (set7 v b u0 u1 u2 u3 u4 u5 u6) c l :=
  SlAt.put7 h (SlAt.ne_box h (fun i j => ⟨_, rfl⟩) (.inr (.inr ⟨rfl, by rw [hl]; decide⟩)) hb) _ _ _ _ _ _ _
end
theorem set_other {v : World} {b g o : Nat} (hb : b ≠ g) (u : Value) : (v.setCell ⟨b, o, none⟩ u).heap[g]? = v.heap[g]? := by simp [World.setCell, Array.getElem?_modify, hb]
theorem set7_heap {v : World} {b g : Nat} (hb : b ≠ g) (u0 u1 u2 u3 u4 u5 u6 : Value) : (set7 v b u0 u1 u2 u3 u4 u5 u6).heap[g]? = v.heap[g]? := by
  unfold set7
  rw [set_other hb, set_other hb, set_other hb, set_other hb, set_other hb, set_other hb, set_other hb]
theorem Up.set7 {w v : World} (h : Up w v) {b : Nat} (hb : w.heap.size ≤ b) (u0 u1 u2 u3 u4 u5 u6 : Value) : Up w (set7 v b u0 u1 u2 u3 u4 u5 u6) :=
  ((((((h.setCell (p := ⟨b, 0, none⟩) hb u0).setCell (p := ⟨b, 1, none⟩) hb u1).setCell (p := ⟨b, 2, none⟩) hb u2).setCell (p := ⟨b, 3, none⟩) hb u3).setCell (p := ⟨b, 4, none⟩) hb u4).setCell (p := ⟨b, 5, none⟩) hb u5).setCell (p := ⟨b, 6, none⟩) hb u6
/-- The lists of a machine. -/
structure LS (v : World) (x r m : Value) (mn : Nat) (s : St) : Prop where
  X : IntsAt v x s.X
  R : ValsAt v r s.R
  M : ValsAt v m s.M
  l1 : s.X.length = 256
  l2 : s.R.length = 256
  l3 : s.M.length = mn
theorem LS.up {v v' : World} {x r m : Value} {mn : Nat} {s : St} (h : LS v x r m mn s) (u : Up v v') : LS v' x r m mn s := { h with X := h.X.up u, R := h.R.up u, M := h.M.up u }
theorem LS.put7 {v : World} {x r m : Value} {mn b : Nat} {s : St} (h : LS v x r m mn s) (hb : MBox v b) (u0 u1 u2 u3 u4 u5 u6 : Value) : LS (set7 v b u0 u1 u2 u3 u4 u5 u6) x r m mn s :=
  { h with X := h.X.put7 hb _ _ _ _ _ _ _ h.l1, R := h.R.put7 hb _ _ _ _ _ _ _, M := h.M.put7 hb _ _ _ _ _ _ _ }
/-- What Run asks of a machine that lies behind. -/
theorem LS.mst {v : World} {x r m : Value} {mn : Nat} {s : St} (h : LS v x r m mn s) (hC : CapOK m) (hG : Good s) : MSt v v.heap.size x r m mn s := by
  have o : ∀ y, (∀ g, blk y = some g → g < v.heap.size) → Off v.heap.size y := fun y hy g hg => ⟨by have := hy g hg; omega, by have := hy g hg; omega⟩
  exact ⟨h.X, h.R, h.M, hC, h.l1, h.l2, h.l3, hG, o _ (h.X.blk_lt (by rw [h.l1]; decide)), o _ (h.R.blk_lt (by rw [h.l2]; decide)), fun h0 => o _ (h.M.blk_lt (by rw [h.l3]; exact h0))⟩
theorem BoxC.put7' {w : World} {g : Nat} {t : TypeId} {a b c d e f i : Value} (h : BoxC w g t #[a, b, c, d, e, f, i]) (a' b' c' d' e' f' i' : Value) : BoxC (set7 w g a' b' c' d' e' f' i') g t #[a', b', c', d', e', f', i'] := h.put7 _ _ _ _ _ _ _
theorem BoxC.set7 {w : World} {g b : Nat} {t : TypeId} {cs : Array Value} (h : BoxC w g t cs) (hb : b ≠ g) (u0 u1 u2 u3 u4 u5 u6 : Value) : BoxC (set7 w b u0 u1 u2 u3 u4 u5 u6) g t cs := (set7_heap hb _ _ _ _ _ _ _).trans h
theorem UBox.set7 {w : World} {g b : Nat} {t : TypeId} {p q r s : Value} (h : UBox w g t p q r s) (hb : b ≠ g) (u0 u1 u2 u3 u4 u5 u6 : Value) : UBox (Go.Proofs.YtbpojmhgifgfdaaDoor.set7 w b u0 u1 u2 u3 u4 u5 u6) g t p q r s := (set7_heap hb _ _ _ _ _ _ _).trans h
theorem good_zero (n : Nat) (mem : List (Int × Int)) (hm : ∀ y ∈ mem, R64 y.1) : Good ⟨zeroX, zeroL 256, stL (zeroL n) 0 mem⟩ := by
  have z : R64 0 := ⟨by decide, by decide⟩
  have hz : ∀ (n k : Nat), R64 ((zeroL n).getD k (0, 0)).1 := fun n k => by
    unfold zeroL
    rw [List.getD_eq_getElem?_getD, List.getElem?_replicate]
    split <;> exact z
  refine ⟨fun k => ?_, fun k => hz 256 k, fun k => ?_⟩
  · show R64 (zeroX.getD k 0)
    unfold zeroX
    rw [List.getD_eq_getElem?_getD, List.getElem?_replicate]
    split <;> exact z
  · show R64 ((stL (zeroL n) 0 mem).getD k (0, 0)).1
    unfold stL
    rw [List.take_zero, List.nil_append, List.getD_eq_getElem?_getD]
    by_cases h : k < (mem ++ (zeroL n).drop (0 + mem.length)).length
    · rw [List.getElem?_eq_getElem h]
      show R64 ((mem ++ (zeroL n).drop (0 + mem.length))[k]).1
      rcases List.mem_append.1 (List.getElem_mem h) with hy | hy
      · exact hm _ hy
      · have := List.mem_of_mem_drop hy
        rw [(List.mem_replicate.1 this).2]; exact z
    · rw [List.getElem?_eq_none (by omega)]; exact z

/-- A list of elements as an argument. -/
def VlArg (w : World) (v : Value) (l : List (Int × Int)) : Prop := ValsAt w v l ∧ ∀ y ∈ l, R64 y.1
section
variable {H : Type} {enc : TypeId × Value → H} {w : World} {base : Nat} {spare : Nat → Bool} {held : Bool}
theorem trod_Vals {fuel : Nat} {cs : List Value} {x : DataW H × List MemPlace} (hf : DataW.trod enc Tryd.prog w base spare held fuel 47 cs = some x) : ∃ v l, cs = [v] ∧ VlArg w v l := by
  obtain ⟨v, l, h1, h2, h3⟩ := trod_rows ((0, 0) : Int × Int) (fun u j => match j with
    | 0 => .int .i64 u.1
    | _ => .int .i64 u.2) (fun u => R64 u.1) 2 (by decide) Tryd.underlying47 (by kernel_rfl) (fun fuel cs x hl ht => by
    match cs, hl, ht with
    | [c0, c1], _, ht =>
      obtain ⟨a, b, ha, hb, rfl, rfl⟩ := trod_Val2 ht
      refine ⟨(a, b), ha, fun j hj => ?_⟩
      rcases (by omega : j = 0 ∨ j = 1) with rfl | rfl <;> rfl) hf
  exact ⟨v, l, h1, h2, h3⟩
theorem open_Vals {r : Reach} {b0 : Nat} {v : Value} {d : DataW H} {p : List MemPlace} (hv : Value.okWide Tryd.prog w r b0 47 v) (h : DataW.Trod enc Tryd.prog w base spare held 47 v d p) : ∃ l, VlArg w v l := by
  obtain ⟨a0, len, cap, rfl⟩ := okWide_slice Tryd.underlying47 hv
  obtain ⟨fuel, hf⟩ := h
  obtain ⟨v, l, hcs, hl⟩ := trod_Vals hf
  simp only [Value.cells, List.cons.injEq, and_true] at hcs
  subst hcs
  exact ⟨l, hl⟩
end
end Go.Proofs.YtbpojmhgifgfdaaDoor
end
