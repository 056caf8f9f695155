/-
  The reference 49: states in boxes; setX, setR. Printed by mkPvH.py.
-/
import Derived.Test.YtbpojmhgifgfdaaDoorPvG
import Derived.Test.YtbpojmhgifgfdaaDoorPeR
import Derived.Test.YtbpojmhgifgfdaaDoorPeH
namespace Go.Proofs.YtbpojmhgifgfdaaDoor
open Go.ChangeShapes Go.WideShapes Go.ChangeAt Go.RowKit
set_option linter.unusedVariables false
set_option linter.unusedSimpArgs false
set_option maxRecDepth 100000

theorem BoxC.seven {w : World} {g : Nat} {t : TypeId} {a b c d e f i : Value} (h : BoxC w g t #[a, b, c, d, e, f, i]) : w.cell? ⟨g, 0, none⟩ = some a ∧ w.cell? ⟨g, 1, none⟩ = some b ∧ w.cell? ⟨g, 2, none⟩ = some c ∧ w.cell? ⟨g, 3, none⟩ = some d ∧ w.cell? ⟨g, 4, none⟩ = some e ∧ w.cell? ⟨g, 5, none⟩ = some f ∧ w.cell? ⟨g, 6, none⟩ = some i :=
  ⟨cell_of_row _ _ _ _ _ _ h, cell_of_row _ _ _ _ _ _ h, cell_of_row _ _ _ _ _ _ h, cell_of_row _ _ _ _ _ _ h, cell_of_row _ _ _ _ _ _ h, cell_of_row _ _ _ _ _ _ h, cell_of_row _ _ _ _ _ _ h⟩
theorem IntsAt.set {w : World} {v : Value} {l : List Int} (h : IntsAt w v l) {b : Nat} (hb : ∀ g, blk v = some g → g ≠ b) (o : Nat) (u : Value) : IntsAt (w.setCell ⟨b, o, none⟩ u) v l := SlAt.set h hb o u
theorem intV_set (l : List Int) (i : Nat) (n : Int) : (intV l).set i (.int .i64 n) = intV (l.set i n) := by simp [intV, List.map_set]
theorem int64_info : (Tryd.prog.info? 2).map (fun i => (i.zero, i.size, i.bytes)) = some (some (.int .i64 0), 1, 8) := by kernel_rfl
/-- A list of values in memory. -/
def vlF (l : List (Int × Int)) (i j : Nat) : Value := match j with
  | 0 => .int .i64 (l.getD i (0, 0)).1
  | _ => .int .i64 (l.getD i (0, 0)).2
def ValsAt (w : World) (v : Value) (l : List (Int × Int)) : Prop := SlAt w v l.length 2 (vlF l)
theorem ValsAt.up {w w' : World} {v : Value} {l : List (Int × Int)} (h : ValsAt w v l) (u : Up w w') : ValsAt w' v l := SlAt.up h u
theorem ValsAt.set {w : World} {v : Value} {l : List (Int × Int)} (h : ValsAt w v l) {b : Nat} (hb : ∀ g, blk v = some g → g ≠ b) (o : Nat) (u : Value) : ValsAt (w.setCell ⟨b, o, none⟩ u) v l := SlAt.set h hb o u

set_option maxHeartbeats 8000000 in
theorem r49_setX (ca ta ra ma : Option Addr) (cn cc tn tc rn rc mn mc : Nat) (pc : Int) (h : Bool) (xv : Value) (X : List Int) (a : Nat) (k : Int) (w : World) (hx : IntsAt w xv X) (ha : a < X.length) (hlen : X.length ≤ 100000) :
    Calls Tryd.prog 67 #[.agg #[.slice ca cn cc, .slice ta tn tc, .int .i64 pc, xv, .slice ra rn rc, .slice ma mn mc, .bool h], .int .i64 a, .int .i64 k] w fun e w' => ∃ x', e = .returned (.agg #[.slice ca cn cc, .slice ta tn tc, .int .i64 pc, x', .slice ra rn rc, .slice ma mn mc, .bool h]) ∧ Up w w' ∧ IntsAt w' x' (X.set a k) ∧ Fresh w.heap.size x' := by
  obtain ⟨j0, hi0, hz0, hz1, hz2⟩ := info_parts int64_info
  obtain ⟨⟨xa, xc, rfl⟩, xm⟩ := hx.slice
  obtain ⟨n, hn⟩ : ∃ n, X.length = n := ⟨_, rfl⟩
  have HSL : Hid (SlAt w (.slice xa n xc) n 1 (fun j _ => .int .i64 (X.getD j 0))) := Lib.hid (by have := hx; unfold IntsAt at this; rw [hn] at this; exact this)
  rw [hn] at ha hlen xm ⊢
  have HN := Lib.hid hn
  clear hn hx
  have HU : Hid (Up w ((w.alloc (.cells #[.slice ca cn cc, .slice ta tn tc, .int .i64 pc, .slice xa n xc, .slice ra rn rc, .slice ma mn mc, .bool h] 50)).alloc (.cells #[.slice none 0 0, .slice none 0 0, .int .i64 0, .slice none 0 0, .slice none 0 0, .slice none 0 0, .bool false] 50))) := Lib.hid (((Up.refl w).alloc _).alloc _)
  have B0 : Hid (BoxC ((w.alloc (.cells #[.slice ca cn cc, .slice ta tn tc, .int .i64 pc, .slice xa n xc, .slice ra rn rc, .slice ma mn mc, .bool h] 50)).alloc (.cells #[.slice none 0 0, .slice none 0 0, .int .i64 0, .slice none 0 0, .slice none 0 0, .slice none 0 0, .bool false] 50)) w.heap.size 50 #[.slice ca cn cc, .slice ta tn tc, .int .i64 pc, .slice xa n xc, .slice ra rn rc, .slice ma mn mc, .bool h]) := Lib.hid ((BoxC.new w _ _).up ((Up.refl _).alloc _))
  have B1 : Hid (BoxC ((w.alloc (.cells #[.slice ca cn cc, .slice ta tn tc, .int .i64 pc, .slice xa n xc, .slice ra rn rc, .slice ma mn mc, .bool h] 50)).alloc (.cells #[.slice none 0 0, .slice none 0 0, .int .i64 0, .slice none 0 0, .slice none 0 0, .slice none 0 0, .bool false] 50)) (w.heap.size + 1) 50 #[.slice none 0 0, .slice none 0 0, .int .i64 0, .slice none 0 0, .slice none 0 0, .slice none 0 0, .bool false]) := Lib.hid (BoxC.new2 w _ _ _)
  have haI : (a : Int) < n := by omega
  have hnI : (n : Int) ≤ 100000 := by omega
  go_enter Tryd.func67, Tryd.ntmps67
  go_wp2_with (at_builtin; refine wpList_append_sl _ rfl _ _ 48 rfl (w.heap.size + 2) 2 j0 _ 1 8 Tryd.underlying48 hi0 hz0 hz1 hz2 rfl (by decide) (.slice none 0 0) 0 [] rfl (World.ownsRow_nil _ _ _ _) (.slice xa n xc) n (fun j _ => .int .i64 (X.getD j 0)) rfl (HSL.out.up HU.out) (fun i j _ _ => rfl) (by rw [maxLen]; omega) (by omega) (by simp) ?_; rintro v' w1 ho1 hg1 - -; rw [Nat.zero_add, List.nil_append] at ho1; rw [show flat (fun j _ => Value.int .i64 (X.getD j 0)) n 1 = intV X from by rw [← HN.out]; exact intV_flat X] at ho1; have HU1 := Lib.hid (grown_up hg1 (fun k hk => by cases hk)); have HO1 := Lib.hid ho1; clear ho1 hg1; replace B0 := Lib.hid (B0.out.up HU1.out); replace B1 := Lib.hid (B1.out.up HU1.out); replace HU := Lib.hid (HU.out.trans HU1.out); obtain ⟨g, gc, rfl, hgB, hgs, hgc, hgf, hgcell⟩ := own_get HO1.out (by omega); have hgf1 := hgf a; have hgc1 : w1.cell? ⟨g, a, none⟩ = some (.int .i64 (X.getD a 0)) := hgcell a _ (intV_get X a (by rw [HN.out]; exact ha)); clear hgcell hgf; obtain ⟨p0, p1, p2, p3, p4, p5, p6⟩ := B0.out.seven; obtain ⟨z0, z1, z2, z3, z4, z5, z6⟩ := B1.out.seven; have pf := B0.out.frozen; have zf := B1.out.frozen; have hne1 : (g = w.heap.size) = False := (by simp; omega); have hne2 : (g = w.heap.size + 1) = False := (by simp; omega); have hne4 : (w.heap.size = g) = False := (by simp; omega); have hne5 : (w.heap.size + 1 = g) = False := (by simp; omega))
  have HO2 : Hid ((w1.setCell ⟨g, a, none⟩ (.int .i64 k)).ownsRow (w.heap.size + 2) 2 1 (.slice (some ⟨g, 0, none⟩) n gc) n (intV (X.set a k))) := Lib.hid (by
    have := own_set HO1.out a (by rw [intV_len, HN.out]; exact ha) (.int .i64 k)
    rw [intV_set] at this; exact this)
  have HIA := Lib.hid (IntsAt.own HO2.out (by rw [List.length_set, HN.out]) (by omega))
  have hG1 : ∀ b, blk (.slice (some ⟨g, 0, none⟩) n gc) = some b → b ≠ w.heap.size := fun b hb => by cases hb; show g ≠ _; omega
  have hG2 : ∀ b, blk (.slice (some ⟨g, 0, none⟩) n gc) = some b → b ≠ w.heap.size + 1 := fun b hb => by cases hb; show g ≠ _; omega
  have HCF := Lib.hid (((((((((HIA.out).set hG1 3 (.slice (some ⟨g, 0, none⟩) n gc)).set hG2 0 (.slice ca cn cc)).set hG2 1 (.slice ta tn tc)).set hG2 2 (.int .i64 pc)).set hG2 3 (.slice (some ⟨g, 0, none⟩) n gc)).set hG2 4 (.slice ra rn rc)).set hG2 5 (.slice ma mn mc)).set hG2 6 (.bool h))
  have HUF := Lib.hid ((((((((((HU.out).setCell (p := ⟨g, a, none⟩) (by show w.heap.size ≤ g; omega) (.int .i64 k)).setCell (p := ⟨w.heap.size, 3, none⟩) (Nat.le_refl _) (.slice (some ⟨g, 0, none⟩) n gc)).setCell (p := ⟨w.heap.size + 1, 0, none⟩) (by show w.heap.size ≤ w.heap.size + 1; omega) (.slice ca cn cc)).setCell (p := ⟨w.heap.size + 1, 1, none⟩) (by show w.heap.size ≤ w.heap.size + 1; omega) (.slice ta tn tc)).setCell (p := ⟨w.heap.size + 1, 2, none⟩) (by show w.heap.size ≤ w.heap.size + 1; omega) (.int .i64 pc)).setCell (p := ⟨w.heap.size + 1, 3, none⟩) (by show w.heap.size ≤ w.heap.size + 1; omega) (.slice (some ⟨g, 0, none⟩) n gc)).setCell (p := ⟨w.heap.size + 1, 4, none⟩) (by show w.heap.size ≤ w.heap.size + 1; omega) (.slice ra rn rc)).setCell (p := ⟨w.heap.size + 1, 5, none⟩) (by show w.heap.size ≤ w.heap.size + 1; omega) (.slice ma mn mc)).setCell (p := ⟨w.heap.size + 1, 6, none⟩) (by show w.heap.size ≤ w.heap.size + 1; omega) (.bool h))
  refine bodyPost_ret (v := .agg #[.slice ca cn cc, .slice ta tn tc, .int .i64 pc, (.slice (some ⟨g, 0, none⟩) n gc), .slice ra rn rc, .slice ma mn mc, .bool h]) (by simp [results, Tryd.results67, go_sem, *]) rfl ?_
  exact ⟨_, rfl, HUF.out, HCF.out, fun b hb => by cases hb; show w.heap.size ≤ g; omega⟩

theorem vl_set (l : List (Int × Int)) (a n : Nat) (hn : l.length = n) (ha : a < n) (x y : Int) : ((flat (vlF l) n 2).set (a * 2) (.int .i64 x)).set (a * 2 + 1) (.int .i64 y) = flat (vlF (l.set a (x, y))) n 2 := by
  subst hn
  refine List.ext_getElem? fun q => ?_
  rcases Nat.lt_or_ge q (l.length * 2) with hq | hq
  · have hd : q / 2 < l.length := by omega
    have hm : q % 2 < 2 := by omega
    have e : q = q / 2 * 2 + q % 2 := by omega
    obtain ⟨i, hi⟩ : ∃ i, q / 2 = i := ⟨_, rfl⟩
    obtain ⟨j, hj⟩ : ∃ j, q % 2 = j := ⟨_, rfl⟩
    rw [hi, hj] at e
    rw [hi] at hd
    rw [hj] at hm
    rw [e, flat_get _ _ _ _ _ hd hm]
    by_cases hia : i = a
    · subst hia
      have hg : (l.set i (x, y)).getD i (0, 0) = (x, y) := by rw [List.getD_eq_getElem?_getD, List.getElem?_set, if_pos rfl, if_pos hd]; rfl
      unfold vlF
      rcases (by omega : j = 0 ∨ j = 1) with rfl | rfl
      · rw [List.getElem?_set, if_neg (by omega), List.getElem?_set, if_pos (by omega), if_pos (by rw [flat_length]; omega), hg]; rfl
      · rw [List.getElem?_set, if_pos (by omega), if_pos (by rw [List.length_set, flat_length]; omega), hg]; rfl
    · have hg : (l.set a (x, y)).getD i (0, 0) = l.getD i (0, 0) := by rw [List.getD_eq_getElem?_getD, List.getElem?_set, if_neg (fun h => hia h.symm), List.getD_eq_getElem?_getD]
      rw [List.getElem?_set, if_neg (by omega), List.getElem?_set, if_neg (by omega), flat_get _ _ _ _ _ hd hm]
      unfold vlF
      rw [hg]
  · rw [List.getElem?_eq_none (by rw [List.length_set, List.length_set, flat_length]; exact hq), List.getElem?_eq_none (by rw [flat_length]; exact hq)]
theorem vlF_one (l : List (Int × Int)) (i j : Nat) : (vlF l i j).oneCell' = true := by
  unfold vlF
  split <;> rfl
theorem ValsAt.slice {w : World} {v : Value} {l : List (Int × Int)} (h : ValsAt w v l) : (∃ a cap, v = .slice a l.length cap) ∧ l.length ≤ 9223372036854775807 := by
  obtain ⟨⟨a, cap, hv, _, _⟩, hm⟩ := h
  exact ⟨⟨a, cap, hv⟩, hm⟩
theorem ValsAt.of_own {w : World} {base n : Nat} {e : TypeId} {v : Value} {l : List (Int × Int)} (h : w.ownsRow base e 2 v n (flat (vlF l) n 2)) (hn : l.length = n) (hl : n ≤ 9223372036854775807) : ValsAt w v l := by
  subst hn
  exact SlAt.of_own h hl fun i j hi hj => flat_get _ _ _ _ _ hi hj
theorem val_info : (Tryd.prog.info? 60).map (fun i => (i.zero, i.size, i.bytes)) = some (some (.agg #[.int .i64 0, .int .i64 0]), 2, 16) := by kernel_rfl

set_option maxHeartbeats 8000000 in
theorem r49_setR (ca ta xa ma : Option Addr) (cn cc tn tc xn xc mn mc : Nat) (pc : Int) (h : Bool) (rv : Value) (R : List (Int × Int)) (a : Nat) (k d : Int) (w : World) (hx : ValsAt w rv R) (ha : a < R.length) (hlen : R.length ≤ 100000) :
    Calls Tryd.prog 64 #[.agg #[.slice ca cn cc, .slice ta tn tc, .int .i64 pc, .slice xa xn xc, rv, .slice ma mn mc, .bool h], .int .i64 a, .agg #[.int .i64 k, .int .i64 d]] w fun e w' => ∃ r', e = .returned (.agg #[.slice ca cn cc, .slice ta tn tc, .int .i64 pc, .slice xa xn xc, r', .slice ma mn mc, .bool h]) ∧ Up w w' ∧ ValsAt w' r' (R.set a (k, d)) ∧ Fresh w.heap.size r' := by
  obtain ⟨j0, hi0, hz0, hz1, hz2⟩ := info_parts val_info
  obtain ⟨⟨ra, rc, rfl⟩, xm⟩ := hx.slice
  obtain ⟨n, hn⟩ : ∃ n, R.length = n := ⟨_, rfl⟩
  have HSL : Hid (SlAt w (.slice ra n rc) n 2 (vlF R)) := Lib.hid (by have := hx; unfold ValsAt at this; rw [hn] at this; exact this)
  rw [hn] at ha hlen xm ⊢
  have HN := Lib.hid hn
  clear hn hx
  have HU : Hid (Up w (((w.alloc (.cells #[.slice ca cn cc, .slice ta tn tc, .int .i64 pc, .slice xa xn xc, .slice ra n rc, .slice ma mn mc, .bool h] 50)).alloc (.cells #[.int .i64 k, .int .i64 d] 60)).alloc (.cells #[.slice none 0 0, .slice none 0 0, .int .i64 0, .slice none 0 0, .slice none 0 0, .slice none 0 0, .bool false] 50))) := Lib.hid ((((Up.refl w).alloc _).alloc _).alloc _)
  have B0 : Hid (BoxC (((w.alloc (.cells #[.slice ca cn cc, .slice ta tn tc, .int .i64 pc, .slice xa xn xc, .slice ra n rc, .slice ma mn mc, .bool h] 50)).alloc (.cells #[.int .i64 k, .int .i64 d] 60)).alloc (.cells #[.slice none 0 0, .slice none 0 0, .int .i64 0, .slice none 0 0, .slice none 0 0, .slice none 0 0, .bool false] 50)) w.heap.size 50 #[.slice ca cn cc, .slice ta tn tc, .int .i64 pc, .slice xa xn xc, .slice ra n rc, .slice ma mn mc, .bool h]) := Lib.hid ((BoxC.new w _ _).up (((Up.refl _).alloc _).alloc _))
  have B2 : Hid (BoxC (((w.alloc (.cells #[.slice ca cn cc, .slice ta tn tc, .int .i64 pc, .slice xa xn xc, .slice ra n rc, .slice ma mn mc, .bool h] 50)).alloc (.cells #[.int .i64 k, .int .i64 d] 60)).alloc (.cells #[.slice none 0 0, .slice none 0 0, .int .i64 0, .slice none 0 0, .slice none 0 0, .slice none 0 0, .bool false] 50)) (w.heap.size + 1) 60 #[.int .i64 k, .int .i64 d]) := Lib.hid ((BoxC.new2 w _ _ _).up ((Up.refl _).alloc _))
  have B1 : Hid (BoxC (((w.alloc (.cells #[.slice ca cn cc, .slice ta tn tc, .int .i64 pc, .slice xa xn xc, .slice ra n rc, .slice ma mn mc, .bool h] 50)).alloc (.cells #[.int .i64 k, .int .i64 d] 60)).alloc (.cells #[.slice none 0 0, .slice none 0 0, .int .i64 0, .slice none 0 0, .slice none 0 0, .slice none 0 0, .bool false] 50)) (w.heap.size + 2) 50 #[.slice none 0 0, .slice none 0 0, .int .i64 0, .slice none 0 0, .slice none 0 0, .slice none 0 0, .bool false]) := Lib.hid (BoxC.new3 w _ _ _ _)
  have haI : (a : Int) < n := by omega
  have hnI : (n : Int) ≤ 100000 := by omega
  go_enter Tryd.func64, Tryd.ntmps64
  go_wp2_with (at_builtin; refine wpList_append_sl _ rfl _ _ 47 rfl (w.heap.size + 3) 60 j0 _ 2 16 Tryd.underlying47 hi0 hz0 hz1 hz2 rfl (by decide) (.slice none 0 0) 0 [] rfl (World.ownsRow_nil _ _ _ _) (.slice ra n rc) n (vlF R) rfl (HSL.out.up HU.out) (fun i j _ _ => vlF_one _ _ _) (by rw [maxLen]; omega) (by omega) (by simp) ?_; rintro v' w1 ho1 hg1 - -; rw [Nat.zero_add, List.nil_append] at ho1; have HU1 := Lib.hid (grown_up hg1 (fun k hk => by cases hk)); have HO1 := Lib.hid ho1; clear ho1 hg1; replace B0 := Lib.hid (B0.out.up HU1.out); replace B1 := Lib.hid (B1.out.up HU1.out); replace B2 := Lib.hid (B2.out.up HU1.out); replace HU := Lib.hid (HU.out.trans HU1.out); obtain ⟨g, gc, rfl, hgB, hgs, hgc, hgf, hgcell⟩ := own_get HO1.out (by omega); have hgf1 := hgf (a * 2); have hgf2 := hgf (a * 2 + 1); have hgc1 : w1.cell? ⟨g, a * 2, none⟩ = some (vlF R a 0) := hgcell (a * 2) _ (by have := flat_get (vlF R) n 2 a 0 ha (by decide); exact this); have hgc2 : w1.cell? ⟨g, a * 2 + 1, none⟩ = some (vlF R a 1) := hgcell (a * 2 + 1) _ (by have := flat_get (vlF R) n 2 a 1 ha (by decide); exact this); clear hgcell hgf; obtain ⟨p0, p1, p2, p3, p4, p5, p6⟩ := B0.out.seven; obtain ⟨z0, z1, z2, z3, z4, z5, z6⟩ := B1.out.seven; have pf := B0.out.frozen; have zf := B1.out.frozen; obtain ⟨y0, y1⟩ := B2.out.two; have hne1 : (g = w.heap.size) = False := (by simp; omega); have hne2 : (g = w.heap.size + 2) = False := (by simp; omega); have hne4 : (w.heap.size = g) = False := (by simp; omega); have hne5 : (w.heap.size + 2 = g) = False := (by simp; omega); have hne6 : (w.heap.size + 1 = g) = False := (by simp; omega); have hne7 : (g = w.heap.size + 1) = False := (by simp; omega))
  have HO2 : Hid (((w1.setCell ⟨g, a * 2, none⟩ (.int .i64 k)).setCell ⟨g, a * 2 + 1, none⟩ (.int .i64 d)).ownsRow (w.heap.size + 3) 60 2 (.slice (some ⟨g, 0, none⟩) n gc) n (flat (vlF (R.set a (k, d))) n 2)) := Lib.hid (by
    have := own_set (own_set HO1.out (a * 2) (by rw [flat_length]; omega) (.int .i64 k)) (a * 2 + 1) (by rw [List.length_set, flat_length]; omega) (.int .i64 d)
    rw [vl_set R a n HN.out ha] at this; exact this)
  have HIA := Lib.hid (ValsAt.of_own HO2.out (by rw [List.length_set, HN.out]) (by omega))
  have hG1 : ∀ b, blk (.slice (some ⟨g, 0, none⟩) n gc) = some b → b ≠ w.heap.size := fun b hb => by cases hb; show g ≠ _; omega
  have hG2 : ∀ b, blk (.slice (some ⟨g, 0, none⟩) n gc) = some b → b ≠ w.heap.size + 2 := fun b hb => by cases hb; show g ≠ _; omega
  have HCF := Lib.hid (((((((((HIA.out).set hG1 4 (.slice (some ⟨g, 0, none⟩) n gc)).set hG2 0 (.slice ca cn cc)).set hG2 1 (.slice ta tn tc)).set hG2 2 (.int .i64 pc)).set hG2 3 (.slice xa xn xc)).set hG2 4 (.slice (some ⟨g, 0, none⟩) n gc)).set hG2 5 (.slice ma mn mc)).set hG2 6 (.bool h))
  have HUF := Lib.hid (((((((((((HU.out).setCell (p := ⟨g, a * 2, none⟩) (by show w.heap.size ≤ g; omega) (.int .i64 k)).setCell (p := ⟨g, a * 2 + 1, none⟩) (by show w.heap.size ≤ g; omega) (.int .i64 d)).setCell (p := ⟨w.heap.size, 4, none⟩) (Nat.le_refl _) (.slice (some ⟨g, 0, none⟩) n gc)).setCell (p := ⟨w.heap.size + 2, 0, none⟩) (by show w.heap.size ≤ w.heap.size + 2; omega) (.slice ca cn cc)).setCell (p := ⟨w.heap.size + 2, 1, none⟩) (by show w.heap.size ≤ w.heap.size + 2; omega) (.slice ta tn tc)).setCell (p := ⟨w.heap.size + 2, 2, none⟩) (by show w.heap.size ≤ w.heap.size + 2; omega) (.int .i64 pc)).setCell (p := ⟨w.heap.size + 2, 3, none⟩) (by show w.heap.size ≤ w.heap.size + 2; omega) (.slice xa xn xc)).setCell (p := ⟨w.heap.size + 2, 4, none⟩) (by show w.heap.size ≤ w.heap.size + 2; omega) (.slice (some ⟨g, 0, none⟩) n gc)).setCell (p := ⟨w.heap.size + 2, 5, none⟩) (by show w.heap.size ≤ w.heap.size + 2; omega) (.slice ma mn mc)).setCell (p := ⟨w.heap.size + 2, 6, none⟩) (by show w.heap.size ≤ w.heap.size + 2; omega) (.bool h))
  refine bodyPost_ret (v := .agg #[.slice ca cn cc, .slice ta tn tc, .int .i64 pc, .slice xa xn xc, (.slice (some ⟨g, 0, none⟩) n gc), .slice ma mn mc, .bool h]) (by simp [results, Tryd.results64, go_sem, *]) rfl ?_
  exact ⟨_, rfl, HUF.out, HCF.out, fun b hb => by cases hb; show w.heap.size ≤ g; omega⟩
end Go.Proofs.YtbpojmhgifgfdaaDoor
