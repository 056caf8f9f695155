/-
  A plan's execution (chapter 28, the reference's side).
-/
import Derived.Test.YtdanjghefhjmcaaChDo5
import Derived.Test.YtdanjghefhjmcaaChRefCost
import Derived.Deep.CutRange
import Derived.Deep.DeepCutAuto
namespace Go.Proofs.Ytdanjghefhjmcaa
open Go.ChangeShapes Go.WideShapes Go.ChangeAt Go.RowKit
set_option linter.unusedVariables false

theorem own_slice' {w : World} {base n k : Nat} {e : TypeId} {v : Value} {xs : List Value} (h : w.ownsRow base e k v n xs) : ∃ a cap, v = .slice a n cap := by
  rcases h.2 with ⟨rfl, rfl⟩ | ⟨g, cap, cur, rfl, _⟩
  · exact ⟨none, 0, rfl⟩
  · exact ⟨some ⟨g, 0, none⟩, cap, rfl⟩

/-- A fresh one-cell block, as a slice of one element. -/
theorem SlAt.one (w : World) (t : TypeId) (u : Value) : SlAt (w.alloc (.cells #[u] t)) (.slice (some ⟨w.heap.size, 0, none⟩) 1 1) 1 1 (fun _ _ => u) :=
  ⟨⟨some ⟨w.heap.size, 0, none⟩, 1, rfl, (fun e => nomatch e), fun x hx _ => by
    cases hx
    refine ⟨rfl, by simp, fun i j hi hj => ?_⟩
    obtain rfl : i = 0 := by omega
    obtain rfl : j = 0 := by omega
    rw [cell_of_row _ _ _ _ _ _ (heap_alloc_new w _)]; rfl⟩, by decide⟩
theorem flat_one1 (u : Value) : flat (fun _ _ => u) 1 1 = [u] := rfl

set_option maxHeartbeats 1000000 in
theorem r28_Start (n s : Nat) (hs : s ≤ 64) (w : World) :
    Calls Try.prog 27 #[.int .i64 n, .int .i64 s] w fun e w' => ∃ sv, e = .returned (.agg #[.int .i64 0, .int .i64 n, sv]) ∧ SlAt w' sv s 1 (rdS (st0 n)) ∧ Up w w' := by
  obtain ⟨i0, hi0, hz0, hz1, hz2⟩ := info_parts int_info
  obtain ⟨B, hB⟩ : ∃ B, w.heap.size = B := ⟨_, rfl⟩
  have HB := Lib.hid hB
  have b0 : ((w.alloc (.cells #[.int .i64 0, .int .i64 0, .slice none 0 0] 46)).alloc (.cells #[.int .i64 0, .int .i64 n, .slice none 0 0] 46)).heap[B]? = some (.cells #[.int .i64 0, .int .i64 0, .slice none 0 0] 46 (0, 0)) := by
    rw [← hB]; exact (Below.heap_alloc _ _ _ (by rw [size_alloc]; omega)).trans (heap_alloc_new w _)
  have b1 : ((w.alloc (.cells #[.int .i64 0, .int .i64 0, .slice none 0 0] 46)).alloc (.cells #[.int .i64 0, .int .i64 n, .slice none 0 0] 46)).heap[B + 1]? = some (.cells #[.int .i64 0, .int .i64 n, .slice none 0 0] 46 (0, 0)) := by
    have := heap_alloc_new (w.alloc (.cells #[.int .i64 0, .int .i64 0, .slice none 0 0] 46)) (.cells #[.int .i64 0, .int .i64 n, .slice none 0 0] 46)
    rw [size_alloc, hB] at this; exact this
  have HB0 := Lib.hid b0
  have HB1 := Lib.hid b1
  clear b0 b1 hB
  go_enter Try.func27, Try.ntmps27
  go_wp2
  have hB := HB.out
  rw [hB]
  clear hB
  go_loopw [6] (fun i wr => ∃ (k : Nat) (sv : Value), k ≤ s ∧ i = .int .i64 k ∧ wr.heap[B]? = some (.cells #[.int .i64 0, .int .i64 0, .slice none 0 0] 46 (0, 0)) ∧ wr.heap[B + 1]? = some (.cells #[.int .i64 0, .int .i64 n, sv] 46 (0, 0)) ∧ wr.ownsRow (B + 1 + 1) 3 1 sv k (List.replicate k (.int .i64 (-1))) ∧ B + 1 + 1 ≤ wr.heap.size ∧ Up w wr) (fun i _ => s - (intOf i).toNat)
  case atStart => exact ⟨0, .slice none 0 0, by omega, rfl, HB0.out, HB1.out, World.ownsRow_nil _ _ _ _, by have := HB.out; simp; omega, ((Up.refl w).alloc _).alloc _⟩
  case round =>
    rename_i wr
    obtain ⟨k, sv, hk, rfl, h0, h1, hown, hsz, hU⟩ := hrel
    obtain ⟨sa, sc, rfl⟩ := own_slice' hown
    have c0 : wr.cell? ⟨B + 1, 0, none⟩ = some (.int .i64 0) := cell_of_row _ _ _ _ _ _ h1
    have c1 : wr.cell? ⟨B + 1, 1, none⟩ = some (.int .i64 n) := cell_of_row _ _ _ _ _ _ h1
    have c2 : wr.cell? ⟨B + 1, 2, none⟩ = some (.slice sa k sc) := cell_of_row _ _ _ _ _ _ h1
    have c3 : wr.cell? ⟨B, 0, none⟩ = some (.int .i64 0) := cell_of_row _ _ _ _ _ _ h0
    have c4 : wr.cell? ⟨B, 1, none⟩ = some (.int .i64 0) := cell_of_row _ _ _ _ _ _ h0
    have c5 : wr.cell? ⟨B, 2, none⟩ = some (.slice none 0 0) := cell_of_row _ _ _ _ _ _ h0
    have z0 := fun o => frozen_of_row _ _ o _ _ h0
    have z1 := fun o => frozen_of_row _ _ o _ _ h1
    have H0 := Lib.hid h0
    have H1 := Lib.hid h1
    have l1 : B + 1 < wr.heap.size := by omega
    have l0 : B < wr.heap.size := by omega
    by_cases hlt : k < s
    · have hlt2 : (k : Int) < (s : Int) := by omega
      have key : Hid (∀ w1, (wr.alloc (.cells #[.int .i64 (-1)] 3)).grownBy w1 (Value.slice sa k sc).ownBlock → w1.heap[B]? = some (.cells #[.int .i64 0, .int .i64 0, .slice none 0 0] 46 (0, 0)) ∧ w1.heap[B + 1]? = some (.cells #[.int .i64 0, .int .i64 n, .slice sa k sc] 46 (0, 0)) ∧ w1.cell? ⟨B + 1, 2, none⟩ = some (.slice sa k sc) ∧ (∀ o, w1.frozen? ⟨B + 1, o, none⟩ = false) ∧ B + 1 + 1 ≤ w1.heap.size ∧ Up w w1) := Lib.hid (by
        intro w1 hg
        have hne : ∀ q, q < B + 1 + 1 → some q ≠ (Value.slice sa k sc).ownBlock := fun q hq e => by have := (hown.lt q e.symm).1; omega
        have g0 := (hg.block B (by rw [size_alloc]; omega) (hne _ (by omega))).trans ((Below.heap_alloc _ _ _ l0).trans H0.out)
        have g1 := (hg.block (B + 1) (by rw [size_alloc]; omega) (hne _ (by omega))).trans ((Below.heap_alloc _ _ _ l1).trans H1.out)
        have hs := hg.size
        rw [size_alloc] at hs
        refine ⟨g0, g1, cell_of_row _ _ _ _ _ _ g1, fun o => frozen_of_row _ _ o _ _ g1, by omega, (hU.alloc _).grown hg (fun q hq => ?_)⟩
        have := (hown.lt q hq).1
        have := HB.out
        omega)
      have HO := Lib.hid hown
      have HUU := Lib.hid hU
      clear h0 h1 hown hU
      go_wp2_with (at_builtin; refine wpList_append_sl _ rfl _ _ 27 rfl (B + 1 + 1) 3 i0 (.int .i64 0) 1 8 Try.underlying27 hi0 hz0 hz1 hz2 rfl (by decide) (.slice sa k sc) k _ rfl (HO.out.alloc _) (.slice (some ⟨wr.heap.size, 0, none⟩) 1 1) 1 (fun _ _ => .int .i64 (-1)) rfl (SlAt.one _ _ _) (fun _ _ _ _ => rfl) (by unfold maxLen; omega) (by omega) (by simp; omega) ?_; intro v1 w1 hown1 hg1 hat1 hnil1; obtain ⟨va, vc, rfl⟩ := own_slice' hown1; obtain ⟨g0, g1, g2, g3, g4, g5⟩ := key.out w1 hg1; have G0 := Lib.hid g0; have G1 := Lib.hid g1; have G5 := Lib.hid g5; have HO1 := Lib.hid hown1; clear g0 g1 g5 hg1 hat1 hnil1 hown1)
      go_roundw
      case rel =>
        refine ⟨k + 1, _, by omega, by go_num, (Below.heap_setCell _ _ _ _ (by simp)).trans G0.out, by have := G1.out; simp [World.setCell, Array.getElem?_modify, this]; rfl, ?_, by rw [set_size]; exact g4, G5.out.setCell (by have := HB.out; show w.heap.size ≤ B + 1; omega) _⟩
        · have := ownsRow_setCell_below HO1.out (a := ⟨B + 1, 2, none⟩) (by show B + 1 < B + 1 + 1; omega) (.slice va (k + 1) vc)
          rw [flat_one1, ← List.replicate_succ'] at this
          exact this
      case measure => simp [intOf]; omega
    · have hlt2 : (s : Int) ≤ (k : Int) := by omega
      obtain rfl : k = s := by omega
      have HO := Lib.hid hown
      have HUU := Lib.hid hU
      clear h0 h1 hown hU
      go_wp2
      refine bodyPost_ret (v := .agg #[.int .i64 0, .int .i64 n, .slice sa k sc]) (by simp [results, Try.results27, go_sem, c3, c4, c5]) rfl ?_
      refine ⟨.slice sa k sc, rfl, SlAt.of_own (base := B + 1 + 1) (e := 3) (xs := List.replicate k (.int .i64 (-1))) ?_ (by omega) (fun i q hi hq => ?_), ?_⟩
      · repeat (first | exact HO.out | refine ownsRow_setCell_below ?_ (by first | (simp; done) | (simp; omega)) _)
      · rw [List.getElem?_replicate, if_pos (by omega)]; rfl
      · have := HB.out
        repeat (first | exact HUU.out | refine Up.setCell ?_ (by first | (simp; done) | (simp; omega)) _)

theorem r28_Do' (r : Bool × PSt) (st : PSt) (op at' sl steps : Int) (k : Nat) (hr : stepF st op at' sl steps k = r) (sv : Value) (w : World) (hs : SlAt w sv k 1 (rdS st)) (hk : k ≤ 64) (ok : StOk st) (a0 : -9223372036854775808 ≤ at') (a1 : at' ≤ 9223372036854775807) (t1 : steps ≤ 64) :
    Calls Try.prog 28 #[.agg #[.int .i64 st.now, .int .i64 st.left, sv], .int .i64 steps, .agg #[.int .i64 op, .int .i64 at', .int .i64 sl]] w (DoPost w k sv r) := hr ▸ r28_Do st op at' sl steps k sv w hs hk ok a0 a1 t1

theorem SlAt.keepZ {w : World} {va : Option Addr} {vc len k : Nat} {f : Nat → Nat → Value} (h : SlAt w (.slice va len vc) len k f) (Z : Nat) (hne : ∀ x, Value.slice va len vc = .slice (some x) len vc → 0 < len → x.block ≠ Z) (o : Nat) (u : Value) : SlAt (w.setCell ⟨Z, o, none⟩ u) (.slice va len vc) len k f := by
  obtain ⟨⟨a, cap, hv, h0, h1⟩, h2⟩ := h
  refine ⟨⟨a, cap, hv, h0, fun x hx hl => ?_⟩, h2⟩
  obtain ⟨g1, g2, g3⟩ := h1 x hx hl
  refine ⟨g1, by rw [set_size]; exact g2, fun i j hi hj => ?_⟩
  rw [← g3 i j hi hj]
  refine World.cell?_setCell_other _ _ _ _ (fun e => hne x ?_ hl (congrArg Addr.block e).symm)
  injection hv with q1 _ _
  rw [q1, hx]
theorem row_set3 {w : World} {Z : Nat} {t : TypeId} {x y z : Value} (h : w.heap[Z]? = some (.cells #[x, y, z] t (0, 0))) (a b c : Value) : (((w.setCell ⟨Z, 0, none⟩ a).setCell ⟨Z, 1, none⟩ b).setCell ⟨Z, 2, none⟩ c).heap[Z]? = some (.cells #[a, b, c] t (0, 0)) := by
  simp [World.setCell, Array.getElem?_modify, h]
/-- What the statement 'next, ok := Do(..)' leaves. -/
def DoCut (wr : World) (B s : Nat) (ok : Bool) (st' : PSt) (s12 s13 : Value) (wx : World) : Prop :=
  ∃ (Z : Nat) (va : Option Addr) (vc : Nat), s12 = .pointer (some ⟨Z, 0, none⟩) ∧ s13 = .bool ok ∧ wr.heap.size ≤ Z ∧ wx.heap[Z]? = some (.cells #[.int .i64 st'.now, .int .i64 st'.left, .slice va s vc] 46 (0, 0)) ∧ Up wr wx ∧ SlAt wx (.slice va s vc) s 1 (rdS st') ∧ ∀ x, va = some x → 0 < s → x.block ≠ B

set_option maxHeartbeats 8000000 in
set_option maxRecDepth 100000 in
theorem r28_CheckPlan_ok (n s : Nat) (hn : n ≤ 64) (hs : s ≤ 64) (v : Value) (l : List Actn) (w : World) (hv : IsActs w v l) (hl : l.length ≤ 65536) (hwf : ∀ a ∈ l, -9223372036854775808 ≤ a.2.1 ∧ a.2.1 ≤ 9223372036854775807) :
    Calls Try.prog 17 #[.int .i64 n, .int .i64 s, v] w fun e w' => e = .returned (.tuple #[.int .i64 (planGo n s l 0 0 (st0 n)).1, .int .i64 (planGo n s l 0 0 (st0 n)).2]) ∧ Up w w' := by
  have h1 : Hid (askE n s = 0) := Lib.hid (by rw [askE, if_neg (by omega)])
  obtain ⟨⟨a, cap, rfl, h0, hc⟩, hmax⟩ := hv
  obtain ⟨len, hlen⟩ : ∃ k, l.length = k := ⟨_, rfl⟩
  rw [hlen] at hc hmax hl h0
  have HL := Lib.hid hlen
  rw [hlen]
  clear hlen
  have hl2 : (len : Int) ≤ 65536 := by omega
  have HC := Lib.hid hc
  have H0 := Lib.hid h0
  have HWF := Lib.hid hwf
  clear hc h0 hwf
  go_enter Try.func17, Try.ntmps17
  go_wp2_with fail
  refine (r28_Asked _ _ 0 h1.out _).mono ?_
  rintro e x1 ⟨rfl, hx1⟩
  go_wp2_with fail
  refine (r28_Start n s hs _).mono ?_
  rintro e x2 ⟨sv, rfl, hsv, hx2⟩
  have HSV := Lib.hid hsv
  obtain ⟨⟨sa, sc, rfl, _⟩, _⟩ := hsv
  go_wp2_with fail
  obtain ⟨B, hB⟩ : ∃ B, x2.heap.size = B := ⟨_, rfl⟩
  have hBw : w.heap.size ≤ B := by rw [← hB]; exact Nat.le_trans hx1.size hx2.size
  have hB0 : (x2.alloc (.cells #[.int .i64 0, .int .i64 n, .slice sa s sc] 46)).heap[B]? = some (.cells #[.int .i64 0, .int .i64 n, .slice sa s sc] 46 (0, 0)) := by rw [← hB]; exact heap_alloc_new _ _
  have hS0 : SlAt (x2.alloc (.cells #[.int .i64 0, .int .i64 n, .slice sa s sc] 46)) (.slice sa s sc) s 1 (rdS (st0 n)) := HSV.out.up ((Up.refl _).alloc _)
  have hU0 : Up w (x2.alloc (.cells #[.int .i64 0, .int .i64 n, .slice sa s sc] 46)) := (hx1.trans hx2).alloc _
  rw [hB]
  have HB := Lib.hid hB
  have HB0 := Lib.hid hB0
  have HS0 := Lib.hid hS0
  have HNB0 : Hid (∀ x, sa = some x → 0 < s → x.block ≠ B) := Lib.hid (by
    intro x hx h0
    obtain ⟨⟨a', c', hv', _, hx'⟩, _⟩ := HSV.out
    injection hv' with q1 q2 q3
    have := (hx' x (by rw [← q1, hx]) h0).2.1
    omega)
  have HU0 := Lib.hid hU0
  clear hB hB0 hS0 hU0 hx1 hx2
  go_loopw [10, 11] (fun c i wr => ∃ (k cost : Nat) (st : PSt) (va : Option Addr) (vc : Nat), k ≤ len ∧ cost ≤ k ∧ i = .int .i64 k ∧ c = .int .i64 cost ∧ B < wr.heap.size ∧ wr.heap[B]? = some (.cells #[.int .i64 st.now, .int .i64 st.left, .slice va s vc] 46 (0, 0)) ∧ SlAt wr (.slice va s vc) s 1 (rdS st) ∧ (∀ x, va = some x → 0 < s → x.block ≠ B) ∧ StOk st ∧ Up w wr ∧ planGo n s (l.drop k) k cost st = planGo n s l 0 0 (st0 n)) (fun _ i _ => len - (intOf i).toNat)
  case atStart => exact ⟨0, 0, st0 n, sa, sc, by omega, by omega, rfl, rfl, by have := HB.out; simp; omega, HB0.out, HS0.out, HNB0.out, ⟨by simp [st0], by simp [st0], by simp [st0], by simp [st0]; omega, by simp [st0]⟩, HU0.out, rfl⟩
  case round =>
    rename_i wr
    obtain ⟨k, cost, st, va, vc, hk, hck, rfl, rfl, hlB, hrow, hS, hnB, hO, hU, hP⟩ := hrel
    have HNB0 := Lib.hid hnB
    clear hnB
    have HP := Lib.hid hP
    have c0 : wr.cell? ⟨B, 0, none⟩ = some (.int .i64 st.now) := cell_of_row _ _ _ _ _ _ hrow
    have c1 : wr.cell? ⟨B, 1, none⟩ = some (.int .i64 st.left) := cell_of_row _ _ _ _ _ _ hrow
    have c2 : wr.cell? ⟨B, 2, none⟩ = some (.slice va s vc) := cell_of_row _ _ _ _ _ _ hrow
    have z0 := fun o => frozen_of_row _ _ o _ _ hrow
    have HR := Lib.hid hrow
    have HS := Lib.hid hS
    have HUU := Lib.hid hU
    have HO := Lib.hid hO
    clear hP hrow hS HB0 HS0 HU0 HSV
    by_cases hlt : k < len
    · obtain ⟨x, rfl⟩ : ∃ x, a = some x := by
        cases a with
        | none => exact absurd (H0.out rfl) (by omega)
        | some x => exact ⟨x, rfl⟩
      obtain ⟨g1, g2, g3⟩ := HC.out x rfl (by omega)
      obtain ⟨bl, off, sp⟩ := x
      have g1' : sp = none := g1
      subst g1'
      obtain ⟨op, at', sl, ha⟩ : ∃ op at' sl, l.getD k (0, 0, 0) = (op, at', sl) := ⟨_, _, _, rfl⟩
      have k0 : wr.cell? ⟨bl, off + k * 3, none⟩ = some (.int .i64 op) := by
        rw [hU.cell _ _ g2]; have := g3 k 0 hlt (by omega); simpa only [actF, ha, Nat.add_zero] using this
      have k1 : wr.cell? ⟨bl, off + k * 3 + 1, none⟩ = some (.int .i64 at') := by
        rw [hU.cell _ _ g2]; have := g3 k 1 hlt (by omega); simpa only [actF, ha, Nat.add_zero] using this
      have k2 : wr.cell? ⟨bl, off + k * 3 + 2, none⟩ = some (.int .i64 sl) := by
        rw [hU.cell _ _ g2]; have := g3 k 2 hlt (by omega); simpa only [actF, ha, Nat.add_zero] using this
      have hwf := HWF.out (l.getD k (0, 0, 0)) (by rw [List.getD_eq_getElem?_getD, List.getElem?_eq_getElem (by rw [HL.out]; exact hlt)]; exact List.getElem_mem _)
      rw [ha] at hwf
      clear g3 hU
      have hkl : (k : Int) < (len : Int) := by omega
      have hk0 : (0 : Int) ≤ (k : Int) := by omega
      have hdrop : l.drop k = (op, at', sl) :: l.drop (k + 1) := by
        have hkl2 : k < l.length := by rw [HL.out]; exact hlt
        rw [List.drop_eq_getElem_cons hkl2, ← ha, List.getD_eq_getElem?_getD, List.getElem?_eq_getElem hkl2]; rfl
      have HP2 : Hid ((if (stepF st op at' sl n s).1 = false then ((k : Int), 26) else planGo n s (l.drop (k + 1)) (k + 1) (if op = 1 then cost + 1 else cost) (stepF st op at' sl n s).2) = planGo n s l 0 0 (st0 n)) := Lib.hid (by
        rw [← HP.out, hdrop]; rfl)
      have hO2 := hO.step op at' sl n s (by omega)
      obtain ⟨⟨ok, st'⟩, hstep⟩ : ∃ r, stepF st op at' sl n s = r := ⟨_, rfl⟩
      rw [hstep] at HP2 hO2
      have HST := Lib.hid hstep
      have HO2 := Lib.hid hO2
      clear hstep hdrop HP ha hO hO2
      have hbw : bl < wr.heap.size := Nat.lt_of_lt_of_le g2 HUU.out.size
      go_upto_region 10 with fail
      go_cut [12, 13] from 26 to 53 (fun s12 s13 wx => DoCut wr B s ok st' s12 s13 wx)
      case first =>
        go_region_with (go_at_call 28; refine (r28_Do' (ok, st') st op at' sl n s HST.out _ _ (by refine HS.out.up ?_; repeat (first | exact Up.refl _ | refine Up.drew ?_ | refine Up.alloc ?_ _)) (by omega) HO.out hwf.1 hwf.2 (by omega)).mono ?_; rintro e w2 ⟨sv2, rfl, hsv2, hU2, hor2⟩; obtain ⟨⟨sa2, sc2, rfl, _⟩, _⟩ := id hsv2; have HSV2 := Lib.hid hsv2; have HU2 := Lib.hid hU2; obtain ⟨hc2, hf2⟩ := hU2.both; clear hsv2 hU2)
        all_goals
          go_wp2_with fail
          go_meet
          have hup : Up wr w2 := by
            refine Up.trans ?_ HU2.out
            repeat (first | exact Up.refl _ | refine Up.drew ?_ | refine Up.alloc ?_ _)
          have hnB2 : ∀ x, sa2 = some x → 0 < s → x.block ≠ B := by
            intro x hx h0s
            rcases hor2 with h | h
            · injection h with h1 h2 h3
              exact HNB0.out x (by rw [← h1, hx]) h0s
            · have := h x s sc2 (by rw [hx])
              simp at this
              omega
          first
            | exact ⟨w2.heap.size, sa2, sc2, rfl, rfl, hup.size, heap_alloc_new _ _, hup.alloc _, HSV2.out.up ((Up.refl _).alloc _), hnB2⟩
            | exact ⟨wr.heap.size, sa2, sc2, rfl, rfl, Nat.le_refl _, row_set3 ((HU2.out.heap _ (by simp)).trans (heap_alloc_new wr _)) _ _ _, ((hup.setCell (Nat.le_refl _) _).setCell (Nat.le_refl _) _).setCell (Nat.le_refl _) _, by
                have hneZ : ∀ (x : Addr), Value.slice sa2 s sc2 = .slice (some x) s sc2 → 0 < s → x.block ≠ wr.heap.size := by
                  intro x hx h0s
                  rcases hor2 with h | h
                  · cases hx
                    injection h with h1 h2 h3
                    obtain ⟨⟨a', c', hv', _, hx'⟩, _⟩ := HS.out
                    injection hv' with q1 q2 q3
                    have := (hx' x (by rw [← q1, h1]) h0s).2.1
                    omega
                  · have := h x s sc2 hx
                    simp at this
                    omega
                refine ((HSV2.out.keepZ wr.heap.size (fun x hx => ?_) 0 _).keepZ wr.heap.size (fun x hx => ?_) 1 _).keepZ wr.heap.size (fun x hx => ?_) 2 _
                all_goals exact hneZ x hx, hnB2⟩
      case rest =>
        obtain ⟨Z, va2, vc2, rfl, rfl, hZ, hrow2, hU2, hS2, hnb2⟩ := hcut
        have HNB : Hid (∀ x, Value.slice va2 s vc2 = .slice (some x) s vc2 → 0 < s → x.block ≠ B) := Lib.hid (fun x hx h0 => hnb2 x (by injection hx) h0)
        clear hnb2
        have d0 : wc.cell? ⟨Z, 0, none⟩ = some (.int .i64 st'.now) := cell_of_row _ _ _ _ _ _ hrow2
        have d1 : wc.cell? ⟨Z, 1, none⟩ = some (.int .i64 st'.left) := cell_of_row _ _ _ _ _ _ hrow2
        have d2 : wc.cell? ⟨Z, 2, none⟩ = some (.slice va2 s vc2) := cell_of_row _ _ _ _ _ _ hrow2
        have hrB := (hU2.heap B hlB).trans HR.out
        have e0 : wc.cell? ⟨B, 0, none⟩ = some (.int .i64 st.now) := cell_of_row _ _ _ _ _ _ hrB
        have e1 : wc.cell? ⟨B, 1, none⟩ = some (.int .i64 st.left) := cell_of_row _ _ _ _ _ _ hrB
        have e2 : wc.cell? ⟨B, 2, none⟩ = some (.slice va s vc) := cell_of_row _ _ _ _ _ _ hrB
        have zB := fun o => frozen_of_row _ _ o _ _ hrB
        have m0 : wc.cell? ⟨bl, off + k * 3, none⟩ = some (.int .i64 op) := (hU2.cell _ _ hbw).trans k0
        have g2' : bl < w.heap.size := g2
        have hbB : (bl = B) = False := by simp; omega
        have hBb : (B = bl) = False := by simp; omega
        have HRB := Lib.hid hrB
        have HU2 := Lib.hid hU2
        have HS2 := Lib.hid hS2
        have hlB2 : B < wc.heap.size := Nat.lt_of_lt_of_le hlB hU2.size
        clear hrow2 hrB hU2 hS2 k0 k1 k2 c0 c1 c2 z0
        cases ok
        · go_wp2
          go_ret2
          exact ⟨ret_ii (by have := HP2.out; rw [if_pos (by trivial)] at this; rw [← this]) (by have := HP2.out; rw [if_pos (by trivial)] at this; rw [← this]), HUU.out.trans HU2.out⟩
        · by_cases ho1 : op = 1
          · subst ho1
            have HP3 : Hid (planGo n s (l.drop (k + 1)) (k + 1) (cost + 1) st' = planGo n s l 0 0 (st0 n)) := Lib.hid (by
              have := HP2.out; rw [if_neg (by simp), if_pos (by trivial)] at this; exact this)
            have hck2 : (cost : Int) ≤ 65536 := by omega
            go_wp2
            go_roundw
            case rel =>
              refine ⟨k + 1, cost + 1, st', va2, vc2, by omega, by omega, by go_num, by go_num, by simp only [set_size]; exact hlB2, row_set3 HRB.out _ _ _, ?_, fun x hx h0 => HNB.out x (by rw [hx]) h0, HO2.out, ?_, HP3.out⟩
              · refine ((HS2.out.keepZ B (fun x hx => ?_) 0 _).keepZ B (fun x hx => ?_) 1 _).keepZ B (fun x hx => ?_) 2 _
                all_goals exact HNB.out x hx
              · repeat (first | exact HUU.out.trans HU2.out | refine Up.setCell ?_ hBw _)
            case measure => simp [intOf]; omega
          · have ho2 : (op == 1) = false := by simpa using ho1
            have HP3 : Hid (planGo n s (l.drop (k + 1)) (k + 1) cost st' = planGo n s l 0 0 (st0 n)) := Lib.hid (by
              have := HP2.out; rw [if_neg (by simp), if_neg ho1] at this; exact this)
            go_wp2
            go_roundw
            case rel =>
              refine ⟨k + 1, cost, st', va2, vc2, by omega, by omega, by go_num, by go_num, by simp only [set_size]; exact hlB2, row_set3 HRB.out _ _ _, ?_, fun x hx h0 => HNB.out x (by rw [hx]) h0, HO2.out, ?_, HP3.out⟩
              · refine ((HS2.out.keepZ B (fun x hx => ?_) 0 _).keepZ B (fun x hx => ?_) 1 _).keepZ B (fun x hx => ?_) 2 _
                all_goals exact HNB.out x hx
              · repeat (first | exact HUU.out.trans HU2.out | refine Up.setCell ?_ hBw _)
            case measure => simp [intOf]; omega
    · have hkl : (len : Int) ≤ (k : Int) := by omega
      have hdrop : l.drop k = [] := List.drop_eq_nil_of_le (by rw [HL.out]; omega)
      obtain ⟨lf, hlf⟩ : ∃ x, st.left = x := ⟨_, rfl⟩
      have l1 := hO.2.2.1
      rw [hlf] at c1 l1
      have HE : Hid ((if lf ≠ 0 then ((k : Int), (6 : Int)) else ((cost : Int), 0)) = planGo n s l 0 0 (st0 n)) := Lib.hid (by rw [← HP.out, hdrop, planGo, hlf])
      obtain rfl : k = len := by omega
      clear hdrop hlf HP hU hO
      by_cases h6 : lf = 0
      · subst h6
        go_wp2
        go_ret2
        exact ⟨ret_ii (by have := HE.out; rw [if_neg (by simp)] at this; rw [← this]) (by have := HE.out; rw [if_neg (by simp)] at this; rw [← this]), HUU.out⟩
      · have h7 : 0 < lf := by omega
        go_wp2
        go_ret2
        exact ⟨ret_ii (by have := HE.out; rw [if_pos h6] at this; rw [← this]) (by have := HE.out; rw [if_pos h6] at this; rw [← this]), HUU.out⟩
end Go.Proofs.Ytdanjghefhjmcaa
