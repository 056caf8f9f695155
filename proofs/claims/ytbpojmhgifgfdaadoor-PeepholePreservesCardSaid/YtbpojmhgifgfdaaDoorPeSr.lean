/-
  Step of the reference. Printed by mkPeSr.py.
-/
import Derived.Test.YtbpojmhgifgfdaaDoorPeVd
import Derived.Test.YtbpojmhgifgfdaaDoorPeT
import Derived.Test.YtbpojmhgifgfdaaDoorPeC
namespace Go.Proofs.YtbpojmhgifgfdaaDoor
open Go.ChangeShapes Go.WideShapes Go.ChangeAt Go.RowKit
set_option linter.unusedVariables false
set_option linter.unusedSimpArgs false
set_option maxRecDepth 100000

theorem set_same {l : List Value} {q : Nat} {v : Value} (h : l[q]? = some v) : l.set q v = l := by
  refine List.ext_getElem? fun i => ?_
  rw [List.getElem?_set]
  by_cases he : q = i
  · subst he
    have hl := (List.getElem?_eq_some_iff.1 h).1
    rw [if_pos rfl, if_pos hl, h]
  · rw [if_neg he]
theorem setA_get (l : List Ins) (i : Nat) (hi : i < l.length) (t : Int) : (setA l i t).getD i i0 = ((l.getD i i0).1, t, (l.getD i i0).2.2) := by
  unfold setA
  rw [List.getD_eq_getElem?_getD, List.getElem?_set, if_pos rfl, if_pos hi]; rfl
theorem own_sets {w : World} {base n g gc : Nat} {l : List Ins} {i : Nat} {t : Int} {x : Ins} (h : w.ownsRow base 64 11 (.slice (some ⟨g, 0, none⟩) n gc) n (flat (insF l) n 11)) (hn : l.length = n) (hi : i < n) (hx : l.getD i i0 = x) :
    (((((((((((w.setCell ⟨g, i * 11, none⟩ (.int .i64 x.1)).setCell ⟨g, i * 11 + 1, none⟩ (.int .i64 t)).setCell ⟨g, i * 11 + 2, none⟩ (.int .i64 x.2.2.1)).setCell ⟨g, i * 11 + 3, none⟩ (.int .i64 x.2.2.2.1)).setCell ⟨g, i * 11 + 4, none⟩ (.int .i64 x.2.2.2.2.1.1)).setCell ⟨g, i * 11 + 5, none⟩ (.int .i64 x.2.2.2.2.1.2)).setCell ⟨g, i * 11 + 6, none⟩ (.int .i64 x.2.2.2.2.2.1)).setCell ⟨g, i * 11 + 7, none⟩ (.int .i64 x.2.2.2.2.2.2.1)).setCell ⟨g, i * 11 + 8, none⟩ (.int .i64 x.2.2.2.2.2.2.2.1)).setCell ⟨g, i * 11 + 9, none⟩ (.int .i64 x.2.2.2.2.2.2.2.2.1)).setCell ⟨g, i * 11 + 10, none⟩ (.int .i64 x.2.2.2.2.2.2.2.2.2)).ownsRow base 64 11 (.slice (some ⟨g, 0, none⟩) n gc) n (flat (insF (setA l i t)) n 11) := by
  have hg : ∀ j, j < 11 → (flat (insF l) n 11)[i * 11 + j]? = some (.int .i64 (insC x j)) := fun j hj => by
    rw [flat_get _ _ _ _ _ hi hj]; unfold insF; rw [hx]
  have hg2 : ∀ j, j < 11 → j ≠ 1 → (flat (insF (setA l i t)) n 11)[i * 11 + j]? = some (.int .i64 (insC x j)) := fun j hj hj1 => by
    rw [flat_get _ _ _ _ _ hi hj]; unfold insF; rw [setA_get l i (by rw [hn]; exact hi), hx]
    rcases (by omega : j = 0 ∨ j = 2 ∨ j = 3 ∨ j = 4 ∨ j = 5 ∨ j = 6 ∨ j = 7 ∨ j = 8 ∨ j = 9 ∨ j = 10) with rfl | rfl | rfl | rfl | rfl | rfl | rfl | rfl | rfl | rfl <;> rfl
  have hl : (flat (insF l) n 11).length = n * 11 := flat_length _ _ _
  have hl2 : (flat (insF (setA l i t)) n 11).length = n * 11 := flat_length _ _ _
  have a0 := own_set h (i * 11) (by rw [hl]; omega) (.int .i64 x.1)
  have hg0 : (flat (insF l) n 11)[i * 11]? = some (.int .i64 x.1) := hg 0 (by omega)
  rw [set_same hg0] at a0
  have a1 := own_set a0 (i * 11 + 1) (by rw [hl]; omega) (.int .i64 t)
  rw [ins_set l i n hn hi] at a1
  have a2 := own_set a1 (i * 11 + 2) (by rw [hl2]; omega) (.int .i64 x.2.2.1)
  have e2 : (flat (insF (setA l i t)) n 11)[i * 11 + 2]? = some (.int .i64 x.2.2.1) := hg2 2 (by omega) (by omega)
  rw [set_same e2] at a2
  have a3 := own_set a2 (i * 11 + 3) (by rw [hl2]; omega) (.int .i64 x.2.2.2.1)
  have e3 : (flat (insF (setA l i t)) n 11)[i * 11 + 3]? = some (.int .i64 x.2.2.2.1) := hg2 3 (by omega) (by omega)
  rw [set_same e3] at a3
  have a4 := own_set a3 (i * 11 + 4) (by rw [hl2]; omega) (.int .i64 x.2.2.2.2.1.1)
  have e4 : (flat (insF (setA l i t)) n 11)[i * 11 + 4]? = some (.int .i64 x.2.2.2.2.1.1) := hg2 4 (by omega) (by omega)
  rw [set_same e4] at a4
  have a5 := own_set a4 (i * 11 + 5) (by rw [hl2]; omega) (.int .i64 x.2.2.2.2.1.2)
  have e5 : (flat (insF (setA l i t)) n 11)[i * 11 + 5]? = some (.int .i64 x.2.2.2.2.1.2) := hg2 5 (by omega) (by omega)
  rw [set_same e5] at a5
  have a6 := own_set a5 (i * 11 + 6) (by rw [hl2]; omega) (.int .i64 x.2.2.2.2.2.1)
  have e6 : (flat (insF (setA l i t)) n 11)[i * 11 + 6]? = some (.int .i64 x.2.2.2.2.2.1) := hg2 6 (by omega) (by omega)
  rw [set_same e6] at a6
  have a7 := own_set a6 (i * 11 + 7) (by rw [hl2]; omega) (.int .i64 x.2.2.2.2.2.2.1)
  have e7 : (flat (insF (setA l i t)) n 11)[i * 11 + 7]? = some (.int .i64 x.2.2.2.2.2.2.1) := hg2 7 (by omega) (by omega)
  rw [set_same e7] at a7
  have a8 := own_set a7 (i * 11 + 8) (by rw [hl2]; omega) (.int .i64 x.2.2.2.2.2.2.2.1)
  have e8 : (flat (insF (setA l i t)) n 11)[i * 11 + 8]? = some (.int .i64 x.2.2.2.2.2.2.2.1) := hg2 8 (by omega) (by omega)
  rw [set_same e8] at a8
  have a9 := own_set a8 (i * 11 + 9) (by rw [hl2]; omega) (.int .i64 x.2.2.2.2.2.2.2.2.1)
  have e9 : (flat (insF (setA l i t)) n 11)[i * 11 + 9]? = some (.int .i64 x.2.2.2.2.2.2.2.2.1) := hg2 9 (by omega) (by omega)
  rw [set_same e9] at a9
  have a10 := own_set a9 (i * 11 + 10) (by rw [hl2]; omega) (.int .i64 x.2.2.2.2.2.2.2.2.2)
  have e10 : (flat (insF (setA l i t)) n 11)[i * 11 + 10]? = some (.int .i64 x.2.2.2.2.2.2.2.2.2) := hg2 10 (by omega) (by omega)
  rw [set_same e10] at a10
  exact a10

theorem UBox.set {w : World} {g : Nat} {t : TypeId} {a b c d : Value} (h : UBox w g t a b c d) {k : Nat} (hk : k ≠ g) (o : Nat) (u : Value) : UBox (w.setCell ⟨k, o, none⟩ u) g t a b c d := by
  unfold UBox at *
  simp only [World.setCell, Array.getElem?_modify, hk, if_false]
  exact h
theorem gcells {w : World} {g n i : Nat} {l : List Ins} {x : Ins} (h : ∀ q u, (flat (insF l) n 11)[q]? = some u → w.cell? ⟨g, q, none⟩ = some u) (hx : l.getD i i0 = x) (hi : i < n) :
    w.cell? ⟨g, i * 11, none⟩ = some (.int .i64 x.1) ∧ w.cell? ⟨g, i * 11 + 1, none⟩ = some (.int .i64 x.2.1) ∧ w.cell? ⟨g, i * 11 + 2, none⟩ = some (.int .i64 x.2.2.1) ∧ w.cell? ⟨g, i * 11 + 3, none⟩ = some (.int .i64 x.2.2.2.1) ∧
    w.cell? ⟨g, i * 11 + 4, none⟩ = some (.int .i64 x.2.2.2.2.1.1) ∧ w.cell? ⟨g, i * 11 + 5, none⟩ = some (.int .i64 x.2.2.2.2.1.2) ∧ w.cell? ⟨g, i * 11 + 6, none⟩ = some (.int .i64 x.2.2.2.2.2.1) ∧ w.cell? ⟨g, i * 11 + 7, none⟩ = some (.int .i64 x.2.2.2.2.2.2.1) ∧
    w.cell? ⟨g, i * 11 + 8, none⟩ = some (.int .i64 x.2.2.2.2.2.2.2.1) ∧ w.cell? ⟨g, i * 11 + 9, none⟩ = some (.int .i64 x.2.2.2.2.2.2.2.2.1) ∧ w.cell? ⟨g, i * 11 + 10, none⟩ = some (.int .i64 x.2.2.2.2.2.2.2.2.2) := by
  have key : ∀ j, j < 11 → w.cell? ⟨g, i * 11 + j, none⟩ = some (.int .i64 (insC x j)) := fun j hj => h _ _ (by rw [flat_get _ _ _ _ _ hi hj]; unfold insF; rw [hx])
  exact ⟨key 0 (by omega), key 1 (by omega), key 2 (by omega), key 3 (by omega), key 4 (by omega), key 5 (by omega), key 6 (by omega), key 7 (by omega), key 8 (by omega), key 9 (by omega), key 10 (by omega)⟩

set_option maxHeartbeats 32000000 in
theorem r50_Step (cv tv sv : Value) (words : Int) (l : List Ins) (lt : List Typ) (ls : List Slt) (w : World) (hc : InsAt w cv l) (ht : TypAt w tv lt) (hs : SltAt w sv ls)
    (h1 : l.length ≤ 100000) (h2 : lt.length ≤ 100000) :
    Calls Tryd.prog 14 #[.agg #[cv, tv, sv, .int .i64 words]] w fun e w' => ∃ c', e = .returned (.tuple #[.agg #[c', tv, sv, .int .i64 words], .bool (stepF l lt words).isSome]) ∧ Up w w' ∧ InsAt w' c' ((stepF l lt words).getD l) ∧ ((stepF l lt words).isSome = true → Fresh w.heap.size c') := by
  obtain ⟨j0, hi0, hz0, hz1, hz2⟩ := info_parts ins_info
  obtain ⟨r, hr⟩ : ∃ r, stepF l lt words = r := ⟨_, rfl⟩
  rw [hr]
  have HVA0 := Lib.hid (fun w' (hu : Up w w') => r47_Validate cv tv l lt words w' (hc.up hu) (ht.up hu) h1 h2)
  have HRE0 := Lib.hid (fun w' (hu : Up w w') => r50_reachable cv l w' (hc.up hu) h1)
  have HRM0 := Lib.hid (fun (i : Int) w' (hu : Up w w') (hi : 0 ≤ i) => r50_remove cv l i w' (hc.up hu) hi h1)
  have HFN0 := Lib.hid (fun (hval : ∀ x ∈ l, jumpsB x.1 = true → 0 ≤ x.2.1 ∧ x.2.1 < l.length) (t : Int) w' (hu : Up w w') (ht : 0 ≤ t ∧ t < l.length) => r50_final cv l t w' (hc.up hu) (fun x hx h => hval x hx (by rw [h]; rfl)) ht h1)
  have HC0 := Lib.hid (fun w' (hu : Up w w') => hc.up hu)
  have HV := Lib.hid hc
  obtain ⟨⟨ca, cc, rfl⟩, cm⟩ := hc.slice
  obtain ⟨⟨ta, tc, rfl⟩, tm⟩ := ht.slice
  obtain ⟨⟨sa, sc, rfl⟩, sm⟩ := hs.slice
  obtain ⟨n, hn⟩ : ∃ n, l.length = n := ⟨_, rfl⟩
  obtain ⟨m, hm⟩ : ∃ m, lt.length = m := ⟨_, rfl⟩
  obtain ⟨k, hkk⟩ : ∃ k, ls.length = k := ⟨_, rfl⟩
  rw [hn] at HVA0 HRE0 HRM0 HFN0 HC0 h1 cm
  rw [hm] at HVA0 h2 tm
  rw [hn, hm, hkk]
  have HN := Lib.hid hn
  have HR := Lib.hid hr
  obtain ⟨⟨vi, ve⟩, hv⟩ : ∃ v, validateF l lt words = v := ⟨_, rfl⟩
  rw [hv] at HVA0
  have HVV := Lib.hid hv
  have hnI : (n : Int) ≤ 100000 := by omega
  clear hn hm hkk hr hv hc ht hs
  have HU1 : Hid (Up w ((w.alloc (.cells #[.slice ca n cc, .slice ta m tc, .slice sa k sc, .int .i64 words] 31)).alloc (.cells #[.slice none 0 0, .slice none 0 0, .slice none 0 0, .int .i64 0] 31))) := Lib.hid (((Up.refl w).alloc _).alloc _)
  have HB1 : Hid (UBox ((w.alloc (.cells #[.slice ca n cc, .slice ta m tc, .slice sa k sc, .int .i64 words] 31)).alloc (.cells #[.slice none 0 0, .slice none 0 0, .slice none 0 0, .int .i64 0] 31)) w.heap.size 31 (.slice ca n cc) (.slice ta m tc) (.slice sa k sc) (.int .i64 words)) := Lib.hid (UBox.up (UBox.new w _ _ _ _ _) ((Up.refl _).alloc _))
  have HD1 : Hid (UBox ((w.alloc (.cells #[.slice ca n cc, .slice ta m tc, .slice sa k sc, .int .i64 words] 31)).alloc (.cells #[.slice none 0 0, .slice none 0 0, .slice none 0 0, .int .i64 0] 31)) (w.heap.size + 1) 31 (.slice none 0 0) (.slice none 0 0) (.slice none 0 0) (.int .i64 0)) := Lib.hid (UBox.new2 w _ _ _ _ _ _ _ _ _ _)
  go_enter Tryd.func14, Tryd.ntmps14
  go_wp2_with fail
  refine (HVA0.out _ HU1.out).mono ?_
  rintro e y ⟨rfl, hy⟩
  have HUY := Lib.hid (HU1.out.trans hy)
  have HBY := Lib.hid (HB1.out.up hy)
  have HDY := Lib.hid (HD1.out.up hy)
  clear hy HU1 HB1 HD1 HVA0
  obtain ⟨p0, p1, p2, p3⟩ := HBY.out.all
  by_cases hv0 : ve = 0
  · subst hv0
    have HR2 : Hid (scanF l (reachF l) n 0 = r) := Lib.hid (by have := HR.out; rw [stepF, HVV.out, if_pos rfl, HN.out] at this; exact this)
    have HVAL : Hid (∀ x ∈ l, jumpsB x.1 = true → 0 ≤ x.2.1 ∧ x.2.1 < (n : Int)) := Lib.hid (fun x hx hj => by
      have := ((valid_iff l lt words).1 (by rw [HVV.out])).2.2.2 x hx
      rw [HN.out] at this
      exact valid_jump this hj)
    clear HR HVV
    go_wp2_with fail
    refine (HRE0.out _ HUY.out).mono ?_
    rintro e x ⟨bv, rfl, hx, hbv, hbl⟩
    have HUX := Lib.hid (HUY.out.trans hx)
    have HBX := Lib.hid (HBY.out.up hx)
    have HDX := Lib.hid (HDY.out.up hx)
    obtain ⟨bs, hbs⟩ : ∃ bs, reachF l = bs := ⟨_, rfl⟩
    rw [hbs] at hbv hbl HR2
    obtain ⟨⟨ba, bc, rfl⟩, bm⟩ := hbv.slice
    rw [hbl] at hbv ⊢
    have HBV := Lib.hid hbv
    have HBL := Lib.hid hbl
    clear hbv hbl hbs hx HUY HBY HDY HRE0 p0 p1 p2 p3
    obtain ⟨p0, p1, p2, p3⟩ := HBX.out.all
    go_wp2
    go_loopw [7] (fun kv wr => ∃ (i : Nat), i ≤ n ∧ kv = .int .i64 i ∧ scanF l bs (n - i) i = r ∧ Up x wr) (fun kv _ => n - (intOf kv).toNat)
    case atStart => exact ⟨0, by omega, rfl, HR2.out, Up.refl x⟩
    case round =>
      rename World => wr
      obtain ⟨i, hi, rfl, hf, hU⟩ := hrel
      have HUW := Lib.hid hU
      have HBXW := Lib.hid (HBX.out.up hU)
      have HDXW := Lib.hid (HDX.out.up hU)
      have HF := Lib.hid hf
      clear hU hf p0 p1 p2 p3
      obtain ⟨p0, p1, p2, p3⟩ := HBXW.out.all
      by_cases hlt : i < n
      · have hltI : (i : Int) < n := by omega
        obtain ⟨q0, hq0⟩ : ∃ q, goneB bs i = q := ⟨_, rfl⟩
        obtain ⟨q1, hq1⟩ : ∃ q, idleAt l i = q := ⟨_, rfl⟩
        obtain ⟨q2, hq2⟩ : ∃ q, threadB l i = q := ⟨_, rfl⟩
        have HF2 : Hid ((if q0 then some (remF l i) else if q1 then some (remF l i) else if q2 then some (setA l i (finF l (l.getD i i0).2.1)) else scanF l bs (n - (i + 1)) (i + 1)) = r) := Lib.hid (by
          have := HF.out
          rw [show n - i = (n - (i + 1)) + 1 by omega, scanF, hq0, hq1, hq2] at this
          exact this)
        obtain ⟨x1, hx1⟩ : ∃ x, l.getD i i0 = x := ⟨_, rfl⟩
        obtain ⟨bl, off, ha, hbl, ⟨k0, k1, k2, k3, k4, k5, k6, k7, k8, k9, k10⟩, hxr⟩ := HV.out.elem (HUX.out.trans HUW.out) i (by rw [HN.out]; exact hlt) HN.out (by rw [HN.out]) hx1
        subst ha
        have hxm : x1 ∈ l := by rw [← hx1, List.getD_eq_getElem?_getD, List.getElem?_eq_getElem (by rw [HN.out]; exact hlt)]; exact List.getElem_mem _
        have HJV : Hid (jumpsB x1.1 = true → 0 ≤ x1.2.1 ∧ x1.2.1 < (n : Int)) := Lib.hid (HVAL.out x1 hxm)
        obtain ⟨sb, so, hsa, hsb, s0⟩ := HBV.out.elem HUW.out i (by rw [HBL.out]; exact hlt) HBL.out rfl
        subst hsa
        have hq0' : bs.getD i false = !q0 := by rw [← hq0]; simp [goneB]
        rw [hq0'] at s0
        unfold idleAt at hq1
        unfold threadB at hq2
        rw [hx1] at hq1 hq2 HF2
        rw [HN.out] at hq1
        have HX1 := Lib.hid hx1
        have HXR := Lib.hid hxr
        obtain ⟨op, A, b, c, ⟨n1, d⟩, kd, bi, fr, ro, ov⟩ := x1
        dsimp only at k0 k1 k2 k3 k4 k5 k6 k7 k8 k9 k10 hq1 hq2 HF2 HJV
        have HQ1 := Lib.hid hq1
        have HQ2 := Lib.hid hq2
        have HUA : Hid (Up x (wr.alloc (.cells #[.int .i64 op, .int .i64 A, .int .i64 b, .int .i64 c, .int .i64 n1, .int .i64 d, .int .i64 kd, .int .i64 bi, .int .i64 fr, .int .i64 ro, .int .i64 ov] 64))) := Lib.hid (HUW.out.alloc _)
        have HBI : Hid (BoxI (wr.alloc (.cells #[.int .i64 op, .int .i64 A, .int .i64 b, .int .i64 c, .int .i64 n1, .int .i64 d, .int .i64 kd, .int .i64 bi, .int .i64 fr, .int .i64 ro, .int .i64 ov] 64)) wr.heap.size ((op, A, b, c, (n1, d), kd, bi, fr, ro, ov) : Ins)) := Lib.hid (BoxI.new wr ((op, A, b, c, (n1, d), kd, bi, fr, ro, ov) : Ins) rfl)
        have s0' : (wr.alloc (.cells #[.int .i64 op, .int .i64 A, .int .i64 b, .int .i64 c, .int .i64 n1, .int .i64 d, .int .i64 kd, .int .i64 bi, .int .i64 fr, .int .i64 ro, .int .i64 ov] 64)).cell? ⟨sb, so + i, none⟩ = some (.bool (!q0)) := (((Up.refl wr).alloc _).cell _ _ (Nat.lt_of_lt_of_le hsb HUW.out.size)).trans s0
        have HBA : Hid (UBox (wr.alloc (.cells #[.int .i64 op, .int .i64 A, .int .i64 b, .int .i64 c, .int .i64 n1, .int .i64 d, .int .i64 kd, .int .i64 bi, .int .i64 fr, .int .i64 ro, .int .i64 ov] 64)) w.heap.size 31 (.slice (some ⟨bl, off, none⟩) n cc) (.slice ta m tc) (.slice sa k sc) (.int .i64 words)) := Lib.hid (HBXW.out.up ((Up.refl wr).alloc _))
        have HDA : Hid (UBox (wr.alloc (.cells #[.int .i64 op, .int .i64 A, .int .i64 b, .int .i64 c, .int .i64 n1, .int .i64 d, .int .i64 kd, .int .i64 bi, .int .i64 fr, .int .i64 ro, .int .i64 ov] 64)) (w.heap.size + 1) 31 (.slice none 0 0) (.slice none 0 0) (.slice none 0 0) (.int .i64 0)) := Lib.hid (HDXW.out.up ((Up.refl wr).alloc _))
        clear hq0 hq1 hq2 hq0' HF hxr hx1 hxm s0
        obtain ⟨v0, v1, v2, v3⟩ := HBA.out.all
        cases q0
        · by_cases hl : i + 1 < n
          · have hlI : (i : Int) + 1 < n := by omega
            have HID : Hid (∀ w, Calls Tryd.prog 29 #[insV ((op, A, b, c, (n1, d), kd, bi, fr, ro, ov) : Ins), .int .i64 i] w fun e' w' => e' = .returned (.bool q1) ∧ Up w w') := Lib.hid (fun w => r50_idle _ _ (by omega) _ (by rw [← HQ1.out]; simp [hl]) w)
            dsimp only [insV] at HID
            cases q1
            · go_wp2_with (go_at_call 29; refine (HID.out _).mono ?_; rintro e z ⟨rfl, hz⟩; have HUJ := Lib.hid (HUA.out.trans hz); have HBJ := Lib.hid (HBA.out.up hz); have HDJ := Lib.hid (HDA.out.up hz); have HIJ := Lib.hid (HBI.out.up hz); clear hz v0 v1 v2 v3; obtain ⟨v0, v1, v2, v3⟩ := HBJ.out.all)
              obtain ⟨x0', x1, -⟩ := HIJ.out.all
              have hsJ1 := HIJ.out.lt
              have hsJ2 := UBox.lt HBJ.out
              obtain ⟨jj, hj⟩ : ∃ jj, jumpsB op = jj := ⟨_, rfl⟩
              obtain ⟨t, ht⟩ : ∃ t, finF l A = t := ⟨_, rfl⟩
              have HJJ : Hid (∀ w', Calls Tryd.prog 31 #[.int .i64 op] w' fun e x => e = .returned (.bool jj) ∧ Up w' x) := Lib.hid (fun w' => (r47_Jumps _ _ hj w').mono fun e x h => ⟨h.1, by rw [h.2]; exact Up.refl _⟩)
              have HQ3 : Hid ((jj && decide (t ≠ A)) = q2) := Lib.hid (by rw [← HQ2.out, hj, ht])
              have HJT : Hid (jumpsB op = jj) := Lib.hid hj
              have HTT : Hid (finF l A = t) := Lib.hid ht
              have HRT : Hid (R64 t) := Lib.hid (by rw [← ht]; exact finG_R HV.out.2 (HXR.out 1) _ _ (HXR.out 1))
              rw [ht] at HF2
              clear hj ht
              cases jj
              · obtain rfl : q2 = false := by rw [← HQ3.out]; rfl
                have HF3 : Hid (scanF l bs (n - (i + 1)) (i + 1) = r) := Lib.hid (by have := HF2.out; simpa using this)
                have HFI : Hid (∀ w' : World, True → True) := Lib.hid (fun _ h => h)
                refine wp_region_ext (by kernel_rfl) (by kernel_rfl) ?_
                repeat (go_big_quiet_step (first | (go_at_call 31; exact Calls.ext_of (HJJ.out _))))
                refine wpQuiet_nil ?_
                intro z6 hz6
                go_wp2
                go_roundw
                case rel => exact ⟨i + 1, by omega, by go_num, HF3.out, HUJ.out.trans hz6⟩
                case measure => simp [intOf]; omega
              · have HTV := Lib.hid (HJV.out HJT.out)
                have HFE : Hid (∀ w', Up w w' → Calls Tryd.prog 32 #[.slice (some ⟨bl, off, none⟩) n cc, .int .i64 A] w' fun e x => e = .returned (.int .i64 t) ∧ x = w') := Lib.hid (fun w' hu => (HFN0.out HVAL.out A w' hu HTV.out).mono fun e x h => ⟨by rw [h.1, HTT.out], h.2⟩)
                have HFI : Hid (∀ w', Up w w' → Calls Tryd.prog 32 #[.slice (some ⟨bl, off, none⟩) n cc, .int .i64 A] w' fun e x => e = .returned (.int .i64 t) ∧ Up w' x) := Lib.hid (fun w' hu => (HFE.out w' hu).mono fun e x h => ⟨h.1, by rw [h.2]; exact Up.refl _⟩)
                by_cases hta : t = A
                · subst hta
                  obtain rfl : q2 = false := by rw [← HQ3.out]; simp
                  have HF3 : Hid (scanF l bs (n - (i + 1)) (i + 1) = r) := Lib.hid (by have := HF2.out; simpa using this)
                  refine wp_region_ext (by kernel_rfl) (by kernel_rfl) ?_
                  repeat (go_big_quiet_step (first | (go_at_call 31; exact Calls.ext_of (HJJ.out _)) | (go_at_call 32; exact Calls.ext_of (HFI.out _ ((HUX.out.trans HUJ.out).trans (Ext.up _))))))
                  refine wpQuiet_nil ?_
                  intro z6 hz6
                  go_wp2
                  go_roundw
                  case rel => exact ⟨i + 1, by omega, by go_num, HF3.out, HUJ.out.trans hz6⟩
                  case measure => simp [intOf]; omega
                · obtain rfl : q2 = true := by rw [← HQ3.out]; simp [hta]
                  obtain rfl : r = some (setA l i t) := by have := HF2.out; simp at this; exact this.symm
                  refine wp_region_ext (by kernel_rfl) (by kernel_rfl) ?_
                  repeat (go_big_quiet_step (first | (go_at_call 31; exact Calls.ext_of (HJJ.out _)) | (go_at_call 32; exact Calls.ext_of (HFI.out _ ((HUX.out.trans HUJ.out).trans (Ext.up _))))))
                  refine wpQuiet_nil ?_
                  intro z6 hz6
                  have HUZ6 := Lib.hid ((HUX.out.trans HUJ.out).trans hz6)
                  have HB6 := Lib.hid (HBJ.out.up hz6)
                  have HD6 := Lib.hid (HDJ.out.up hz6)
                  have HI6 := Lib.hid (HIJ.out.up hz6)
                  have hs6 : wr.heap.size < z6.heap.size := HI6.out.lt
                  have hsW : w.heap.size + 1 < wr.heap.size := UBox.lt HDXW.out
                  clear hz6 v0 v1 v2 v3 x0' x1
                  obtain ⟨v0, v1, v2, v3⟩ := HB6.out.all
                  obtain ⟨x0', x1, x2, x3, x4, x5, x6, x7, x8, x9, x10⟩ := HI6.out.all
                  have xf := HI6.out.frozen
                  have HU7 : Hid (Up w (z6.setCell ⟨wr.heap.size, 1, none⟩ (.int .i64 t))) := Lib.hid (HUZ6.out.setCell (p := ⟨wr.heap.size, 1, none⟩) (by show w.heap.size ≤ wr.heap.size; omega) _)
                  have HI7 := Lib.hid (boxA HI6.out t)
                  have HB7 : Hid (UBox (z6.setCell ⟨wr.heap.size, 1, none⟩ (.int .i64 t)) w.heap.size 31 (.slice (some ⟨bl, off, none⟩) n cc) (.slice ta m tc) (.slice sa k sc) (.int .i64 words)) := Lib.hid (HB6.out.set (by omega) _ _)
                  have HD7 : Hid (UBox (z6.setCell ⟨wr.heap.size, 1, none⟩ (.int .i64 t)) (w.heap.size + 1) 31 (.slice none 0 0) (.slice none 0 0) (.slice none 0 0) (.int .i64 0)) := Lib.hid (HD6.out.set (by omega) _ _)
                  have hnA1 : (wr.heap.size = w.heap.size) = False := by simp; omega
                  have hnA2 : (w.heap.size = wr.heap.size) = False := by simp; omega
                  have hnA3 : (wr.heap.size = w.heap.size + 1) = False := by simp; omega
                  have hnA4 : (w.heap.size + 1 = wr.heap.size) = False := by simp; omega
                  have HSL : Hid (SlAt w (.slice (some ⟨bl, off, none⟩) n cc) n 11 (insF l)) := Lib.hid (by have := HV.out.1; rw [HN.out] at this; exact this)
                  go_wp2_with (first | (go_at_call 32; refine (HFE.out _ HUZ6.out).mono ?_; rintro e x6' ⟨rfl, hx6⟩; replace hx6 := hx6.symm; subst hx6) | (at_builtin; refine wpList_append_sl _ rfl _ _ 22 rfl (z6.setCell ⟨wr.heap.size, 1, none⟩ (.int .i64 t)).heap.size 64 j0 _ 11 88 Tryd.underlying22 hi0 hz0 hz1 hz2 rfl (by decide) (.slice none 0 0) 0 [] rfl (World.ownsRow_nil _ _ _ _) (.slice (some ⟨bl, off, none⟩) n cc) n (insF l) rfl (HSL.out.up HU7.out) (fun i j _ _ => insF_one _ _ _) (by rw [maxLen]; omega) (by omega) (Nat.le_refl _) ?_; rintro v' w1 ho1 hg1 - -; rw [Nat.zero_add, List.nil_append] at ho1; have HU8 := Lib.hid (grown_up hg1 (fun k hk => by cases hk)); have HO1 := Lib.hid ho1; clear ho1 hg1; obtain ⟨g, gc, rfl, hgB, hgs, hgc, hgf, hgcell⟩ := own_get HO1.out (by omega); rw [set_size] at hgB; have HGC := Lib.hid hgcell; clear hgcell v0 v1 v2 v3 x0' x1 x2 x3 x4 x5 x6 x7 x8 x9 x10 xf; have HB8 := Lib.hid (HB7.out.up HU8.out); have HD8 := Lib.hid (HD7.out.up HU8.out); have HI8 := Lib.hid (HI7.out.up HU8.out); obtain ⟨v0, v1, v2, v3⟩ := HB8.out.all; obtain ⟨d0, d1, d2, d3⟩ := HD8.out.all; obtain ⟨x0', x1, x2, x3, x4, x5, x6, x7, x8, x9, x10⟩ := HI8.out.all; have vf := HB8.out.frozen; have df := HD8.out.frozen; have hne1 : (g = w.heap.size) = False := (by simp; omega); have hne2 : (g = w.heap.size + 1) = False := (by simp; omega); have hne3 : (g = wr.heap.size) = False := (by simp; omega); have hne4 : (w.heap.size = g) = False := (by simp; omega); have hne5 : (w.heap.size + 1 = g) = False := (by simp; omega); have hne6 : (wr.heap.size = g) = False := (by simp; omega); obtain ⟨g0, g1, g2, g3, g4, g5, g6, g7, g8, g9, g10⟩ := gcells HGC.out HX1.out hlt))
                  have HO2 := Lib.hid (own_sets (t := t) HO1.out HN.out hlt HX1.out)
                  dsimp only at HO2
                  have HIA := Lib.hid (InsAt.of_own HO2.out (by rw [setA_len, HN.out]) (by omega) (setA_R HV.out.2 HRT.out (by rw [HN.out]; exact hlt)))
                  have hG1 : ∀ b, blk (.slice (some ⟨g, 0, none⟩) n gc) = some b → b ≠ w.heap.size := fun b hb => by cases hb; show g ≠ _; omega
                  have hG2 : ∀ b, blk (.slice (some ⟨g, 0, none⟩) n gc) = some b → b ≠ w.heap.size + 1 := fun b hb => by cases hb; show g ≠ _; omega
                  have HCF := Lib.hid (((((HIA.out.set hG1 0 (.slice (some ⟨g, 0, none⟩) n gc)).set hG2 0 (.slice (some ⟨g, 0, none⟩) n gc)).set hG2 1 (.slice ta m tc)).set hG2 2 (.slice sa k sc)).set hG2 3 (.int .i64 words))
                  have HUF := Lib.hid ((((((((((((((((((HU7.out.trans HU8.out).setCell (p := ⟨g, i * 11, none⟩) (by show w.heap.size ≤ g; omega) (.int .i64 op)).setCell (p := ⟨g, i * 11 + 1, none⟩) (by show w.heap.size ≤ g; omega) (.int .i64 t)).setCell (p := ⟨g, i * 11 + 2, none⟩) (by show w.heap.size ≤ g; omega) (.int .i64 b)).setCell (p := ⟨g, i * 11 + 3, none⟩) (by show w.heap.size ≤ g; omega) (.int .i64 c)).setCell (p := ⟨g, i * 11 + 4, none⟩) (by show w.heap.size ≤ g; omega) (.int .i64 n1)).setCell (p := ⟨g, i * 11 + 5, none⟩) (by show w.heap.size ≤ g; omega) (.int .i64 d)).setCell (p := ⟨g, i * 11 + 6, none⟩) (by show w.heap.size ≤ g; omega) (.int .i64 kd)).setCell (p := ⟨g, i * 11 + 7, none⟩) (by show w.heap.size ≤ g; omega) (.int .i64 bi)).setCell (p := ⟨g, i * 11 + 8, none⟩) (by show w.heap.size ≤ g; omega) (.int .i64 fr)).setCell (p := ⟨g, i * 11 + 9, none⟩) (by show w.heap.size ≤ g; omega) (.int .i64 ro)).setCell (p := ⟨g, i * 11 + 10, none⟩) (by show w.heap.size ≤ g; omega) (.int .i64 ov)).setCell (p := ⟨w.heap.size, 0, none⟩) (Nat.le_refl _) (.slice (some ⟨g, 0, none⟩) n gc))).setCell (p := ⟨w.heap.size + 1, 0, none⟩) (by show w.heap.size ≤ w.heap.size + 1; omega) (.slice (some ⟨g, 0, none⟩) n gc)).setCell (p := ⟨w.heap.size + 1, 1, none⟩) (by show w.heap.size ≤ w.heap.size + 1; omega) (.slice ta m tc)).setCell (p := ⟨w.heap.size + 1, 2, none⟩) (by show w.heap.size ≤ w.heap.size + 1; omega) (.slice sa k sc)).setCell (p := ⟨w.heap.size + 1, 3, none⟩) (by show w.heap.size ≤ w.heap.size + 1; omega) (.int .i64 words))
                  try rw [Exit.noGoto_ret]
                  refine bodyPost_ret (v := .tuple #[.agg #[.slice (some ⟨g, 0, none⟩) n gc, .slice ta m tc, .slice sa k sc, .int .i64 words], .bool true]) (by simp [results, Tryd.results14, go_sem, d0, d1, d2, d3]) rfl ?_
                  exact ⟨_, rfl, HUF.out, HCF.out, by first | exact (fun b hb => by cases hb; show w.heap.size ≤ g; omega) | exact (fun _ b hb => by cases hb; show w.heap.size ≤ g; omega)⟩
            · obtain rfl : r = some (remF l i) := by have := HF2.out; simp at this; exact this.symm
              go_wp2_with (first | (go_at_call 29; refine (HID.out _).mono ?_; rintro e z ⟨rfl, hz⟩; have HUJ := Lib.hid (HUA.out.trans hz); have HBJ := Lib.hid (HBA.out.up hz); have HDJ := Lib.hid (HDA.out.up hz); have HIJ := Lib.hid (HBI.out.up hz); clear hz v0 v1 v2 v3; obtain ⟨v0, v1, v2, v3⟩ := HBJ.out.all) | (go_at_call 30; refine (HRM0.out (i : Int) _ (HUX.out.trans HUJ.out) (by omega)).mono ?_; rintro e z2 ⟨c2, rfl, hz2, hc2, fc2⟩; obtain ⟨⟨ra, rc, rfl⟩, -⟩ := hc2.slice; have HUR := Lib.hid ((HUX.out.trans HUJ.out).trans hz2); have HFW := Lib.hid (fc2.le (HUX.out.trans HUJ.out).size); have HLB := Lib.hid (UBox.lt HBJ.out); have HLD := Lib.hid (UBox.lt HDJ.out); have FB := Lib.hid (fc2.ne HLB.out); have FD := Lib.hid (fc2.ne HLD.out); have HC2 := Lib.hid hc2; have HBR := Lib.hid (HBJ.out.up hz2); have HDR := Lib.hid (HDJ.out.up hz2); clear hz2 hc2 fc2 v0 v1 v2 v3; obtain ⟨v0, v1, v2, v3⟩ := HBR.out.all; obtain ⟨d0, d1, d2, d3⟩ := HDR.out.all; have df := HDR.out.frozen; have vf := HBR.out.frozen))
              have HCF := Lib.hid (((((HC2.out.set FB.out 0 (.slice ra (remF l i).length rc)).set FD.out 0 (.slice ra (remF l i).length rc)).set FD.out 1 (.slice ta m tc)).set FD.out 2 (.slice sa k sc)).set FD.out 3 (.int .i64 words))
              have HUF := Lib.hid (((((HUR.out.setCell (p := ⟨w.heap.size, 0, none⟩) (Nat.le_refl _) (.slice ra (remF l i).length rc)).setCell (p := ⟨w.heap.size + 1, 0, none⟩) (by show w.heap.size ≤ w.heap.size + 1; omega) (.slice ra (remF l i).length rc)).setCell (p := ⟨w.heap.size + 1, 1, none⟩) (by show w.heap.size ≤ w.heap.size + 1; omega) (.slice ta m tc)).setCell (p := ⟨w.heap.size + 1, 2, none⟩) (by show w.heap.size ≤ w.heap.size + 1; omega) (.slice sa k sc)).setCell (p := ⟨w.heap.size + 1, 3, none⟩) (by show w.heap.size ≤ w.heap.size + 1; omega) (.int .i64 words))
              go_wp2
              try rw [Exit.noGoto_ret]
              refine bodyPost_ret (v := .tuple #[.agg #[.slice ra (remF l i).length rc, .slice ta m tc, .slice sa k sc, .int .i64 words], .bool true]) (by simp [results, Tryd.results14, go_sem, d0, d1, d2, d3]) rfl ?_
              exact ⟨_, rfl, HUF.out, HCF.out, fun _ => HFW.out⟩
          · obtain rfl : q1 = false := by rw [← HQ1.out]; simp [hl]
            have hlI : ¬ (i : Int) + 1 < n := by omega
            have HUJ := HUA
            have HBJ := HBA
            have HDJ := HDA
            have HIJ := HBI
            go_wp2
            clear v0 v1 v2 v3 s0'
            generalize wr.alloc (.cells #[.int .i64 op, .int .i64 A, .int .i64 b, .int .i64 c, .int .i64 n1, .int .i64 d, .int .i64 kd, .int .i64 bi, .int .i64 fr, .int .i64 ro, .int .i64 ov] 64) = z at *
            obtain ⟨v0, v1, v2, v3⟩ := HBJ.out.all
            obtain ⟨x0', x1, -⟩ := HIJ.out.all
            have hsJ1 := HIJ.out.lt
            have hsJ2 := UBox.lt HBJ.out
            obtain ⟨jj, hj⟩ : ∃ jj, jumpsB op = jj := ⟨_, rfl⟩
            obtain ⟨t, ht⟩ : ∃ t, finF l A = t := ⟨_, rfl⟩
            have HJJ : Hid (∀ w', Calls Tryd.prog 31 #[.int .i64 op] w' fun e x => e = .returned (.bool jj) ∧ Up w' x) := Lib.hid (fun w' => (r47_Jumps _ _ hj w').mono fun e x h => ⟨h.1, by rw [h.2]; exact Up.refl _⟩)
            have HQ3 : Hid ((jj && decide (t ≠ A)) = q2) := Lib.hid (by rw [← HQ2.out, hj, ht])
            have HJT : Hid (jumpsB op = jj) := Lib.hid hj
            have HTT : Hid (finF l A = t) := Lib.hid ht
            have HRT : Hid (R64 t) := Lib.hid (by rw [← ht]; exact finG_R HV.out.2 (HXR.out 1) _ _ (HXR.out 1))
            rw [ht] at HF2
            clear hj ht
            cases jj
            · obtain rfl : q2 = false := by rw [← HQ3.out]; rfl
              have HF3 : Hid (scanF l bs (n - (i + 1)) (i + 1) = r) := Lib.hid (by have := HF2.out; simpa using this)
              have HFI : Hid (∀ w' : World, True → True) := Lib.hid (fun _ h => h)
              refine wp_region_ext (by kernel_rfl) (by kernel_rfl) ?_
              repeat (go_big_quiet_step (first | (go_at_call 31; exact Calls.ext_of (HJJ.out _))))
              refine wpQuiet_nil ?_
              intro z6 hz6
              go_wp2
              go_roundw
              case rel => exact ⟨i + 1, by omega, by go_num, HF3.out, HUJ.out.trans hz6⟩
              case measure => simp [intOf]; omega
            · have HTV := Lib.hid (HJV.out HJT.out)
              have HFE : Hid (∀ w', Up w w' → Calls Tryd.prog 32 #[.slice (some ⟨bl, off, none⟩) n cc, .int .i64 A] w' fun e x => e = .returned (.int .i64 t) ∧ x = w') := Lib.hid (fun w' hu => (HFN0.out HVAL.out A w' hu HTV.out).mono fun e x h => ⟨by rw [h.1, HTT.out], h.2⟩)
              have HFI : Hid (∀ w', Up w w' → Calls Tryd.prog 32 #[.slice (some ⟨bl, off, none⟩) n cc, .int .i64 A] w' fun e x => e = .returned (.int .i64 t) ∧ Up w' x) := Lib.hid (fun w' hu => (HFE.out w' hu).mono fun e x h => ⟨h.1, by rw [h.2]; exact Up.refl _⟩)
              by_cases hta : t = A
              · subst hta
                obtain rfl : q2 = false := by rw [← HQ3.out]; simp
                have HF3 : Hid (scanF l bs (n - (i + 1)) (i + 1) = r) := Lib.hid (by have := HF2.out; simpa using this)
                refine wp_region_ext (by kernel_rfl) (by kernel_rfl) ?_
                repeat (go_big_quiet_step (first | (go_at_call 31; exact Calls.ext_of (HJJ.out _)) | (go_at_call 32; exact Calls.ext_of (HFI.out _ ((HUX.out.trans HUJ.out).trans (Ext.up _))))))
                refine wpQuiet_nil ?_
                intro z6 hz6
                go_wp2
                go_roundw
                case rel => exact ⟨i + 1, by omega, by go_num, HF3.out, HUJ.out.trans hz6⟩
                case measure => simp [intOf]; omega
              · obtain rfl : q2 = true := by rw [← HQ3.out]; simp [hta]
                obtain rfl : r = some (setA l i t) := by have := HF2.out; simp at this; exact this.symm
                refine wp_region_ext (by kernel_rfl) (by kernel_rfl) ?_
                repeat (go_big_quiet_step (first | (go_at_call 31; exact Calls.ext_of (HJJ.out _)) | (go_at_call 32; exact Calls.ext_of (HFI.out _ ((HUX.out.trans HUJ.out).trans (Ext.up _))))))
                refine wpQuiet_nil ?_
                intro z6 hz6
                have HUZ6 := Lib.hid ((HUX.out.trans HUJ.out).trans hz6)
                have HB6 := Lib.hid (HBJ.out.up hz6)
                have HD6 := Lib.hid (HDJ.out.up hz6)
                have HI6 := Lib.hid (HIJ.out.up hz6)
                have hs6 : wr.heap.size < z6.heap.size := HI6.out.lt
                have hsW : w.heap.size + 1 < wr.heap.size := UBox.lt HDXW.out
                clear hz6 v0 v1 v2 v3 x0' x1
                obtain ⟨v0, v1, v2, v3⟩ := HB6.out.all
                obtain ⟨x0', x1, x2, x3, x4, x5, x6, x7, x8, x9, x10⟩ := HI6.out.all
                have xf := HI6.out.frozen
                have HU7 : Hid (Up w (z6.setCell ⟨wr.heap.size, 1, none⟩ (.int .i64 t))) := Lib.hid (HUZ6.out.setCell (p := ⟨wr.heap.size, 1, none⟩) (by show w.heap.size ≤ wr.heap.size; omega) _)
                have HI7 := Lib.hid (boxA HI6.out t)
                have HB7 : Hid (UBox (z6.setCell ⟨wr.heap.size, 1, none⟩ (.int .i64 t)) w.heap.size 31 (.slice (some ⟨bl, off, none⟩) n cc) (.slice ta m tc) (.slice sa k sc) (.int .i64 words)) := Lib.hid (HB6.out.set (by omega) _ _)
                have HD7 : Hid (UBox (z6.setCell ⟨wr.heap.size, 1, none⟩ (.int .i64 t)) (w.heap.size + 1) 31 (.slice none 0 0) (.slice none 0 0) (.slice none 0 0) (.int .i64 0)) := Lib.hid (HD6.out.set (by omega) _ _)
                have hnA1 : (wr.heap.size = w.heap.size) = False := by simp; omega
                have hnA2 : (w.heap.size = wr.heap.size) = False := by simp; omega
                have hnA3 : (wr.heap.size = w.heap.size + 1) = False := by simp; omega
                have hnA4 : (w.heap.size + 1 = wr.heap.size) = False := by simp; omega
                have HSL : Hid (SlAt w (.slice (some ⟨bl, off, none⟩) n cc) n 11 (insF l)) := Lib.hid (by have := HV.out.1; rw [HN.out] at this; exact this)
                go_wp2_with (first | (go_at_call 32; refine (HFE.out _ HUZ6.out).mono ?_; rintro e x6' ⟨rfl, hx6⟩; replace hx6 := hx6.symm; subst hx6) | (at_builtin; refine wpList_append_sl _ rfl _ _ 22 rfl (z6.setCell ⟨wr.heap.size, 1, none⟩ (.int .i64 t)).heap.size 64 j0 _ 11 88 Tryd.underlying22 hi0 hz0 hz1 hz2 rfl (by decide) (.slice none 0 0) 0 [] rfl (World.ownsRow_nil _ _ _ _) (.slice (some ⟨bl, off, none⟩) n cc) n (insF l) rfl (HSL.out.up HU7.out) (fun i j _ _ => insF_one _ _ _) (by rw [maxLen]; omega) (by omega) (Nat.le_refl _) ?_; rintro v' w1 ho1 hg1 - -; rw [Nat.zero_add, List.nil_append] at ho1; have HU8 := Lib.hid (grown_up hg1 (fun k hk => by cases hk)); have HO1 := Lib.hid ho1; clear ho1 hg1; obtain ⟨g, gc, rfl, hgB, hgs, hgc, hgf, hgcell⟩ := own_get HO1.out (by omega); rw [set_size] at hgB; have HGC := Lib.hid hgcell; clear hgcell v0 v1 v2 v3 x0' x1 x2 x3 x4 x5 x6 x7 x8 x9 x10 xf; have HB8 := Lib.hid (HB7.out.up HU8.out); have HD8 := Lib.hid (HD7.out.up HU8.out); have HI8 := Lib.hid (HI7.out.up HU8.out); obtain ⟨v0, v1, v2, v3⟩ := HB8.out.all; obtain ⟨d0, d1, d2, d3⟩ := HD8.out.all; obtain ⟨x0', x1, x2, x3, x4, x5, x6, x7, x8, x9, x10⟩ := HI8.out.all; have vf := HB8.out.frozen; have df := HD8.out.frozen; have hne1 : (g = w.heap.size) = False := (by simp; omega); have hne2 : (g = w.heap.size + 1) = False := (by simp; omega); have hne3 : (g = wr.heap.size) = False := (by simp; omega); have hne4 : (w.heap.size = g) = False := (by simp; omega); have hne5 : (w.heap.size + 1 = g) = False := (by simp; omega); have hne6 : (wr.heap.size = g) = False := (by simp; omega); obtain ⟨g0, g1, g2, g3, g4, g5, g6, g7, g8, g9, g10⟩ := gcells HGC.out HX1.out hlt))
                have HO2 := Lib.hid (own_sets (t := t) HO1.out HN.out hlt HX1.out)
                dsimp only at HO2
                have HIA := Lib.hid (InsAt.of_own HO2.out (by rw [setA_len, HN.out]) (by omega) (setA_R HV.out.2 HRT.out (by rw [HN.out]; exact hlt)))
                have hG1 : ∀ b, blk (.slice (some ⟨g, 0, none⟩) n gc) = some b → b ≠ w.heap.size := fun b hb => by cases hb; show g ≠ _; omega
                have hG2 : ∀ b, blk (.slice (some ⟨g, 0, none⟩) n gc) = some b → b ≠ w.heap.size + 1 := fun b hb => by cases hb; show g ≠ _; omega
                have HCF := Lib.hid (((((HIA.out.set hG1 0 (.slice (some ⟨g, 0, none⟩) n gc)).set hG2 0 (.slice (some ⟨g, 0, none⟩) n gc)).set hG2 1 (.slice ta m tc)).set hG2 2 (.slice sa k sc)).set hG2 3 (.int .i64 words))
                have HUF := Lib.hid ((((((((((((((((((HU7.out.trans HU8.out).setCell (p := ⟨g, i * 11, none⟩) (by show w.heap.size ≤ g; omega) (.int .i64 op)).setCell (p := ⟨g, i * 11 + 1, none⟩) (by show w.heap.size ≤ g; omega) (.int .i64 t)).setCell (p := ⟨g, i * 11 + 2, none⟩) (by show w.heap.size ≤ g; omega) (.int .i64 b)).setCell (p := ⟨g, i * 11 + 3, none⟩) (by show w.heap.size ≤ g; omega) (.int .i64 c)).setCell (p := ⟨g, i * 11 + 4, none⟩) (by show w.heap.size ≤ g; omega) (.int .i64 n1)).setCell (p := ⟨g, i * 11 + 5, none⟩) (by show w.heap.size ≤ g; omega) (.int .i64 d)).setCell (p := ⟨g, i * 11 + 6, none⟩) (by show w.heap.size ≤ g; omega) (.int .i64 kd)).setCell (p := ⟨g, i * 11 + 7, none⟩) (by show w.heap.size ≤ g; omega) (.int .i64 bi)).setCell (p := ⟨g, i * 11 + 8, none⟩) (by show w.heap.size ≤ g; omega) (.int .i64 fr)).setCell (p := ⟨g, i * 11 + 9, none⟩) (by show w.heap.size ≤ g; omega) (.int .i64 ro)).setCell (p := ⟨g, i * 11 + 10, none⟩) (by show w.heap.size ≤ g; omega) (.int .i64 ov)).setCell (p := ⟨w.heap.size, 0, none⟩) (Nat.le_refl _) (.slice (some ⟨g, 0, none⟩) n gc))).setCell (p := ⟨w.heap.size + 1, 0, none⟩) (by show w.heap.size ≤ w.heap.size + 1; omega) (.slice (some ⟨g, 0, none⟩) n gc)).setCell (p := ⟨w.heap.size + 1, 1, none⟩) (by show w.heap.size ≤ w.heap.size + 1; omega) (.slice ta m tc)).setCell (p := ⟨w.heap.size + 1, 2, none⟩) (by show w.heap.size ≤ w.heap.size + 1; omega) (.slice sa k sc)).setCell (p := ⟨w.heap.size + 1, 3, none⟩) (by show w.heap.size ≤ w.heap.size + 1; omega) (.int .i64 words))
                try rw [Exit.noGoto_ret]
                refine bodyPost_ret (v := .tuple #[.agg #[.slice (some ⟨g, 0, none⟩) n gc, .slice ta m tc, .slice sa k sc, .int .i64 words], .bool true]) (by simp [results, Tryd.results14, go_sem, d0, d1, d2, d3]) rfl ?_
                exact ⟨_, rfl, HUF.out, HCF.out, by first | exact (fun b hb => by cases hb; show w.heap.size ≤ g; omega) | exact (fun _ b hb => by cases hb; show w.heap.size ≤ g; omega)⟩
        · obtain rfl : r = some (remF l i) := by have := HF2.out; simp at this; exact this.symm
          go_wp2_with (go_at_call 30; refine (HRM0.out (i : Int) _ (HUX.out.trans HUA.out) (by omega)).mono ?_; rintro e z2 ⟨c2, rfl, hz2, hc2, fc2⟩; obtain ⟨⟨ra, rc, rfl⟩, -⟩ := hc2.slice; have HUR := Lib.hid ((HUX.out.trans HUA.out).trans hz2); have HFW := Lib.hid (fc2.le (HUX.out.trans HUA.out).size); have HLB := Lib.hid (UBox.lt HBA.out); have HLD := Lib.hid (UBox.lt HDA.out); have FB := Lib.hid (fc2.ne HLB.out); have FD := Lib.hid (fc2.ne HLD.out); have HC2 := Lib.hid hc2; have HBR := Lib.hid (HBA.out.up hz2); have HDR := Lib.hid (HDA.out.up hz2); clear hz2 hc2 fc2 v0 v1 v2 v3; obtain ⟨v0, v1, v2, v3⟩ := HBR.out.all; obtain ⟨d0, d1, d2, d3⟩ := HDR.out.all; have df := HDR.out.frozen; have vf := HBR.out.frozen)
          have HCF := Lib.hid (((((HC2.out.set FB.out 0 (.slice ra (remF l i).length rc)).set FD.out 0 (.slice ra (remF l i).length rc)).set FD.out 1 (.slice ta m tc)).set FD.out 2 (.slice sa k sc)).set FD.out 3 (.int .i64 words))
          have HUF := Lib.hid (((((HUR.out.setCell (p := ⟨w.heap.size, 0, none⟩) (Nat.le_refl _) (.slice ra (remF l i).length rc)).setCell (p := ⟨w.heap.size + 1, 0, none⟩) (by show w.heap.size ≤ w.heap.size + 1; omega) (.slice ra (remF l i).length rc)).setCell (p := ⟨w.heap.size + 1, 1, none⟩) (by show w.heap.size ≤ w.heap.size + 1; omega) (.slice ta m tc)).setCell (p := ⟨w.heap.size + 1, 2, none⟩) (by show w.heap.size ≤ w.heap.size + 1; omega) (.slice sa k sc)).setCell (p := ⟨w.heap.size + 1, 3, none⟩) (by show w.heap.size ≤ w.heap.size + 1; omega) (.int .i64 words))
          go_wp2
          try rw [Exit.noGoto_ret]
          refine bodyPost_ret (v := .tuple #[.agg #[.slice ra (remF l i).length rc, .slice ta m tc, .slice sa k sc, .int .i64 words], .bool true]) (by simp [results, Tryd.results14, go_sem, d0, d1, d2, d3]) rfl ?_
          exact ⟨_, rfl, HUF.out, HCF.out, fun _ => HFW.out⟩
      · have hin : n = i := by omega
        subst hin
        obtain rfl : r = none := by rw [← HF.out, Nat.sub_self]; rfl
        have HUZ := Lib.hid (HUX.out.trans HUW.out)
        have HZI := Lib.hid (HC0.out _ HUZ.out)
        have HDZ := HDXW
        obtain ⟨d0, d1, d2, d3⟩ := HDZ.out.all
        have df := HDZ.out.frozen
        have HUF := Lib.hid (((((HUZ.out).setCell (p := ⟨w.heap.size + 1, 0, none⟩) (by show w.heap.size ≤ w.heap.size + 1; omega) (.slice ca n cc)).setCell (p := ⟨w.heap.size + 1, 1, none⟩) (by show w.heap.size ≤ w.heap.size + 1; omega) (.slice ta m tc)).setCell (p := ⟨w.heap.size + 1, 2, none⟩) (by show w.heap.size ≤ w.heap.size + 1; omega) (.slice sa k sc)).setCell (p := ⟨w.heap.size + 1, 3, none⟩) (by show w.heap.size ≤ w.heap.size + 1; omega) (.int .i64 words))
        go_wp2
        try rw [Exit.noGoto_ret]
        refine bodyPost_ret (v := .tuple #[.agg #[.slice ca n cc, .slice ta m tc, .slice sa k sc, .int .i64 words], .bool false]) (by simp [results, Tryd.results14, go_sem, d0, d1, d2, d3]) rfl ?_
        exact ⟨_, rfl, HUF.out, HC0.out _ HUF.out, fun h => nomatch h⟩
  · have hv1 : (ve != 0) = true := by simpa using hv0
    obtain rfl : r = none := by rw [← HR.out, stepF, HVV.out, if_neg hv0]
    have HZI := Lib.hid (HC0.out _ HUY.out)
    have HUZ := HUY
    obtain ⟨d0, d1, d2, d3⟩ := HDY.out.all
    have df := HDY.out.frozen
    have HUF := Lib.hid (((((HUZ.out).setCell (p := ⟨w.heap.size + 1, 0, none⟩) (by show w.heap.size ≤ w.heap.size + 1; omega) (.slice ca n cc)).setCell (p := ⟨w.heap.size + 1, 1, none⟩) (by show w.heap.size ≤ w.heap.size + 1; omega) (.slice ta m tc)).setCell (p := ⟨w.heap.size + 1, 2, none⟩) (by show w.heap.size ≤ w.heap.size + 1; omega) (.slice sa k sc)).setCell (p := ⟨w.heap.size + 1, 3, none⟩) (by show w.heap.size ≤ w.heap.size + 1; omega) (.int .i64 words))
    go_wp2
    try rw [Exit.noGoto_ret]
    refine bodyPost_ret (v := .tuple #[.agg #[.slice ca n cc, .slice ta m tc, .slice sa k sc, .int .i64 words], .bool false]) (by simp [results, Tryd.results14, go_sem, d0, d1, d2, d3]) rfl ?_
    exact ⟨_, rfl, HUF.out, HC0.out _ HUF.out, fun h => nomatch h⟩
end Go.Proofs.YtbpojmhgifgfdaaDoor
