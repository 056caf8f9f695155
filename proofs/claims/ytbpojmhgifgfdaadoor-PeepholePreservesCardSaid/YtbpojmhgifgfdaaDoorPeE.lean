/-
  Step of the program. Printed by mkPeSt.py.
-/
import Derived.Test.YtbpojmhgifgfdaaDoorPeC

import Derived.WalkMore
namespace Go.Proofs.YtbpojmhgifgfdaaDoor
open Go.ChangeShapes Go.WideShapes Go.ChangeAt Go.RowKit
set_option linter.unusedVariables false
set_option linter.unusedSimpArgs false
set_option maxRecDepth 100000

set_option maxHeartbeats 16000000 in
theorem pe_Step (cv tv sv : Value) (words : Int) (l : List Ins) (lt : List Typ) (ls : List Slt) (w : World) (hT : ITab w) (hc : InsAt w cv l) (ht : TypAt w tv lt) (hs : SltAt w sv ls)
    (h1 : l.length ≤ 100000) (h2 : lt.length ≤ 100000) (h3 : ls.length ≤ 100000) :
    Calls Tryd.prog 13 #[.agg #[cv, tv, sv, .int .i64 words]] w fun e w' => ∃ c' t' s', e = .returned (.tuple #[.agg #[c', t', s', .int .i64 words], .bool (stepF l lt words).isSome]) ∧ Up w w' ∧ InsAt w' c' ((stepF l lt words).getD l) ∧ TypAt w' t' lt ∧ SltAt w' s' ls ∧ Fresh w.heap.size c' ∧ Fresh w.heap.size t' ∧ Fresh w.heap.size s' := by
  obtain ⟨r, hr⟩ : ∃ r, stepF l lt words = r := ⟨_, rfl⟩
  have hlr : (r.getD l).length ≤ 100000 := by
    cases r with
    | none => exact h1
    | some q => exact Nat.le_trans (stepF_len hr) h1
  rw [hr]
  have HVA0 := Lib.hid (fun w' (hu : Up w w') => isa_Validate cv tv l lt words w' (hc.up hu) (ht.up hu) (hT.up hu) h1 h2)
  have HRE0 := Lib.hid (fun w' (hu : Up w w') => pe_reachable cv l w' (hc.up hu) h1)
  have HCO0 := Lib.hid (fun kv lk w' (hu : Up w w') (hk : InsAt w' kv lk) (hl : lk.length ≤ 100000) => pe_copied cv tv sv kv words lk lt ls w' (by obtain ⟨⟨a, cap, h⟩, _⟩ := hc.slice; exact ⟨a, _, cap, h⟩) hk (ht.up hu) (hs.up hu) hl h2 h3)
  have HA0 := Lib.hid (fun sv bs i w' (hu : Up w w') (hb : BoolsAt w' sv bs) (hi : i < l.length) (hbl : bs.length = l.length) q (hq : goneB bs i = q) => pe_apply0 cv sv l bs i w' (hc.up hu) hb hi hbl h1 q hq)
  have HA1 := Lib.hid (fun sv bs i w' (hu : Up w w') (hb : BoolsAt w' sv bs) (hi : i < l.length) (hbl : bs.length = l.length) q (hq : idleAt l i = q) => pe_apply1 cv sv l bs i w' (hc.up hu) hb hi hbl h1 q hq)
  have HA2 := Lib.hid (fun sv bs i w' (hu : Up w w') (hb : BoolsAt w' sv bs) (hi : i < l.length) (hbl : bs.length = l.length) q (hq : threadB l i = q) => pe_apply2 cv sv l bs i w' (hc.up hu) hb hi hbl h1 q hq)
  have HC0 := Lib.hid (fun w' (hu : Up w w') => hc.up hu)
  obtain ⟨⟨ca, cc, rfl⟩, cm⟩ := hc.slice
  obtain ⟨⟨ta, tc, rfl⟩, tm⟩ := ht.slice
  obtain ⟨⟨sa, sc, rfl⟩, sm⟩ := hs.slice
  obtain ⟨n, hn⟩ : ∃ n, l.length = n := ⟨_, rfl⟩
  obtain ⟨m, hm⟩ : ∃ m, lt.length = m := ⟨_, rfl⟩
  obtain ⟨k, hkk⟩ : ∃ k, ls.length = k := ⟨_, rfl⟩
  rw [hn] at HVA0 HRE0 HCO0 HA0 HA1 HA2 HC0 h1 cm
  rw [hm] at HVA0 HCO0 h2 tm
  rw [hkk] at HCO0 h3 sm
  rw [hn, hm, hkk]
  have HN := Lib.hid hn
  have HR := Lib.hid hr
  have HLR := Lib.hid hlr
  obtain ⟨⟨vi, ve⟩, hv⟩ : ∃ v, validateF l lt words = v := ⟨_, rfl⟩
  rw [hv] at HVA0
  have HVV := Lib.hid hv
  have hnI : (n : Int) ≤ 100000 := by omega
  clear hn hm hkk hr hlr hv hc ht hs hT
  have HU1 : Hid (Up w ((w.alloc (.cells #[.slice ca n cc, .slice ta m tc, .slice sa k sc, .int .i64 words] 33)).alloc (.cells #[.slice none 0 0, .slice none 0 0, .slice none 0 0, .int .i64 0] 33))) := Lib.hid (((Up.refl w).alloc _).alloc _)
  have HB1 : Hid (UBox ((w.alloc (.cells #[.slice ca n cc, .slice ta m tc, .slice sa k sc, .int .i64 words] 33)).alloc (.cells #[.slice none 0 0, .slice none 0 0, .slice none 0 0, .int .i64 0] 33)) w.heap.size 33 (.slice ca n cc) (.slice ta m tc) (.slice sa k sc) (.int .i64 words)) := Lib.hid (UBox.up (UBox.new w _ _ _ _ _) ((Up.refl _).alloc _))
  have HD1 : Hid (UBox ((w.alloc (.cells #[.slice ca n cc, .slice ta m tc, .slice sa k sc, .int .i64 words] 33)).alloc (.cells #[.slice none 0 0, .slice none 0 0, .slice none 0 0, .int .i64 0] 33)) (w.heap.size + 1) 33 (.slice none 0 0) (.slice none 0 0) (.slice none 0 0) (.int .i64 0)) := Lib.hid (UBox.new2 w _ _ _ _ _ _ _ _ _ _)
  go_enter Tryd.func13, Tryd.ntmps13
  go_wp2
  go_step3
  go_wp2_with fail
  refine (HVA0.out _ HU1.out).mono ?_
  rintro e y ⟨rfl, hy⟩
  have HUY := Lib.hid (HU1.out.trans hy)
  have HBY := Lib.hid (HB1.out.up hy)
  have HDY := Lib.hid (HD1.out.up hy)
  clear hy HU1 HB1 HD1 HVA0
  obtain ⟨u0, u1, u2, u3⟩ := HBY.out.all
  by_cases hv0 : ve = 0
  · subst hv0
    have HR2 : Hid (scanF l (reachF l) n 0 = r) := Lib.hid (by have := HR.out; rw [stepF, HVV.out, if_pos rfl, HN.out] at this; exact this)
    clear HR HVV
    go_wp2_with fail
    refine (HRE0.out _ HUY.out).mono ?_
    rintro e x ⟨bv, rfl, hx, hbv, hbl⟩
    have HUX := Lib.hid (HUY.out.trans hx)
    have HBX := Lib.hid (HBY.out.up hx)
    have HDX := Lib.hid (HDY.out.up hx)
    obtain ⟨bs, hbs⟩ : ∃ bs, reachF l = bs := ⟨_, rfl⟩
    rw [hbs] at hbv hbl HR2
    obtain ⟨⟨ba, bc, rfl⟩, bm⟩ := hbv.slice
    rw [hbl] at hbv ⊢
    have HBV := Lib.hid hbv
    have HBL := Lib.hid hbl
    clear hbv hbl hbs hx HUY HBY HDY HRE0 u0 u1 u2 u3
    obtain ⟨u0, u1, u2, u3⟩ := HBX.out.all
    go_wp2
    go_step3
    go_wp2
    go_loopw [7, 8, 37] (fun cv fv kv wr => ∃ (i : Nat), i ≤ n ∧ kv = .int .i64 i ∧ cv = .slice ca n cc ∧ fv = .bool false ∧ scanF l bs (n - i) i = r ∧ Up x wr) (fun _ _ kv _ => n - (intOf kv).toNat)
    case atStart => exact ⟨0, by omega, rfl, rfl, rfl, HR2.out, Up.refl x⟩
    case round =>
      rename World => wr
      obtain ⟨i, hi, rfl, rfl, rfl, hf, hU⟩ := hrel
      have HUW := Lib.hid hU
      have HBXW := Lib.hid (HBX.out.up hU)
      have HF := Lib.hid hf
      clear hU hf
      obtain ⟨u0, u1, u2, u3⟩ := HBXW.out.all
      by_cases hlt : i < n
      · have hltI : (i : Int) < n := by omega
        obtain ⟨q0, hq0⟩ : ∃ q, goneB bs i = q := ⟨_, rfl⟩
        obtain ⟨q1, hq1⟩ : ∃ q, idleAt l i = q := ⟨_, rfl⟩
        obtain ⟨q2, hq2⟩ : ∃ q, threadB l i = q := ⟨_, rfl⟩
        have HF2 : Hid ((if q0 then some (remF l i) else if q1 then some (remF l i) else if q2 then some (setA l i (finF l (l.getD i i0).2.1)) else scanF l bs (n - (i + 1)) (i + 1)) = r) := Lib.hid (by
          have := HF.out
          rw [show n - i = (n - (i + 1)) + 1 by omega, scanF, hq0, hq1, hq2] at this
          exact this)
        have HQ0 := Lib.hid hq0
        have HQ1 := Lib.hid hq1
        have HQ2 := Lib.hid hq2
        clear hq0 hq1 hq2 HF
        go_wp2
        go_loopw [7, 8, 40] (fun cv fv rv wq => ∃ (p : Int), (p = 0 ∨ (p = 1 ∧ q0 = false) ∨ (p = 2 ∧ q0 = false ∧ q1 = false) ∨ (p = 3 ∧ q0 = false ∧ q1 = false ∧ q2 = false)) ∧ rv = .int .i64 p ∧ cv = .slice ca n cc ∧ fv = .bool false ∧ Up wr wq) (fun _ _ rv _ => 3 - (intOf rv).toNat)
        case atStart => exact ⟨0, .inl rfl, rfl, rfl, rfl, Up.refl wr⟩
        case round =>
          rename World => wq
          obtain ⟨p, hp, rfl, rfl, rfl, hUq⟩ := hrel
          have HUW2 := Lib.hid hUq
          have HUQ := Lib.hid ((HUX.out.trans HUW.out).trans hUq)
          have HBXQ := Lib.hid (HBXW.out.up hUq)
          have HDXQ := Lib.hid (HDX.out.up (HUW.out.trans hUq))
          have HBQ := Lib.hid (HBV.out.up (HUW.out.trans hUq))
          clear hUq
          obtain ⟨u0, u1, u2, u3⟩ := HBXQ.out.all
          rcases hp with rfl | ⟨rfl, rfl⟩ | ⟨rfl, rfl, rfl⟩ | ⟨rfl, rfl, rfl, rfl⟩
          · have HR3 : Hid (q0 = true → r = some (remF l i)) := Lib.hid (fun h => by have := HF2.out; simp only [h, if_true, Bool.false_eq_true, if_false] at this; exact this.symm)
            cases q0
            · go_wp2_with (go_at_call 28; refine (HA0.out _ bs i _ HUQ.out HBQ.out hlt HBL.out _ HQ0.out).mono ?_; rintro e z ⟨v', rfl, hz, hzr⟩; have HUZ := Lib.hid (HUQ.out.trans hz); have HUZ2 := Lib.hid (HUW2.out.trans hz); have HBZ := Lib.hid (HBXQ.out.up hz); obtain ⟨z0, z1, z2, z3⟩ := HBZ.out.all; clear u0 u1 u2 u3)
              go_roundw
              case rel => exact ⟨1, (by simp), by go_num, rfl, rfl, HUZ2.out⟩
              case measure => simp [intOf]
            · obtain rfl := HR3.out rfl
              have HLL : Hid ((remF l i).length ≤ 100000) := Lib.hid HLR.out
              go_wp2_with (first | (go_at_call 28; refine (HA0.out _ bs i _ HUQ.out HBQ.out hlt HBL.out _ HQ0.out).mono ?_; rintro e z ⟨v', rfl, hz, hzr⟩; have HUZ := Lib.hid (HUQ.out.trans hz); have HUZ2 := Lib.hid (HUW2.out.trans hz); have HBZ := Lib.hid (HBXQ.out.up hz); obtain ⟨z0, z1, z2, z3⟩ := HBZ.out.all; clear u0 u1 u2 u3; have HDZ0 := Lib.hid (HDXQ.out.up hz); have HZI := Lib.hid (hzr rfl); clear hzr hz) | (go_at_call 27; refine (HCO0.out _ _ _ HUZ.out HZI.out HLL.out).mono ?_; rintro e zz ⟨c2, t2, s2, rfl, hzz, hc2, ht2, hs2, fc2, ft2, fs2⟩; have HDZ := Lib.hid (HDZ0.out.up hzz); obtain ⟨d0, d1, d2, d3⟩ := HDZ.out.all; have df := HDZ.out.frozen; have HSZ := Lib.hid (UBox.lt HDZ0.out); obtain ⟨⟨c2a, c2c, rfl⟩, -⟩ := hc2.slice; obtain ⟨⟨t2a, t2c, rfl⟩, -⟩ := ht2.slice; obtain ⟨⟨s2a, s2c, rfl⟩, -⟩ := hs2.slice; have HUZZ := Lib.hid (HUZ.out.trans hzz); have HC2 := Lib.hid hc2; have HT2 := Lib.hid ht2; have HS2 := Lib.hid hs2; have GC2 := Lib.hid (fc2.le HUZ.out.size); have GT2 := Lib.hid (ft2.le HUZ.out.size); have GS2 := Lib.hid (fs2.le HUZ.out.size); have FC2 := Lib.hid (fc2.ne HSZ.out); have FT2 := Lib.hid (ft2.ne HSZ.out); have FS2 := Lib.hid (fs2.ne HSZ.out); clear hc2 ht2 hs2 fc2 ft2 fs2 hzz))
              have HCF := Lib.hid ((((HC2.out.set FC2.out 0 (.slice c2a ((remF l i)).length c2c)).set FC2.out 1 (.slice t2a lt.length t2c)).set FC2.out 2 (.slice s2a ls.length s2c)).set FC2.out 3 (.int .i64 words))
              have HTF := Lib.hid ((((HT2.out.set FT2.out 0 (.slice c2a ((remF l i)).length c2c)).set FT2.out 1 (.slice t2a lt.length t2c)).set FT2.out 2 (.slice s2a ls.length s2c)).set FT2.out 3 (.int .i64 words))
              have HSF := Lib.hid ((((HS2.out.set FS2.out 0 (.slice c2a ((remF l i)).length c2c)).set FS2.out 1 (.slice t2a lt.length t2c)).set FS2.out 2 (.slice s2a ls.length s2c)).set FS2.out 3 (.int .i64 words))
              have HUF := Lib.hid (((((HUZZ.out).setCell (p := ⟨w.heap.size + 1, 0, none⟩) (by show w.heap.size ≤ w.heap.size + 1; omega) (.slice c2a ((remF l i)).length c2c)).setCell (p := ⟨w.heap.size + 1, 1, none⟩) (by show w.heap.size ≤ w.heap.size + 1; omega) (.slice t2a lt.length t2c)).setCell (p := ⟨w.heap.size + 1, 2, none⟩) (by show w.heap.size ≤ w.heap.size + 1; omega) (.slice s2a ls.length s2c)).setCell (p := ⟨w.heap.size + 1, 3, none⟩) (by show w.heap.size ≤ w.heap.size + 1; omega) (.int .i64 words))
              go_wp2
              try rw [Exit.noGoto_ret]
              refine bodyPost_ret (v := .tuple #[.agg #[(.slice c2a ((remF l i)).length c2c), (.slice t2a lt.length t2c), (.slice s2a ls.length s2c), .int .i64 words], .bool true]) (by simp [results, Tryd.results13, go_sem, d0, d1, d2, d3]) rfl ?_
              exact ⟨_, _, _, rfl, HUF.out, HCF.out, HTF.out, HSF.out, GC2.out, GT2.out, GS2.out⟩
          · have HR3 : Hid (q1 = true → r = some (remF l i)) := Lib.hid (fun h => by have := HF2.out; simp only [h, if_true, Bool.false_eq_true, if_false] at this; exact this.symm)
            cases q1
            · go_wp2_with (go_at_call 28; refine (HA1.out _ bs i _ HUQ.out HBQ.out hlt HBL.out _ HQ1.out).mono ?_; rintro e z ⟨v', rfl, hz, hzr⟩; have HUZ := Lib.hid (HUQ.out.trans hz); have HUZ2 := Lib.hid (HUW2.out.trans hz); have HBZ := Lib.hid (HBXQ.out.up hz); obtain ⟨z0, z1, z2, z3⟩ := HBZ.out.all; clear u0 u1 u2 u3)
              go_roundw
              case rel => exact ⟨2, (by simp), by go_num, rfl, rfl, HUZ2.out⟩
              case measure => simp [intOf]
            · obtain rfl := HR3.out rfl
              have HLL : Hid ((remF l i).length ≤ 100000) := Lib.hid HLR.out
              go_wp2_with (first | (go_at_call 28; refine (HA1.out _ bs i _ HUQ.out HBQ.out hlt HBL.out _ HQ1.out).mono ?_; rintro e z ⟨v', rfl, hz, hzr⟩; have HUZ := Lib.hid (HUQ.out.trans hz); have HUZ2 := Lib.hid (HUW2.out.trans hz); have HBZ := Lib.hid (HBXQ.out.up hz); obtain ⟨z0, z1, z2, z3⟩ := HBZ.out.all; clear u0 u1 u2 u3; have HDZ0 := Lib.hid (HDXQ.out.up hz); have HZI := Lib.hid (hzr rfl); clear hzr hz) | (go_at_call 27; refine (HCO0.out _ _ _ HUZ.out HZI.out HLL.out).mono ?_; rintro e zz ⟨c2, t2, s2, rfl, hzz, hc2, ht2, hs2, fc2, ft2, fs2⟩; have HDZ := Lib.hid (HDZ0.out.up hzz); obtain ⟨d0, d1, d2, d3⟩ := HDZ.out.all; have df := HDZ.out.frozen; have HSZ := Lib.hid (UBox.lt HDZ0.out); obtain ⟨⟨c2a, c2c, rfl⟩, -⟩ := hc2.slice; obtain ⟨⟨t2a, t2c, rfl⟩, -⟩ := ht2.slice; obtain ⟨⟨s2a, s2c, rfl⟩, -⟩ := hs2.slice; have HUZZ := Lib.hid (HUZ.out.trans hzz); have HC2 := Lib.hid hc2; have HT2 := Lib.hid ht2; have HS2 := Lib.hid hs2; have GC2 := Lib.hid (fc2.le HUZ.out.size); have GT2 := Lib.hid (ft2.le HUZ.out.size); have GS2 := Lib.hid (fs2.le HUZ.out.size); have FC2 := Lib.hid (fc2.ne HSZ.out); have FT2 := Lib.hid (ft2.ne HSZ.out); have FS2 := Lib.hid (fs2.ne HSZ.out); clear hc2 ht2 hs2 fc2 ft2 fs2 hzz))
              have HCF := Lib.hid ((((HC2.out.set FC2.out 0 (.slice c2a ((remF l i)).length c2c)).set FC2.out 1 (.slice t2a lt.length t2c)).set FC2.out 2 (.slice s2a ls.length s2c)).set FC2.out 3 (.int .i64 words))
              have HTF := Lib.hid ((((HT2.out.set FT2.out 0 (.slice c2a ((remF l i)).length c2c)).set FT2.out 1 (.slice t2a lt.length t2c)).set FT2.out 2 (.slice s2a ls.length s2c)).set FT2.out 3 (.int .i64 words))
              have HSF := Lib.hid ((((HS2.out.set FS2.out 0 (.slice c2a ((remF l i)).length c2c)).set FS2.out 1 (.slice t2a lt.length t2c)).set FS2.out 2 (.slice s2a ls.length s2c)).set FS2.out 3 (.int .i64 words))
              have HUF := Lib.hid (((((HUZZ.out).setCell (p := ⟨w.heap.size + 1, 0, none⟩) (by show w.heap.size ≤ w.heap.size + 1; omega) (.slice c2a ((remF l i)).length c2c)).setCell (p := ⟨w.heap.size + 1, 1, none⟩) (by show w.heap.size ≤ w.heap.size + 1; omega) (.slice t2a lt.length t2c)).setCell (p := ⟨w.heap.size + 1, 2, none⟩) (by show w.heap.size ≤ w.heap.size + 1; omega) (.slice s2a ls.length s2c)).setCell (p := ⟨w.heap.size + 1, 3, none⟩) (by show w.heap.size ≤ w.heap.size + 1; omega) (.int .i64 words))
              go_wp2
              try rw [Exit.noGoto_ret]
              refine bodyPost_ret (v := .tuple #[.agg #[(.slice c2a ((remF l i)).length c2c), (.slice t2a lt.length t2c), (.slice s2a ls.length s2c), .int .i64 words], .bool true]) (by simp [results, Tryd.results13, go_sem, d0, d1, d2, d3]) rfl ?_
              exact ⟨_, _, _, rfl, HUF.out, HCF.out, HTF.out, HSF.out, GC2.out, GT2.out, GS2.out⟩
          · have HR3 : Hid (q2 = true → r = some (setA l i (finF l (l.getD i i0).2.1))) := Lib.hid (fun h => by have := HF2.out; simp only [h, if_true, Bool.false_eq_true, if_false] at this; exact this.symm)
            cases q2
            · go_wp2_with (go_at_call 28; refine (HA2.out _ bs i _ HUQ.out HBQ.out hlt HBL.out _ HQ2.out).mono ?_; rintro e z ⟨v', rfl, hz, hzr⟩; have HUZ := Lib.hid (HUQ.out.trans hz); have HUZ2 := Lib.hid (HUW2.out.trans hz); have HBZ := Lib.hid (HBXQ.out.up hz); obtain ⟨z0, z1, z2, z3⟩ := HBZ.out.all; clear u0 u1 u2 u3)
              go_roundw
              case rel => exact ⟨3, (by simp), by go_num, rfl, rfl, HUZ2.out⟩
              case measure => simp [intOf]
            · obtain rfl := HR3.out rfl
              have HLL : Hid ((setA l i (finF l (l.getD i i0).2.1)).length ≤ 100000) := Lib.hid HLR.out
              go_wp2_with (first | (go_at_call 28; refine (HA2.out _ bs i _ HUQ.out HBQ.out hlt HBL.out _ HQ2.out).mono ?_; rintro e z ⟨v', rfl, hz, hzr⟩; have HUZ := Lib.hid (HUQ.out.trans hz); have HUZ2 := Lib.hid (HUW2.out.trans hz); have HBZ := Lib.hid (HBXQ.out.up hz); obtain ⟨z0, z1, z2, z3⟩ := HBZ.out.all; clear u0 u1 u2 u3; have HDZ0 := Lib.hid (HDXQ.out.up hz); have HZI := Lib.hid (hzr rfl); clear hzr hz) | (go_at_call 27; refine (HCO0.out _ _ _ HUZ.out HZI.out HLL.out).mono ?_; rintro e zz ⟨c2, t2, s2, rfl, hzz, hc2, ht2, hs2, fc2, ft2, fs2⟩; have HDZ := Lib.hid (HDZ0.out.up hzz); obtain ⟨d0, d1, d2, d3⟩ := HDZ.out.all; have df := HDZ.out.frozen; have HSZ := Lib.hid (UBox.lt HDZ0.out); obtain ⟨⟨c2a, c2c, rfl⟩, -⟩ := hc2.slice; obtain ⟨⟨t2a, t2c, rfl⟩, -⟩ := ht2.slice; obtain ⟨⟨s2a, s2c, rfl⟩, -⟩ := hs2.slice; have HUZZ := Lib.hid (HUZ.out.trans hzz); have HC2 := Lib.hid hc2; have HT2 := Lib.hid ht2; have HS2 := Lib.hid hs2; have GC2 := Lib.hid (fc2.le HUZ.out.size); have GT2 := Lib.hid (ft2.le HUZ.out.size); have GS2 := Lib.hid (fs2.le HUZ.out.size); have FC2 := Lib.hid (fc2.ne HSZ.out); have FT2 := Lib.hid (ft2.ne HSZ.out); have FS2 := Lib.hid (fs2.ne HSZ.out); clear hc2 ht2 hs2 fc2 ft2 fs2 hzz))
              have HCF := Lib.hid ((((HC2.out.set FC2.out 0 (.slice c2a ((setA l i (finF l (l.getD i i0).2.1))).length c2c)).set FC2.out 1 (.slice t2a lt.length t2c)).set FC2.out 2 (.slice s2a ls.length s2c)).set FC2.out 3 (.int .i64 words))
              have HTF := Lib.hid ((((HT2.out.set FT2.out 0 (.slice c2a ((setA l i (finF l (l.getD i i0).2.1))).length c2c)).set FT2.out 1 (.slice t2a lt.length t2c)).set FT2.out 2 (.slice s2a ls.length s2c)).set FT2.out 3 (.int .i64 words))
              have HSF := Lib.hid ((((HS2.out.set FS2.out 0 (.slice c2a ((setA l i (finF l (l.getD i i0).2.1))).length c2c)).set FS2.out 1 (.slice t2a lt.length t2c)).set FS2.out 2 (.slice s2a ls.length s2c)).set FS2.out 3 (.int .i64 words))
              have HUF := Lib.hid (((((HUZZ.out).setCell (p := ⟨w.heap.size + 1, 0, none⟩) (by show w.heap.size ≤ w.heap.size + 1; omega) (.slice c2a ((setA l i (finF l (l.getD i i0).2.1))).length c2c)).setCell (p := ⟨w.heap.size + 1, 1, none⟩) (by show w.heap.size ≤ w.heap.size + 1; omega) (.slice t2a lt.length t2c)).setCell (p := ⟨w.heap.size + 1, 2, none⟩) (by show w.heap.size ≤ w.heap.size + 1; omega) (.slice s2a ls.length s2c)).setCell (p := ⟨w.heap.size + 1, 3, none⟩) (by show w.heap.size ≤ w.heap.size + 1; omega) (.int .i64 words))
              go_wp2
              try rw [Exit.noGoto_ret]
              refine bodyPost_ret (v := .tuple #[.agg #[(.slice c2a ((setA l i (finF l (l.getD i i0).2.1))).length c2c), (.slice t2a lt.length t2c), (.slice s2a ls.length s2c), .int .i64 words], .bool true]) (by simp [results, Tryd.results13, go_sem, d0, d1, d2, d3]) rfl ?_
              exact ⟨_, _, _, rfl, HUF.out, HCF.out, HTF.out, HSF.out, GC2.out, GT2.out, GS2.out⟩
          · have HF3 : Hid (scanF l bs (n - (i + 1)) (i + 1) = r) := Lib.hid (by have := HF2.out; simpa using this)
            go_wp2
            go_roundw
            case rel => exact ⟨i + 1, by omega, by go_num, rfl, rfl, HF3.out, HUW.out.trans HUW2.out⟩
            case measure => simp [intOf]; omega
      · obtain rfl : i = n := by omega
        obtain rfl : r = none := by rw [← HF.out, Nat.sub_self]; rfl
        have HUZ := Lib.hid (HUX.out.trans HUW.out)
        have HDZ0 := Lib.hid (HDX.out.up HUW.out)
        have HZI := Lib.hid (HC0.out _ HUZ.out)
        have HLL : Hid (l.length ≤ 100000) := Lib.hid HLR.out
        go_wp2_with (go_at_call 27; refine (HCO0.out _ _ _ HUZ.out HZI.out HLL.out).mono ?_; rintro e zz ⟨c2, t2, s2, rfl, hzz, hc2, ht2, hs2, fc2, ft2, fs2⟩; have HDZ := Lib.hid (HDZ0.out.up hzz); obtain ⟨d0, d1, d2, d3⟩ := HDZ.out.all; have df := HDZ.out.frozen; have HSZ := Lib.hid (UBox.lt HDZ0.out); obtain ⟨⟨c2a, c2c, rfl⟩, -⟩ := hc2.slice; obtain ⟨⟨t2a, t2c, rfl⟩, -⟩ := ht2.slice; obtain ⟨⟨s2a, s2c, rfl⟩, -⟩ := hs2.slice; have HUZZ := Lib.hid (HUZ.out.trans hzz); have HC2 := Lib.hid hc2; have HT2 := Lib.hid ht2; have HS2 := Lib.hid hs2; have GC2 := Lib.hid (fc2.le HUZ.out.size); have GT2 := Lib.hid (ft2.le HUZ.out.size); have GS2 := Lib.hid (fs2.le HUZ.out.size); have FC2 := Lib.hid (fc2.ne HSZ.out); have FT2 := Lib.hid (ft2.ne HSZ.out); have FS2 := Lib.hid (fs2.ne HSZ.out); clear hc2 ht2 hs2 fc2 ft2 fs2 hzz)
        have HCF := Lib.hid ((((HC2.out.set FC2.out 0 (.slice c2a (l).length c2c)).set FC2.out 1 (.slice t2a lt.length t2c)).set FC2.out 2 (.slice s2a ls.length s2c)).set FC2.out 3 (.int .i64 words))
        have HTF := Lib.hid ((((HT2.out.set FT2.out 0 (.slice c2a (l).length c2c)).set FT2.out 1 (.slice t2a lt.length t2c)).set FT2.out 2 (.slice s2a ls.length s2c)).set FT2.out 3 (.int .i64 words))
        have HSF := Lib.hid ((((HS2.out.set FS2.out 0 (.slice c2a (l).length c2c)).set FS2.out 1 (.slice t2a lt.length t2c)).set FS2.out 2 (.slice s2a ls.length s2c)).set FS2.out 3 (.int .i64 words))
        have HUF := Lib.hid (((((HUZZ.out).setCell (p := ⟨w.heap.size + 1, 0, none⟩) (by show w.heap.size ≤ w.heap.size + 1; omega) (.slice c2a (l).length c2c)).setCell (p := ⟨w.heap.size + 1, 1, none⟩) (by show w.heap.size ≤ w.heap.size + 1; omega) (.slice t2a lt.length t2c)).setCell (p := ⟨w.heap.size + 1, 2, none⟩) (by show w.heap.size ≤ w.heap.size + 1; omega) (.slice s2a ls.length s2c)).setCell (p := ⟨w.heap.size + 1, 3, none⟩) (by show w.heap.size ≤ w.heap.size + 1; omega) (.int .i64 words))
        go_wp2
        try rw [Exit.noGoto_ret]
        refine bodyPost_ret (v := .tuple #[.agg #[(.slice c2a (l).length c2c), (.slice t2a lt.length t2c), (.slice s2a ls.length s2c), .int .i64 words], .bool false]) (by simp [results, Tryd.results13, go_sem, d0, d1, d2, d3]) rfl ?_
        exact ⟨_, _, _, rfl, HUF.out, HCF.out, HTF.out, HSF.out, GC2.out, GT2.out, GS2.out⟩
  · have hv1 : (ve != 0) = true := by simpa using hv0
    obtain rfl : r = none := by rw [← HR.out, stepF, HVV.out, if_neg hv0]
    have HZI := Lib.hid (HC0.out _ HUY.out)
    have HLL : Hid (l.length ≤ 100000) := Lib.hid HLR.out
    go_wp2_with (go_at_call 27; refine (HCO0.out _ _ _ HUY.out HZI.out HLL.out).mono ?_; rintro e zz ⟨c2, t2, s2, rfl, hzz, hc2, ht2, hs2, fc2, ft2, fs2⟩; have HDZ := Lib.hid (HDY.out.up hzz); obtain ⟨d0, d1, d2, d3⟩ := HDZ.out.all; have df := HDZ.out.frozen; have HSZ := Lib.hid (UBox.lt HDY.out); obtain ⟨⟨c2a, c2c, rfl⟩, -⟩ := hc2.slice; obtain ⟨⟨t2a, t2c, rfl⟩, -⟩ := ht2.slice; obtain ⟨⟨s2a, s2c, rfl⟩, -⟩ := hs2.slice; have HUZZ := Lib.hid (HUY.out.trans hzz); have HC2 := Lib.hid hc2; have HT2 := Lib.hid ht2; have HS2 := Lib.hid hs2; have GC2 := Lib.hid (fc2.le HUY.out.size); have GT2 := Lib.hid (ft2.le HUY.out.size); have GS2 := Lib.hid (fs2.le HUY.out.size); have FC2 := Lib.hid (fc2.ne HSZ.out); have FT2 := Lib.hid (ft2.ne HSZ.out); have FS2 := Lib.hid (fs2.ne HSZ.out); clear hc2 ht2 hs2 fc2 ft2 fs2 hzz)
    have HCF := Lib.hid ((((HC2.out.set FC2.out 0 (.slice c2a (l).length c2c)).set FC2.out 1 (.slice t2a lt.length t2c)).set FC2.out 2 (.slice s2a ls.length s2c)).set FC2.out 3 (.int .i64 words))
    have HTF := Lib.hid ((((HT2.out.set FT2.out 0 (.slice c2a (l).length c2c)).set FT2.out 1 (.slice t2a lt.length t2c)).set FT2.out 2 (.slice s2a ls.length s2c)).set FT2.out 3 (.int .i64 words))
    have HSF := Lib.hid ((((HS2.out.set FS2.out 0 (.slice c2a (l).length c2c)).set FS2.out 1 (.slice t2a lt.length t2c)).set FS2.out 2 (.slice s2a ls.length s2c)).set FS2.out 3 (.int .i64 words))
    have HUF := Lib.hid (((((HUZZ.out).setCell (p := ⟨w.heap.size + 1, 0, none⟩) (by show w.heap.size ≤ w.heap.size + 1; omega) (.slice c2a (l).length c2c)).setCell (p := ⟨w.heap.size + 1, 1, none⟩) (by show w.heap.size ≤ w.heap.size + 1; omega) (.slice t2a lt.length t2c)).setCell (p := ⟨w.heap.size + 1, 2, none⟩) (by show w.heap.size ≤ w.heap.size + 1; omega) (.slice s2a ls.length s2c)).setCell (p := ⟨w.heap.size + 1, 3, none⟩) (by show w.heap.size ≤ w.heap.size + 1; omega) (.int .i64 words))
    go_wp2
    try rw [Exit.noGoto_ret]
    refine bodyPost_ret (v := .tuple #[.agg #[(.slice c2a (l).length c2c), (.slice t2a lt.length t2c), (.slice s2a ls.length s2c), .int .i64 words], .bool false]) (by simp [results, Tryd.results13, go_sem, d0, d1, d2, d3]) rfl ?_
    exact ⟨_, _, _, rfl, HUF.out, HCF.out, HTF.out, HSF.out, GC2.out, GT2.out, GS2.out⟩
end Go.Proofs.YtbpojmhgifgfdaaDoor
