/-
  Optimize of both sides. Printed by mkPeOp.py.
-/
import Derived.Test.YtbpojmhgifgfdaaDoorPeE
import Derived.Test.YtbpojmhgifgfdaaDoorPeSr
import Derived.Deep.RegionWith
namespace Go.Proofs.YtbpojmhgifgfdaaDoor
open Go.ChangeShapes Go.WideShapes Go.ChangeAt Go.RowKit
set_option linter.unusedVariables false
set_option linter.unusedSimpArgs false
set_option maxRecDepth 100000

theorem UBox.put {w : World} {g : Nat} {t : TypeId} {a b c d : Value} (h : UBox w g t a b c d) (a' b' c' d' : Value) :
    UBox ((((w.setCell ⟨g, 0, none⟩ a').setCell ⟨g, 1, none⟩ b').setCell ⟨g, 2, none⟩ c').setCell ⟨g, 3, none⟩ d') g t a' b' c' d' :=
  set_heap (o := 3) (set_heap (o := 2) (set_heap (o := 1) (set_heap (o := 0) h a') b') c') d'
theorem UBox.set4 {w : World} {g k : Nat} {t : TypeId} {a b c d : Value} (h : UBox w g t a b c d) (hk : k ≠ g) (a' b' c' d' : Value) :
    UBox ((((w.setCell ⟨k, 0, none⟩ a').setCell ⟨k, 1, none⟩ b').setCell ⟨k, 2, none⟩ c').setCell ⟨k, 3, none⟩ d') g t a b c d := (((h.set hk 0 a').set hk 1 b').set hk 2 c').set hk 3 d'
theorem InsAt.set4 {w : World} {v : Value} {l : List Ins} (h : InsAt w v l) {b : Nat} (hb : ∀ g, blk v = some g → g ≠ b) (p q r s : Value) : InsAt ((((w.setCell ⟨b, 0, none⟩ p).setCell ⟨b, 1, none⟩ q).setCell ⟨b, 2, none⟩ r).setCell ⟨b, 3, none⟩ s) v l := (((h.set hb 0 p).set hb 1 q).set hb 2 r).set hb 3 s
theorem TypAt.set4 {w : World} {v : Value} {l : List Typ} (h : TypAt w v l) {b : Nat} (hb : ∀ g, blk v = some g → g ≠ b) (p q r s : Value) : TypAt ((((w.setCell ⟨b, 0, none⟩ p).setCell ⟨b, 1, none⟩ q).setCell ⟨b, 2, none⟩ r).setCell ⟨b, 3, none⟩ s) v l := (((h.set hb 0 p).set hb 1 q).set hb 2 r).set hb 3 s
theorem SltAt.set4 {w : World} {v : Value} {l : List Slt} (h : SltAt w v l) {b : Nat} (hb : ∀ g, blk v = some g → g ≠ b) (p q r s : Value) : SltAt ((((w.setCell ⟨b, 0, none⟩ p).setCell ⟨b, 1, none⟩ q).setCell ⟨b, 2, none⟩ r).setCell ⟨b, 3, none⟩ s) v l := (((h.set hb 0 p).set hb 1 q).set hb 2 r).set hb 3 s
theorem Up.set4 {w w' : World} (h : Up w w') {b : Nat} (hb : w.heap.size ≤ b) (p q r s : Value) : Up w ((((w'.setCell ⟨b, 0, none⟩ p).setCell ⟨b, 1, none⟩ q).setCell ⟨b, 2, none⟩ r).setCell ⟨b, 3, none⟩ s) := (((h.setCell (p := ⟨b, 0, none⟩) hb p).setCell (p := ⟨b, 1, none⟩) hb q).setCell (p := ⟨b, 2, none⟩) hb r).setCell (p := ⟨b, 3, none⟩) hb s

set_option maxHeartbeats 16000000 in
theorem pe_Optimize (cv tv sv : Value) (words : Int) (l : List Ins) (lt : List Typ) (ls : List Slt) (w : World) (hT : ITab w) (hc : InsAt w cv l) (ht : TypAt w tv lt) (hs : SltAt w sv ls)
    (h1 : l.length ≤ 100000) (h2 : lt.length ≤ 100000) (h3 : ls.length ≤ 100000) (kk : Nat) (r : List Ins) (hO : OptTo lt words kk l r) (hkk : kk ≤ 1000000000) :
    Calls Tryd.prog 16 #[.agg #[cv, tv, sv, .int .i64 words]] w fun e w' => ∃ c' t' s', e = .returned (.tuple #[.agg #[c', t', s', .int .i64 words], .int .i64 kk]) ∧ Up w w' ∧ InsAt w' c' r ∧ TypAt w' t' lt ∧ SltAt w' s' ls := by
  have HT := Lib.hid hT
  have HI := Lib.hid (fun w' (hu : Up w w') => (⟨hc.up hu, ht.up hu, hs.up hu⟩ : InsAt w' cv l ∧ TypAt w' tv lt ∧ SltAt w' sv ls))
  obtain ⟨⟨ca, cc, rfl⟩, cm⟩ := hc.slice
  obtain ⟨⟨ta, tc, rfl⟩, tm⟩ := ht.slice
  obtain ⟨⟨sa, sc, rfl⟩, sm⟩ := hs.slice
  obtain ⟨n, hn⟩ : ∃ n, l.length = n := ⟨_, rfl⟩
  obtain ⟨m, hm⟩ : ∃ m, lt.length = m := ⟨_, rfl⟩
  obtain ⟨k, hk⟩ : ∃ k, ls.length = k := ⟨_, rfl⟩
  rw [hn, hm, hk] at HI
  rw [hn] at h1
  rw [hn, hm, hk]
  have HN := Lib.hid hn
  have HM := Lib.hid (show lt.length ≤ 100000 from h2)
  have HK := Lib.hid (show ls.length ≤ 100000 from h3)
  have HOO := Lib.hid hO
  clear hn hm hk hc ht hs hT h2 h3 hO
  have HU1 : Hid (Up w ((w.alloc (.cells #[.slice ca n cc, .slice ta m tc, .slice sa k sc, .int .i64 words] 33)).alloc (.cells #[.slice none 0 0, .slice none 0 0, .slice none 0 0, .int .i64 0] 33))) := Lib.hid (((Up.refl w).alloc _).alloc _)
  have HB1 : Hid (UBox ((w.alloc (.cells #[.slice ca n cc, .slice ta m tc, .slice sa k sc, .int .i64 words] 33)).alloc (.cells #[.slice none 0 0, .slice none 0 0, .slice none 0 0, .int .i64 0] 33)) w.heap.size 33 (.slice ca n cc) (.slice ta m tc) (.slice sa k sc) (.int .i64 words)) := Lib.hid (UBox.up (UBox.new w _ _ _ _ _) ((Up.refl _).alloc _))
  have HD1 : Hid (UBox ((w.alloc (.cells #[.slice ca n cc, .slice ta m tc, .slice sa k sc, .int .i64 words] 33)).alloc (.cells #[.slice none 0 0, .slice none 0 0, .slice none 0 0, .int .i64 0] 33)) (w.heap.size + 1) 33 (.slice none 0 0) (.slice none 0 0) (.slice none 0 0) (.int .i64 0)) := Lib.hid (UBox.new2 w _ _ _ _ _ _ _ _ _ _)
  go_enter Tryd.func16, Tryd.ntmps16
  go_wp2
  go_loopw [4] (fun mv wr => ∃ (q j : Nat) (l' : List Ins) (cv tv sv : Value), mv = .int .i64 q ∧ q + j = kk ∧ OptTo lt words j l' r ∧ UBox wr w.heap.size 33 cv tv sv (.int .i64 words) ∧ UBox wr (w.heap.size + 1) 33 (.slice none 0 0) (.slice none 0 0) (.slice none 0 0) (.int .i64 0) ∧ InsAt wr cv l' ∧ TypAt wr tv lt ∧ SltAt wr sv ls ∧ l'.length ≤ n ∧ Up w wr) (fun mv _ => kk - (intOf mv).toNat)
  case atStart => exact ⟨0, kk, l, _, _, _, rfl, by omega, HOO.out, HB1.out, HD1.out, (HI.out _ HU1.out).1, (HI.out _ HU1.out).2.1, (HI.out _ HU1.out).2.2, by rw [HN.out]; exact Nat.le_refl _, HU1.out⟩
  case round =>
    rename World => wr
    obtain ⟨q, j, l', cv, tv, sv, rfl, hqj, hO, hB, hD, hc, ht, hs, hl, hU⟩ := hrel
    have HST := Lib.hid (pe_Step cv tv sv words l' lt ls wr (HT.out.up hU) hc ht hs (by omega) HM.out HK.out)
    obtain ⟨⟨xa, xc, rfl⟩, -⟩ := hc.slice
    obtain ⟨⟨ya, yc, rfl⟩, -⟩ := ht.slice
    obtain ⟨⟨za, zc, rfl⟩, -⟩ := hs.slice
    have HO := Lib.hid hO
    have HB := Lib.hid hB
    have HD := Lib.hid hD
    have HU := Lib.hid hU
    obtain ⟨b0, b1, b2, b3⟩ := hB.all
    clear hO hB hD hU hc ht hs
    obtain ⟨so, hso⟩ : ∃ so, stepF l' lt words = so := ⟨_, rfl⟩
    rw [hso] at HST
    have HSO := Lib.hid hso
    clear hso
    cases so with
    | none =>
      obtain ⟨rfl, hr⟩ : j = 0 ∧ r = l' := by
        have := HO.out
        cases j with
        | zero => exact ⟨rfl, this.2⟩
        | succ j => obtain ⟨l2, h, _⟩ := this; rw [HSO.out] at h; cases h
      replace hr := hr.symm
      subst hr
      go_wp2_with (go_at_call 13; refine HST.out.mono ?_; rintro e z ⟨c2, t2, s2, rfl, hz, hc2, ht2, hs2, fc2, ft2, fs2⟩; obtain ⟨⟨c2a, c2c, rfl⟩, -⟩ := hc2.slice; obtain ⟨⟨t2a, t2c, rfl⟩, -⟩ := ht2.slice; obtain ⟨⟨s2a, s2c, rfl⟩, -⟩ := hs2.slice; have hc2 : InsAt z (.slice c2a l'.length c2c) l' := hc2; have HZ := Lib.hid hz; have HUZ := Lib.hid (HU.out.trans hz); have HBZ := Lib.hid (HB.out.up hz); have HDZ := Lib.hid (HD.out.up hz); have HLB := Lib.hid (UBox.lt HB.out); have HLD := Lib.hid (UBox.lt HD.out); have FCB := Lib.hid (fc2.ne HLB.out); have FTB := Lib.hid (ft2.ne HLB.out); have FSB := Lib.hid (fs2.ne HLB.out); have FCD := Lib.hid (fc2.ne HLD.out); have FTD := Lib.hid (ft2.ne HLD.out); have FSD := Lib.hid (fs2.ne HLD.out); have HC2 := Lib.hid hc2; have HT2 := Lib.hid ht2; have HS2 := Lib.hid hs2; clear hz hc2 ht2 hs2 fc2 ft2 fs2 b0 b1 b2 b3; obtain ⟨b0, b1, b2, b3⟩ := HBZ.out.all; obtain ⟨d0, d1, d2, d3⟩ := HDZ.out.all; have bf := HBZ.out.frozen; have df := HDZ.out.frozen; have hlb : w.heap.size < z.heap.size := UBox.lt HBZ.out; have hld : w.heap.size + 1 < z.heap.size := UBox.lt HDZ.out)
      have HA := Lib.hid ((Up.refl (((((z).setCell ⟨w.heap.size + 1, 0, none⟩ (.slice c2a l'.length c2c)).setCell ⟨w.heap.size + 1, 1, none⟩ (.slice t2a lt.length t2c)).setCell ⟨w.heap.size + 1, 2, none⟩ (.slice s2a ls.length s2c)).setCell ⟨w.heap.size + 1, 3, none⟩ (.int .i64 words))).alloc (.cells #[.slice c2a l'.length c2c, .slice t2a lt.length t2c, .slice s2a ls.length s2c, .int .i64 words] 33))
      have HCF := Lib.hid ((HC2.out.set4 FCD.out (.slice c2a l'.length c2c) (.slice t2a lt.length t2c) (.slice s2a ls.length s2c) (.int .i64 words)).up HA.out)
      have HTF := Lib.hid ((HT2.out.set4 FTD.out (.slice c2a l'.length c2c) (.slice t2a lt.length t2c) (.slice s2a ls.length s2c) (.int .i64 words)).up HA.out)
      have HSF := Lib.hid ((HS2.out.set4 FSD.out (.slice c2a l'.length c2c) (.slice t2a lt.length t2c) (.slice s2a ls.length s2c) (.int .i64 words)).up HA.out)
      have HUF := Lib.hid ((HUZ.out.set4 (b := w.heap.size + 1) (by omega) (.slice c2a l'.length c2c) (.slice t2a lt.length t2c) (.slice s2a ls.length s2c) (.int .i64 words)).alloc (.cells #[.slice c2a l'.length c2c, .slice t2a lt.length t2c, .slice s2a ls.length s2c, .int .i64 words] 33))
      obtain ⟨e0, e1, e2, e3⟩ := ((HDZ.out.put (.slice c2a l'.length c2c) (.slice t2a lt.length t2c) (.slice s2a ls.length s2c) (.int .i64 words)).up HA.out).all
      refine bodyPost_ret (v := .tuple #[.agg #[.slice c2a l'.length c2c, .slice t2a lt.length t2c, .slice s2a ls.length s2c, .int .i64 words], .int .i64 q]) (by simp [results, Tryd.results16, go_sem, e0, e1, e2, e3]) rfl ?_
      exact ⟨_, _, _, by rw [show kk = q by omega], HUF.out, HCF.out, HTF.out, HSF.out⟩
    | some l2 =>
      obtain ⟨j2, rfl, HO2⟩ : ∃ j2, j = j2 + 1 ∧ OptTo lt words j2 l2 r := by
        have := HO.out
        cases j with
        | zero => rw [this.1] at HSO; exact nomatch HSO.out
        | succ j => obtain ⟨l3, h, h2⟩ := this; rw [HSO.out] at h; cases h; exact ⟨j, rfl, h2⟩
      have hl2 : l2.length ≤ n := Nat.le_trans (stepF_len HSO.out) hl
      have HO2 := Lib.hid HO2
      go_wp2_with (go_at_call 13; refine HST.out.mono ?_; rintro e z ⟨c2, t2, s2, rfl, hz, hc2, ht2, hs2, fc2, ft2, fs2⟩; obtain ⟨⟨c2a, c2c, rfl⟩, -⟩ := hc2.slice; obtain ⟨⟨t2a, t2c, rfl⟩, -⟩ := ht2.slice; obtain ⟨⟨s2a, s2c, rfl⟩, -⟩ := hs2.slice; have hc2 : InsAt z (.slice c2a l2.length c2c) l2 := hc2; have HZ := Lib.hid hz; have HUZ := Lib.hid (HU.out.trans hz); have HBZ := Lib.hid (HB.out.up hz); have HDZ := Lib.hid (HD.out.up hz); have HLB := Lib.hid (UBox.lt HB.out); have HLD := Lib.hid (UBox.lt HD.out); have FCB := Lib.hid (fc2.ne HLB.out); have FTB := Lib.hid (ft2.ne HLB.out); have FSB := Lib.hid (fs2.ne HLB.out); have FCD := Lib.hid (fc2.ne HLD.out); have FTD := Lib.hid (ft2.ne HLD.out); have FSD := Lib.hid (fs2.ne HLD.out); have HC2 := Lib.hid hc2; have HT2 := Lib.hid ht2; have HS2 := Lib.hid hs2; clear hz hc2 ht2 hs2 fc2 ft2 fs2 b0 b1 b2 b3; obtain ⟨b0, b1, b2, b3⟩ := HBZ.out.all; obtain ⟨d0, d1, d2, d3⟩ := HDZ.out.all; have bf := HBZ.out.frozen; have df := HDZ.out.frozen; have hlb : w.heap.size < z.heap.size := UBox.lt HBZ.out; have hld : w.heap.size + 1 < z.heap.size := UBox.lt HDZ.out)
      have HA := Lib.hid ((Up.refl (((((z).setCell ⟨w.heap.size, 0, none⟩ (.slice c2a l2.length c2c)).setCell ⟨w.heap.size, 1, none⟩ (.slice t2a lt.length t2c)).setCell ⟨w.heap.size, 2, none⟩ (.slice s2a ls.length s2c)).setCell ⟨w.heap.size, 3, none⟩ (.int .i64 words))).alloc (.cells #[.slice c2a l2.length c2c, .slice t2a lt.length t2c, .slice s2a ls.length s2c, .int .i64 words] 33))
      have HCF := Lib.hid ((HC2.out.set4 FCB.out (.slice c2a l2.length c2c) (.slice t2a lt.length t2c) (.slice s2a ls.length s2c) (.int .i64 words)).up HA.out)
      have HTF := Lib.hid ((HT2.out.set4 FTB.out (.slice c2a l2.length c2c) (.slice t2a lt.length t2c) (.slice s2a ls.length s2c) (.int .i64 words)).up HA.out)
      have HSF := Lib.hid ((HS2.out.set4 FSB.out (.slice c2a l2.length c2c) (.slice t2a lt.length t2c) (.slice s2a ls.length s2c) (.int .i64 words)).up HA.out)
      have HUF := Lib.hid ((HUZ.out.set4 (b := w.heap.size) (Nat.le_refl _) (.slice c2a l2.length c2c) (.slice t2a lt.length t2c) (.slice s2a ls.length s2c) (.int .i64 words)).alloc (.cells #[.slice c2a l2.length c2c, .slice t2a lt.length t2c, .slice s2a ls.length s2c, .int .i64 words] 33))
      have HBF := Lib.hid ((HBZ.out.put (.slice c2a l2.length c2c) (.slice t2a lt.length t2c) (.slice s2a ls.length s2c) (.int .i64 words)).up HA.out)
      have HDF := Lib.hid ((HDZ.out.set4 (k := w.heap.size) (by omega) (.slice c2a l2.length c2c) (.slice t2a lt.length t2c) (.slice s2a ls.length s2c) (.int .i64 words)).up HA.out)
      go_roundw
      case rel => exact ⟨q + 1, j2, l2, _, _, _, by go_num, by omega, HO2.out, HBF.out, HDF.out, HCF.out, HTF.out, HSF.out, hl2, HUF.out⟩
      case measure => simp [intOf]; omega

set_option maxHeartbeats 16000000 in
theorem r50_Optimize (cv tv sv : Value) (words : Int) (l : List Ins) (lt : List Typ) (ls : List Slt) (w : World) (hc : InsAt w cv l) (ht : TypAt w tv lt) (hs : SltAt w sv ls)
    (h1 : l.length ≤ 100000) (h2 : lt.length ≤ 100000) (kk : Nat) (r : List Ins) (hO : OptTo lt words kk l r) (hkk : kk ≤ 1000000000) :
    Calls Tryd.prog 17 #[.agg #[cv, tv, sv, .int .i64 words]] w fun e w' => ∃ c', e = .returned (.tuple #[.agg #[c', tv, sv, .int .i64 words], .int .i64 kk]) ∧ Up w w' ∧ InsAt w' c' r := by
  have HST0 := Lib.hid (fun cv l' w' (hu : Up w w') (hc : InsAt w' cv l') (h1 : l'.length ≤ 100000) => r50_Step cv tv sv words l' lt ls w' hc (ht.up hu) (hs.up hu) h1 h2)
  have HC0 := Lib.hid hc
  obtain ⟨⟨ca, cc, rfl⟩, cm⟩ := hc.slice
  obtain ⟨⟨ta, tc, rfl⟩, tm⟩ := ht.slice
  obtain ⟨⟨sa, sc, rfl⟩, sm⟩ := hs.slice
  obtain ⟨n, hn⟩ : ∃ n, l.length = n := ⟨_, rfl⟩
  obtain ⟨m, hm⟩ : ∃ m, lt.length = m := ⟨_, rfl⟩
  obtain ⟨k, hk⟩ : ∃ k, ls.length = k := ⟨_, rfl⟩
  rw [hm, hk] at HST0
  rw [hn] at h1 HC0
  rw [hn, hm, hk]
  have HN := Lib.hid hn
  have HOO := Lib.hid hO
  clear hn hm hk hc ht hs h2 hO
  have HU1 : Hid (Up w ((w.alloc (.cells #[.slice ca n cc, .slice ta m tc, .slice sa k sc, .int .i64 words] 31)).alloc (.cells #[.slice none 0 0, .slice none 0 0, .slice none 0 0, .int .i64 0] 31))) := Lib.hid (((Up.refl w).alloc _).alloc _)
  have HB1 : Hid (UBox ((w.alloc (.cells #[.slice ca n cc, .slice ta m tc, .slice sa k sc, .int .i64 words] 31)).alloc (.cells #[.slice none 0 0, .slice none 0 0, .slice none 0 0, .int .i64 0] 31)) w.heap.size 31 (.slice ca n cc) (.slice ta m tc) (.slice sa k sc) (.int .i64 words)) := Lib.hid (UBox.up (UBox.new w _ _ _ _ _) ((Up.refl _).alloc _))
  have HD1 : Hid (UBox ((w.alloc (.cells #[.slice ca n cc, .slice ta m tc, .slice sa k sc, .int .i64 words] 31)).alloc (.cells #[.slice none 0 0, .slice none 0 0, .slice none 0 0, .int .i64 0] 31)) (w.heap.size + 1) 31 (.slice none 0 0) (.slice none 0 0) (.slice none 0 0) (.int .i64 0)) := Lib.hid (UBox.new2 w _ _ _ _ _ _ _ _ _ _)
  go_enter Tryd.func17, Tryd.ntmps17
  go_wp2
  go_loopw [4] (fun mv wr => ∃ (q j : Nat) (l' : List Ins) (cv : Value), mv = .int .i64 q ∧ q + j = kk ∧ OptTo lt words j l' r ∧ UBox wr w.heap.size 31 cv (.slice ta m tc) (.slice sa k sc) (.int .i64 words) ∧ UBox wr (w.heap.size + 1) 31 (.slice none 0 0) (.slice none 0 0) (.slice none 0 0) (.int .i64 0) ∧ InsAt wr cv l' ∧ (InsAt w cv l' ∨ Fresh (w.heap.size + 2) cv) ∧ l'.length ≤ n ∧ Up w wr) (fun mv _ => kk - (intOf mv).toNat)
  case atStart => exact ⟨0, kk, l, _, rfl, by omega, HOO.out, HB1.out, HD1.out, HC0.out.up HU1.out, .inl HC0.out, by rw [HN.out]; exact Nat.le_refl _, HU1.out⟩
  case round =>
    rename World => wr
    obtain ⟨q, j, l', cv, rfl, hqj, hO, hB, hD, hc, hcf, hl, hU⟩ := hrel
    have HST := Lib.hid (HST0.out cv l' wr hU hc (by omega))
    obtain ⟨⟨xa, xc, rfl⟩, -⟩ := hc.slice
    have HCW := Lib.hid hc
    have HCF0 := Lib.hid hcf
    have HO := Lib.hid hO
    have HB := Lib.hid hB
    have HD := Lib.hid hD
    have HU := Lib.hid hU
    obtain ⟨b0, b1, b2, b3⟩ := hB.all
    have hlw : w.heap.size + 1 < wr.heap.size := UBox.lt hD
    clear hO hB hD hU hc hcf
    obtain ⟨so, hso⟩ : ∃ so, stepF l' lt words = so := ⟨_, rfl⟩
    rw [hso] at HST
    have HSO := Lib.hid hso
    clear hso
    cases so with
    | none =>
      obtain ⟨rfl, hr⟩ : j = 0 ∧ r = l' := by
        have := HO.out
        cases j with
        | zero => exact ⟨rfl, this.2⟩
        | succ j => obtain ⟨l2, h, _⟩ := this; rw [HSO.out] at h; cases h
      replace hr := hr.symm
      subst hr
      go_wp2_with (go_at_call 14; refine HST.out.mono ?_; rintro e z ⟨c2, rfl, hz, hc2, hfc⟩; have hc2 : InsAt z c2 l' := hc2; obtain ⟨⟨c2a, c2c, rfl⟩, -⟩ := hc2.slice; have HZ := Lib.hid hz; have HUZ := Lib.hid (HU.out.trans hz); have HBZ := Lib.hid (HB.out.up hz); have HDZ := Lib.hid (HD.out.up hz); have HCZ := Lib.hid (HCW.out.up hz); have HC2 := Lib.hid hc2; have HFC := Lib.hid hfc; clear hz hc2 hfc b0 b1 b2 b3; obtain ⟨b0, b1, b2, b3⟩ := HBZ.out.all; obtain ⟨d0, d1, d2, d3⟩ := HDZ.out.all; have bf := HBZ.out.frozen; have df := HDZ.out.frozen; have hlb : w.heap.size < z.heap.size := UBox.lt HBZ.out; have hld : w.heap.size + 1 < z.heap.size := UBox.lt HDZ.out)
      have HA := Lib.hid ((Up.refl (((((z).setCell ⟨w.heap.size + 1, 0, none⟩ (.slice xa l'.length xc)).setCell ⟨w.heap.size + 1, 1, none⟩ (.slice ta m tc)).setCell ⟨w.heap.size + 1, 2, none⟩ (.slice sa k sc)).setCell ⟨w.heap.size + 1, 3, none⟩ (.int .i64 words))).alloc (.cells #[.slice c2a l'.length c2c, .slice ta m tc, .slice sa k sc, .int .i64 words] 31))
      have HUF := Lib.hid ((HUZ.out.set4 (b := w.heap.size + 1) (by omega) (.slice xa l'.length xc) (.slice ta m tc) (.slice sa k sc) (.int .i64 words)).alloc (.cells #[.slice c2a l'.length c2c, .slice ta m tc, .slice sa k sc, .int .i64 words] 31))
      have HCF := Lib.hid (HCF0.out.elim (fun h => h.up HUF.out) (fun h => (HCZ.out.set4 (b := w.heap.size + 1) (h.ne (by omega)) (.slice xa l'.length xc) (.slice ta m tc) (.slice sa k sc) (.int .i64 words)).up HA.out))
      obtain ⟨e0, e1, e2, e3⟩ := ((HDZ.out.put (.slice xa l'.length xc) (.slice ta m tc) (.slice sa k sc) (.int .i64 words)).up HA.out).all
      refine bodyPost_ret (v := .tuple #[.agg #[.slice xa l'.length xc, .slice ta m tc, .slice sa k sc, .int .i64 words], .int .i64 q]) (by simp [results, Tryd.results17, go_sem, e0, e1, e2, e3]) rfl ?_
      exact ⟨_, by rw [show kk = q by omega], HUF.out, HCF.out⟩
    | some l2 =>
      obtain ⟨j2, rfl, HO2⟩ : ∃ j2, j = j2 + 1 ∧ OptTo lt words j2 l2 r := by
        have := HO.out
        cases j with
        | zero => rw [this.1] at HSO; exact nomatch HSO.out
        | succ j => obtain ⟨l3, h, h2⟩ := this; rw [HSO.out] at h; cases h; exact ⟨j, rfl, h2⟩
      have hl2 : l2.length ≤ n := Nat.le_trans (stepF_len HSO.out) hl
      have HO2 := Lib.hid HO2
      go_wp2_with (go_at_call 14; refine HST.out.mono ?_; rintro e z ⟨c2, rfl, hz, hc2, hfc⟩; have hc2 : InsAt z c2 l2 := hc2; obtain ⟨⟨c2a, c2c, rfl⟩, -⟩ := hc2.slice; have HZ := Lib.hid hz; have HUZ := Lib.hid (HU.out.trans hz); have HBZ := Lib.hid (HB.out.up hz); have HDZ := Lib.hid (HD.out.up hz); have HCZ := Lib.hid (HCW.out.up hz); have HC2 := Lib.hid hc2; have HFC := Lib.hid hfc; clear hz hc2 hfc b0 b1 b2 b3; obtain ⟨b0, b1, b2, b3⟩ := HBZ.out.all; obtain ⟨d0, d1, d2, d3⟩ := HDZ.out.all; have bf := HBZ.out.frozen; have df := HDZ.out.frozen; have hlb : w.heap.size < z.heap.size := UBox.lt HBZ.out; have hld : w.heap.size + 1 < z.heap.size := UBox.lt HDZ.out)
      have hfc2 := HFC.out rfl
      have HA := Lib.hid ((Up.refl (((((z).setCell ⟨w.heap.size, 0, none⟩ (.slice c2a l2.length c2c)).setCell ⟨w.heap.size, 1, none⟩ (.slice ta m tc)).setCell ⟨w.heap.size, 2, none⟩ (.slice sa k sc)).setCell ⟨w.heap.size, 3, none⟩ (.int .i64 words))).alloc (.cells #[.slice c2a l2.length c2c, .slice ta m tc, .slice sa k sc, .int .i64 words] 31))
      have HCF := Lib.hid ((HC2.out.set4 (b := w.heap.size) (hfc2.ne (by omega)) (.slice c2a l2.length c2c) (.slice ta m tc) (.slice sa k sc) (.int .i64 words)).up HA.out)
      have HUF := Lib.hid ((HUZ.out.set4 (b := w.heap.size) (Nat.le_refl _) (.slice c2a l2.length c2c) (.slice ta m tc) (.slice sa k sc) (.int .i64 words)).alloc (.cells #[.slice c2a l2.length c2c, .slice ta m tc, .slice sa k sc, .int .i64 words] 31))
      have HBF := Lib.hid ((HBZ.out.put (.slice c2a l2.length c2c) (.slice ta m tc) (.slice sa k sc) (.int .i64 words)).up HA.out)
      have HDF := Lib.hid ((HDZ.out.set4 (k := w.heap.size) (by omega) (.slice c2a l2.length c2c) (.slice ta m tc) (.slice sa k sc) (.int .i64 words)).up HA.out)
      go_roundw
      case rel => exact ⟨q + 1, j2, l2, _, by go_num, by omega, HO2.out, HBF.out, HDF.out, HCF.out, .inr (hfc2.le (by omega)), hl2, HUF.out⟩
      case measure => simp [intOf]; omega
end Go.Proofs.YtbpojmhgifgfdaaDoor
