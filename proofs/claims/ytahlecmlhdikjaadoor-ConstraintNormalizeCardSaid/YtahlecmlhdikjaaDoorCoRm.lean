/-
  Normalize of the reference: the walk (printed by tools/mkCoRm.py).
-/
import Derived.Test.YtahlecmlhdikjaaDoorCoSr
import Derived.Test.YtahlecmlhdikjaaDoorCoRt
import Derived.Test.YtahlecmlhdikjaaDoorCoNm
import Derived.Test.YtahlecmlhdikjaaDoorCoCw
import Derived.BigRegion
namespace Go.Proofs.YtahlecmlhdikjaaDoor
open Go.ChangeShapes Go.WideShapes Go.ChangeAt Go.RowKit
set_option linter.unusedVariables false
set_option linter.unusedSimpArgs false
set_option maxRecDepth 100000

def StrCut (x : World) (Km : Int) (vm : Value) (bm g : Bool) (s12 s13 : Value) (wx : World) : Prop :=
  ∃ p : Nat, s12 = .pointer (some ⟨p, 0, none⟩) ∧ s13 = .bool g ∧ x.heap.size ≤ p ∧ Up x wx ∧ wx.heap[p]? = some (.cells #[.int .i64 Km, vm, .bool bm] 26 (0, 0))
theorem normR_cons (c : Con) (r out : List Con) (sat : Bool) : normR (c :: r) out sat = if (tightF c).2.2 ≠ 0 then (([], false), (tightF c).2.2)
    else if (tightF c).2.1 ≠ 0 then normR r out (sat && decide ((tightF c).2.1 ≠ 2))
    else normR r (putR (tightF c).1 out).1 (sat && (putR (tightF c).1 out).2) := rfl
theorem findR_cons (l : List Mono) (x : Con) (r : List Con) : findR l (x :: r) = if eqM x.2.1 l then 0 else findR l r + 1 := rfl
theorem pick_con {b : Option Nat} {w : World} {Ko Kt : Int} {lo lt : List Mono} {bo bt : Bool} {a1 a2 : Option Addr} {n1 n2 c1 c2 : Nat} (h1 : PartN b w (.slice a1 n1 c1) lo) (h2 : PartN b w (.slice a2 n2 c2) lt) (k1 : In64 Ko) (k2 : In64 Kt) :
    ∃ Km lm bm am nm cm, keepC (Ko, lo, bo) (Kt, lt, bt) = (Km, lm, bm) ∧ (if keepL Ko Kt bo bt then (Value.agg #[.int .i64 Ko, .slice a1 n1 c1, .bool bo]) else .agg #[.int .i64 Kt, .slice a2 n2 c2, .bool bt]) = .agg #[.int .i64 Km, .slice am nm cm, .bool bm] ∧ PartN b w (.slice am nm cm) lm ∧ In64 Km := by
  unfold keepC
  dsimp only
  cases keepL Ko Kt bo bt
  · exact ⟨Kt, lt, bt, a2, n2, c2, rfl, rfl, h2, k2⟩
  · exact ⟨Ko, lo, bo, a1, n1, c1, rfl, rfl, h1, k1⟩

set_option maxHeartbeats 16000000 in
theorem r06_Normalize (v : Value) (cs : List Con) (w : World) (hv : ConsAt w v cs) (hn : cs.length ≤ 300) (hlen : ∀ c ∈ cs, c.2.1.length ≤ 1000) :
    Calls Tryd.prog 24 #[v] w (NormR w (normF cs)) := by
  rw [← refN_eq]
  obtain ⟨i0, hi0, hz0, hz1, hz2⟩ := info_parts con_info
  obtain ⟨r, hr⟩ : ∃ r, refN cs = r := ⟨_, rfl⟩
  rw [hr]
  obtain ⟨⟨a, cap, rfl⟩, hmax⟩ := hv.slice
  obtain ⟨n, hnn⟩ : ∃ n, cs.length = n := ⟨_, rfl⟩
  obtain ⟨q, hq⟩ : ∃ q, normR cs [] true = q := ⟨_, rfl⟩
  have HR : Hid ((if 256 < n then ([], false, 2) else if q.2 ≠ 0 then ([], false, q.2) else if q.1.2 then (sortR q.1.1 [], true, 0) else ([], false, 0)) = r) := Lib.hid (by
    rw [← hr]; unfold refN; rw [hq, hnn])
  have HV : Hid (ConsAt w (.slice a n cap) cs) := Lib.hid (by rw [← hnn]; exact hv)
  rw [hnn] at hn hmax ⊢
  have hnI : (n : Int) ≤ 300 := by omega
  have HN := Lib.hid hnn
  have HL := Lib.hid hlen
  have HQ := Lib.hid hq
  obtain ⟨B, hB⟩ : ∃ B, w.heap.size = B := ⟨_, rfl⟩
  have HB := Lib.hid hB
  clear hr hnn hq hv hlen hmax hB
  by_cases h256 : 256 < n
  · have hI : (256 : Int) < (n : Int) := by omega
    have HG : Hid (r = ([], false, 2)) := Lib.hid (by rw [← HR.out, if_pos h256])
    go_enter Tryd.func24, Tryd.ntmps24
    go_wp2
    go_ret3
    exact ⟨⟨.slice none 0 0, by rw [HG.out]; first | rfl | simp, by rw [HG.out]; exact cons_nil _⟩, Up.refl w⟩
  · have hI : (n : Int) ≤ 256 := by omega
    replace HR := Lib.hid ((if_neg h256).symm.trans HR.out)
    go_enter Tryd.func24, Tryd.ntmps24
    go_wp2
    go_loopw [5, 6, 7] (fun ov sv iv wr => ∃ (i : Nat) (out : List Con) (vs : Nat → Value) (st : Bool), i ≤ n ∧ iv = .int .i64 i ∧ sv = .bool st ∧ out.length ≤ i ∧ RowN B wr ov out vs ∧ normR (cs.drop i) out st = q ∧ Up w wr) (fun _ _ iv _ => n - (intOf iv).toNat)
    case atStart => exact ⟨0, [], fun _ => undef, true, by omega, rfl, rfl, by simp, ⟨World.ownsRow_nil _ _ _ _, fun j hj => absurd hj (by simp)⟩, by rw [List.drop_zero]; exact HQ.out, Up.refl w⟩
    case round =>
      rename World => wr
      obtain ⟨i, out, vs, st, hi, rfl, rfl, hol, hrow, hf, hU⟩ := hrel
      have HU := Lib.hid hU
      have HRW := Lib.hid hrow
      have HOL := Lib.hid hol
      obtain ⟨va, vc, hva⟩ := own_slice hrow.1
      subst hva
      obtain ⟨m, hm⟩ : ∃ m, out.length = m := ⟨_, rfl⟩
      rw [hm] at HRW HOL ⊢
      have HM := Lib.hid hm
      have hmi : m ≤ i := HOL.out
      have hmI : (m : Int) ≤ 300 := by omega
      clear hU hrow hol hm
      by_cases hlt : i < n
      · have hltI : (i : Int) < n := by omega
        obtain ⟨bl, off, lv, K, l, b, ha, hbl, hg, k0, k1, k2, hp, hK⟩ := HV.out.elem HU.out i (by rw [HN.out]; exact hlt) HN.out rfl
        subst ha
        have hd := drop_con (by rw [HN.out]; exact hlt) hg
        have hmem : (K, l, b) ∈ cs := List.mem_of_mem_drop (i := i) (by rw [hd]; exact List.mem_cons_self)
        have hl1 := HL.out _ hmem
        rw [hd, normR_cons] at hf
        obtain ⟨⟨⟨Kt, lt, bt⟩, kt, et⟩, ht⟩ : ∃ t, tightF (K, l, b) = t := ⟨_, rfl⟩
        rw [ht] at hf
        dsimp only at hf
        have HKT : Hid (In64 Kt) := Lib.hid (by have := tight_in64 (c := (K, l, b)) hK hp.2.1.mem; rw [ht] at this; exact this)
        have HF := Lib.hid hf
        have HP := Lib.hid hp
        obtain ⟨al, capl, rfl⟩ := hp.1.slice
        obtain ⟨nl, hnl⟩ : ∃ n, l.length = n := ⟨_, rfl⟩
        rw [hnl] at HP k1
        have HTI : Hid (∀ x, Part x (.slice al nl capl) l → Calls Tryd.prog 16 #[.agg #[.int .i64 K, .slice al nl capl, .bool b]] x (TightR x ((Kt, lt, bt), kt, et))) := Lib.hid fun x h => ht ▸ r06_Tighten K _ l b x h hK hl1
        have hb1 : bl < wr.heap.size := Nat.lt_of_lt_of_le hbl HU.out.size
        clear hf hg hd hmem hl1 ht hp hK hnl hbl
        go_wp2_with fail
        refine (HTI.out _ HP.out).mono ?_
        rintro e x2 ⟨⟨v1, rfl, hp1, hf1⟩, hx2⟩
        have HU2 := Lib.hid (HU.out.trans hx2)
        have HRX := Lib.hid (HRW.out.up hx2)
        have HPT : Hid (PartN (Value.slice va m vc).ownBlock x2 v1 lt) := Lib.hid (PartN.fresh hp1 hf1 fun g hg => own_blk HRW.out.1 g hg)
        obtain ⟨a1, c1, rfl⟩ := hp1.1.slice
        obtain ⟨n1, hn1⟩ : ∃ n, lt.length = n := ⟨_, rfl⟩
        dsimp only at HPT hn1 ⊢
        rw [hn1] at HPT ⊢
        clear hx2 hp1 hf1 hn1 HTI HP HRW HU k0 k1 k2 hb1
        by_cases het : et = 0
        · subst het
          replace HF := Lib.hid ((if_neg (fun h => h rfl)).symm.trans HF.out)
          by_cases hkt : kt = 0
          · subst hkt
            replace HF := Lib.hid ((if_neg (fun h => h rfl)).symm.trans HF.out)
            cases st
            · go_wp2
              obtain ⟨W3, hW3⟩ : ∃ x, x2.alloc (.cells #[.int .i64 Kt, .slice a1 n1 c1, .bool bt] 26) = x := ⟨_, rfl⟩
              have hU3 : Up x2 W3 := hW3 ▸ (Up.refl x2).alloc _
              have hT : W3.heap[x2.heap.size]? = some (.cells #[.int .i64 Kt, .slice a1 n1 c1, .bool bt] 26 (0, 0)) := hW3 ▸ heap_alloc_new x2 _
              obtain ⟨T, hTs⟩ : ∃ T, x2.heap.size = T := ⟨_, rfl⟩
              rw [hTs] at hT
              rw [hW3]
              try rw [hTs]
              have HT := Lib.hid hT
              have HR3 := Lib.hid (HRX.out.up hU3)
              have HP3 := Lib.hid (HPT.out.up hU3)
              have HU3 := Lib.hid (HU2.out.trans hU3)
              have hT3 : T < W3.heap.size := (Array.getElem?_eq_some_iff.1 hT).1
              clear hW3 hU3 hT hTs HRX HPT HU2
              go_loopw [11] (fun av wz => ∃ k : Nat, k ≤ m ∧ av = .int .i64 k ∧ findR lt out = k + findR lt (out.drop k) ∧ Up W3 wz) (fun av _ => m - (intOf av).toNat)
              case atStart => exact ⟨0, by omega, rfl, by rw [List.drop_zero, Nat.zero_add], Up.refl _⟩
              case round =>
                rename World => wz
                obtain ⟨k, hk, rfl, hfd, hUz⟩ := hrel
                have HFD := Lib.hid hfd
                have HUZ := Lib.hid hUz
                have hTz : T < wz.heap.size := Nat.lt_of_lt_of_le hT3 hUz.size
                have HTZ := Lib.hid ((hUz.heap _ hT3).trans HT.out)
                have t0 : wz.cell? ⟨T, 0, none⟩ = some (.int .i64 Kt) := cell_of_row _ _ _ _ _ _ HTZ.out
                have t1 : wz.cell? ⟨T, 1, none⟩ = some (.slice a1 n1 c1) := cell_of_row _ _ _ _ _ _ HTZ.out
                have t2 : wz.cell? ⟨T, 2, none⟩ = some (.bool bt) := cell_of_row _ _ _ _ _ _ HTZ.out
                have HRZ := Lib.hid (HR3.out.up hUz)
                have HPZ := Lib.hid (HP3.out.up hUz)
                have HUW := Lib.hid (HU3.out.trans hUz)
                clear hfd hUz
                by_cases hkm : k < m
                · have hkI : (k : Int) < (m : Int) := by omega
                  have hk0 : (0 : Int) ≤ (k : Int) := by omega
                  obtain ⟨⟨Ko, lo, bo⟩, hgo⟩ : ∃ x, out.getD k c0 = x := ⟨_, rfl⟩
                  have hdo := drop_con (by rw [HM.out]; exact hkm) hgo
                  rw [hdo] at HFD
                  obtain ⟨g, ao, co, hva, hgb, hgl, hvo, hfz, k0, k1, k2, hpo, hKo⟩ := HRZ.out.elem rfl HM.out k hkm hgo
                  subst hva
                  obtain ⟨no, hno⟩ : ∃ n, lo.length = n := ⟨_, rfl⟩
                  rw [hno] at k1 hpo
                  have HPO := Lib.hid hpo
                  have HKO := Lib.hid hKo
                  have HGO := Lib.hid hgo
                  obtain ⟨q1, hq1⟩ : ∃ q, eqM lo lt = q := ⟨_, rfl⟩
                  have HMO : Hid (∀ W, Up wz W → Calls Tryd.prog 51 #[.agg #[.int .i64 Ko, .slice ao no co], .agg #[.int .i64 Kt, .slice a1 n1 c1]] W fun e w' => e = .returned (.bool q1) ∧ Up W w') := Lib.hid fun W hW => hq1 ▸ r06_monomials Ko Kt _ _ lo lt W (hpo.1.1.up hW) (HPZ.out.1.1.up hW)
                  have HQ1 := Lib.hid hq1
                  clear hgo hdo hvo hno hpo hKo hq1
                  cases q1
                  · have HFN : Hid (findR lt out = (k + 1) + findR lt (out.drop (k + 1))) := Lib.hid (by
                      rw [HFD.out, findR_cons, HQ1.out]; simp; omega)
                    go_wp2_with fail
                    refine wp_region_ext (by kernel_rfl) (by kernel_rfl) ?_
                    repeat (go_big_quiet_step ((go_at_call 51; exact Calls.ext_of (HMO.out _ (Ext.up _)))))
                    refine wpQuiet_nil ?_
                    intro x hx
                    have HXZ := Lib.hid (HUZ.out.trans hx)
                    clear hx t0 t1 t2 k0 k1 k2
                    go_wp2
                    go_roundw
                    case rel => exact ⟨k + 1, by omega, by go_num, HFN.out, HXZ.out⟩
                    case measure => simp [intOf]; omega
                  · have HFE : Hid (findR lt out = k) := Lib.hid (by
                      rw [HFD.out, findR_cons, HQ1.out]; rfl)
                    obtain ⟨Km, lm, bm, am, nm, cm, hkc, hval, hpm, hKm⟩ := pick_con (bo := bo) (bt := bt) HPO.out HPZ.out HKO.out HKT.out
                    obtain ⟨gr, hgr⟩ : ∃ g, agree Ko Kt bo bt = g := ⟨_, rfl⟩
                    have HST : Hid (∀ x, Calls Tryd.prog 52 #[.agg #[.int .i64 Ko, .slice ao no co, .bool bo], .agg #[.int .i64 Kt, .slice a1 n1 c1, .bool bt]] x fun e x' => e = .returned (.tuple #[.agg #[.int .i64 Km, .slice am nm cm, .bool bm], .bool gr]) ∧ Up x x') := Lib.hid fun x => by
                      have := r06_stronger Ko Kt (.slice ao no co) (.slice a1 n1 c1) bo bt x ⟨_, _, _, rfl⟩ ⟨_, _, _, rfl⟩ HKO.out HKT.out
                      unfold MergeR at this
                      rw [hval, hgr] at this
                      exact this
                    have HPU : Hid (putR (Kt, lt, bt) out = (out.set k (Km, lm, bm), gr)) := Lib.hid (by
                      unfold putR
                      dsimp only
                      rw [HFE.out, if_neg (by rw [HM.out]; omega), HGO.out, hkc, ← hgr]; rfl)
                    have HPM := Lib.hid hpm
                    have HKM := Lib.hid hKm
                    have HFR : Hid (normR (cs.drop (i + 1)) (out.set k (Km, lm, bm)) (false && gr) = q) := Lib.hid (by
                      have := HF.out
                      rw [HPU.out] at this; exact this)
                    have hkm2 : ((k : Int) == (m : Int)) = false := by simp; omega
                    clear hkc hval hpm hKm hgr HFD HGO HQ1 HPU
                    go_wp2_with fail
                    refine wp_region_ext (by kernel_rfl) (by kernel_rfl) ?_
                    repeat (go_big_quiet_step ((go_at_call 51; exact Calls.ext_of (HMO.out _ (Ext.up _)))))
                    refine wpQuiet_nil ?_
                    intro x hx
                    replace t0 := (hx.cell _ _ hTz).trans t0
                    replace t1 := (hx.cell _ _ hTz).trans t1
                    replace t2 := (hx.cell _ _ hTz).trans t2
                    replace k0 := (hx.cell _ _ hgl).trans k0
                    replace k1 := (hx.cell _ _ hgl).trans k1
                    replace k2 := (hx.cell _ _ hgl).trans k2
                    replace hfz := fun o => (hx.frozen _ o hgl).trans (hfz o)
                    replace hgl := Nat.lt_of_lt_of_le hgl hx.size
                    replace hTz := Nat.lt_of_lt_of_le hTz hx.size
                    replace HRZ := Lib.hid (HRZ.out.up hx)
                    replace HPM := Lib.hid (HPM.out.up hx)
                    replace HUW := Lib.hid (HUW.out.trans hx)
                    clear hx HMO HPO HPZ HUZ HTZ
                    go_upto_region 18 with fail
                    go_cut [12, 13] from 67 to 75 (fun s12 s13 wx => StrCut x Km (.slice am nm cm) bm gr s12 s13 wx)
                    case first =>
                      go_region_with (first
                        | (go_at_call 52; refine (HST.out _).mono ?_; rintro e x8 ⟨rfl, hx8⟩; have HX8 := Lib.hid (Up.trans (by repeat (first | exact Up.refl _ | refine Up.drew ?_ | refine Up.alloc ?_ _)) hx8 : Up x x8); (try have zzl : x.heap.size < x8.heap.size := Nat.lt_of_lt_of_le (lt_alloc' x.drew _) hx8.size); (try have zz0 : x8.cell? ⟨x.heap.size, 0, none⟩ = some (.int .i64 0) := (hx8.cell _ _ (lt_alloc' x.drew _)).trans (cell_of_row _ _ _ _ _ _ (heap_alloc_new x.drew _))); (try have zz1 : x8.cell? ⟨x.heap.size, 1, none⟩ = some (.slice none 0 0) := (hx8.cell _ _ (lt_alloc' x.drew _)).trans (cell_of_row _ _ _ _ _ _ (heap_alloc_new x.drew _))); (try have zz2 : x8.cell? ⟨x.heap.size, 2, none⟩ = some (.bool false) := (hx8.cell _ _ (lt_alloc' x.drew _)).trans (cell_of_row _ _ _ _ _ _ (heap_alloc_new x.drew _))); (try have zzf : ∀ o, x8.frozen? ⟨x.heap.size, o, none⟩ = false := fun o => (hx8.frozen _ o (lt_alloc' x.drew _)).trans (frozen_of_row _ _ _ _ _ (heap_alloc_new x.drew _))); have HXX := Lib.hid hx8; clear hx8))
                      all_goals
                        go_wp2_with fail
                        go_meet
                        first
                          | exact ⟨x8.heap.size, rfl, rfl, HX8.out.size, HX8.out.alloc _, heap_alloc_new x8 _⟩
                          | exact ⟨x8.heap.size, rfl, rfl, HX8.out.size, HX8.out.drew.alloc _, heap_alloc_new x8.drew _⟩
                          | exact ⟨x.heap.size, rfl, rfl, Nat.le_refl _, ((HX8.out.setCell (Nat.le_refl x.heap.size) _).setCell (Nat.le_refl x.heap.size) _).setCell (Nat.le_refl x.heap.size) _, set_heap (set_heap (set_heap ((HXX.out.heap _ (lt_alloc' x.drew _)).trans (heap_alloc_new x.drew _)) _) _) _⟩
                    case rest =>
                      obtain ⟨p, rfl, rfl, hpp, hUc, hpr⟩ := hcut
                      replace hfz := fun o => (hUc.frozen _ o hgl).trans (hfz o)
                      have z0 : wc.cell? ⟨p, 0, none⟩ = some (.int .i64 Km) := cell_of_row _ _ _ _ _ _ hpr
                      have z1 : wc.cell? ⟨p, 1, none⟩ = some (.slice am nm cm) := cell_of_row _ _ _ _ _ _ hpr
                      have z2 : wc.cell? ⟨p, 2, none⟩ = some (.bool bm) := cell_of_row _ _ _ _ _ _ hpr
                      replace k0 := (hUc.cell _ _ hgl).trans k0
                      replace k1 := (hUc.cell _ _ hgl).trans k1
                      replace k2 := (hUc.cell _ _ hgl).trans k2
                      have hpl : p < wc.heap.size := (Array.getElem?_eq_some_iff.1 hpr).1
                      have hgl2 : g < wc.heap.size := Nat.lt_of_lt_of_le hgl hUc.size
                      have HS1 := Lib.hid ((HRZ.out.up hUc).set HM.out k hkm Km (.slice am nm cm) lm bm (HPM.out.up hUc) HKM.out)
                      have HUN := Lib.hid ((((HUW.out.trans hUc).setCell (p := ⟨g, k * 3, none⟩) (by rw [HB.out]; exact hgb) (.int .i64 Km)).setCell (p := ⟨g, k * 3 + 1, none⟩) (by rw [HB.out]; exact hgb) (.slice am nm cm)).setCell (p := ⟨g, k * 3 + 2, none⟩) (by rw [HB.out]; exact hgb) (.bool bm))
                      clear hUc hpr hpp t0 t1 t2 HRZ HPM HUW HST
                      go_wp2
                      go_roundw
                      case rel => exact ⟨i + 1, out.set k (Km, lm, bm), _, false, by omega, by go_num, rfl, by rw [List.length_set, HM.out]; omega, HS1.out, HFR.out, HUN.out⟩
                      case measure => simp [intOf]; omega
                · obtain rfl : k = m := by omega
                  have hkI : ¬ (k : Int) < (k : Int) := by omega
                  have HFE : Hid (findR lt out = k) := Lib.hid (by
                    rw [HFD.out, List.drop_eq_nil_of_le (by rw [HM.out]; exact Nat.le_refl _)]; rfl)
                  have HPU : Hid (putR (Kt, lt, bt) out = (out ++ [(Kt, lt, bt)], true)) := Lib.hid (by
                    unfold putR
                    dsimp only
                    rw [HFE.out, if_pos HM.out.symm])
                  have HFR : Hid (normR (cs.drop (i + 1)) (out ++ [(Kt, lt, bt)]) false = q) := Lib.hid (by
                    have := HF.out
                    rw [HPU.out] at this; exact this)
                  have HONE : Hid (∀ i j, i < 1 → j < 3 → (conF [(Kt, lt, bt)] (fun _ => Value.slice a1 n1 c1) i j).oneCell' = true) := Lib.hid (fun i j _ hj => by
                    rcases (by omega : j = 0 ∨ j = 1 ∨ j = 2) with rfl | rfl | rfl <;> rfl)
                  clear HFD HFE HPU
                  go_wp2_with fail
                  refine wp_region_ext (by kernel_rfl) (by kernel_rfl) ?_
                  repeat (go_big_quiet_step (fail))
                  refine wpQuiet_nil ?_
                  intro x hx
                  replace t0 := (hx.cell _ _ hTz).trans t0
                  replace t1 := (hx.cell _ _ hTz).trans t1
                  replace t2 := (hx.cell _ _ hTz).trans t2
                  replace hTz := Nat.lt_of_lt_of_le hTz hx.size
                  replace HRZ := Lib.hid (HRZ.out.up hx)
                  replace HPZ := Lib.hid (HPZ.out.up hx)
                  replace HUW := Lib.hid (HUW.out.trans hx)
                  have HRO : Hid (x.ownsRow B 26 3 (.slice va k vc) k (flat (conF out vs) k 3)) := Lib.hid (by
                    have := HRZ.out.1
                    rw [HM.out] at this; exact this)
                  clear hx HUZ HTZ
                  go_wp2_with (at_builtin; refine wpList_append_sl _ rfl _ _ 28 rfl B 26 i0 _ 3 40 Tryd.underlying28 hi0 hz0 hz1 hz2 rfl (by decide) (.slice va k vc) k _ rfl (own_up' HRO.out ((Up.refl x).alloc _)) (.slice (some ⟨x.heap.size, 0, none⟩) 1 1) 1 _ rfl (con_sl x Kt (.slice a1 n1 c1) lt bt) HONE.out (by unfold maxLen; omega) (by omega) (by have := HUW.out.size; have := HB.out; simp; omega) ?_; intro v2 w1 hown1 hg1 hat1 hnil1; obtain ⟨vb, vd, rfl⟩ := own_slice hown1; have HO1 := Lib.hid hown1; have HG1 := Lib.hid hg1; have HAT := Lib.hid hat1; clear hown1 hg1 hat1 hnil1)
                  have HS1 := Lib.hid ((HRZ.out.up ((Up.refl x).alloc (.cells #[.int .i64 Kt, .slice a1 n1 c1, .bool bt] 26))).snoc HM.out (c := (Kt, lt, bt)) (HPZ.out.up ((Up.refl x).alloc _)) HKT.out HO1.out HG1.out HAT.out)
                  have HUN := Lib.hid ((HUW.out.alloc (.cells #[.int .i64 Kt, .slice a1 n1 c1, .bool bt] 26)).grown HG1.out fun g hg => by rw [HB.out]; exact own_base HRO.out g hg)
                  clear HO1 HG1 HAT t0 t1 t2
                  try go_wp2
                  go_roundw
                  case rel => exact ⟨i + 1, out ++ [(Kt, lt, bt)], _, false, by omega, by go_num, rfl, by rw [List.length_append, HM.out]; simp; omega, HS1.out, HFR.out, HUN.out⟩
                  case measure => simp [intOf]; omega
            · go_wp2
              obtain ⟨W3, hW3⟩ : ∃ x, x2.alloc (.cells #[.int .i64 Kt, .slice a1 n1 c1, .bool bt] 26) = x := ⟨_, rfl⟩
              have hU3 : Up x2 W3 := hW3 ▸ (Up.refl x2).alloc _
              have hT : W3.heap[x2.heap.size]? = some (.cells #[.int .i64 Kt, .slice a1 n1 c1, .bool bt] 26 (0, 0)) := hW3 ▸ heap_alloc_new x2 _
              obtain ⟨T, hTs⟩ : ∃ T, x2.heap.size = T := ⟨_, rfl⟩
              rw [hTs] at hT
              rw [hW3]
              try rw [hTs]
              have HT := Lib.hid hT
              have HR3 := Lib.hid (HRX.out.up hU3)
              have HP3 := Lib.hid (HPT.out.up hU3)
              have HU3 := Lib.hid (HU2.out.trans hU3)
              have hT3 : T < W3.heap.size := (Array.getElem?_eq_some_iff.1 hT).1
              clear hW3 hU3 hT hTs HRX HPT HU2
              go_loopw [11] (fun av wz => ∃ k : Nat, k ≤ m ∧ av = .int .i64 k ∧ findR lt out = k + findR lt (out.drop k) ∧ Up W3 wz) (fun av _ => m - (intOf av).toNat)
              case atStart => exact ⟨0, by omega, rfl, by rw [List.drop_zero, Nat.zero_add], Up.refl _⟩
              case round =>
                rename World => wz
                obtain ⟨k, hk, rfl, hfd, hUz⟩ := hrel
                have HFD := Lib.hid hfd
                have HUZ := Lib.hid hUz
                have hTz : T < wz.heap.size := Nat.lt_of_lt_of_le hT3 hUz.size
                have HTZ := Lib.hid ((hUz.heap _ hT3).trans HT.out)
                have t0 : wz.cell? ⟨T, 0, none⟩ = some (.int .i64 Kt) := cell_of_row _ _ _ _ _ _ HTZ.out
                have t1 : wz.cell? ⟨T, 1, none⟩ = some (.slice a1 n1 c1) := cell_of_row _ _ _ _ _ _ HTZ.out
                have t2 : wz.cell? ⟨T, 2, none⟩ = some (.bool bt) := cell_of_row _ _ _ _ _ _ HTZ.out
                have HRZ := Lib.hid (HR3.out.up hUz)
                have HPZ := Lib.hid (HP3.out.up hUz)
                have HUW := Lib.hid (HU3.out.trans hUz)
                clear hfd hUz
                by_cases hkm : k < m
                · have hkI : (k : Int) < (m : Int) := by omega
                  have hk0 : (0 : Int) ≤ (k : Int) := by omega
                  obtain ⟨⟨Ko, lo, bo⟩, hgo⟩ : ∃ x, out.getD k c0 = x := ⟨_, rfl⟩
                  have hdo := drop_con (by rw [HM.out]; exact hkm) hgo
                  rw [hdo] at HFD
                  obtain ⟨g, ao, co, hva, hgb, hgl, hvo, hfz, k0, k1, k2, hpo, hKo⟩ := HRZ.out.elem rfl HM.out k hkm hgo
                  subst hva
                  obtain ⟨no, hno⟩ : ∃ n, lo.length = n := ⟨_, rfl⟩
                  rw [hno] at k1 hpo
                  have HPO := Lib.hid hpo
                  have HKO := Lib.hid hKo
                  have HGO := Lib.hid hgo
                  obtain ⟨q1, hq1⟩ : ∃ q, eqM lo lt = q := ⟨_, rfl⟩
                  have HMO : Hid (∀ W, Up wz W → Calls Tryd.prog 51 #[.agg #[.int .i64 Ko, .slice ao no co], .agg #[.int .i64 Kt, .slice a1 n1 c1]] W fun e w' => e = .returned (.bool q1) ∧ Up W w') := Lib.hid fun W hW => hq1 ▸ r06_monomials Ko Kt _ _ lo lt W (hpo.1.1.up hW) (HPZ.out.1.1.up hW)
                  have HQ1 := Lib.hid hq1
                  clear hgo hdo hvo hno hpo hKo hq1
                  cases q1
                  · have HFN : Hid (findR lt out = (k + 1) + findR lt (out.drop (k + 1))) := Lib.hid (by
                      rw [HFD.out, findR_cons, HQ1.out]; simp; omega)
                    go_wp2_with fail
                    refine wp_region_ext (by kernel_rfl) (by kernel_rfl) ?_
                    repeat (go_big_quiet_step ((go_at_call 51; exact Calls.ext_of (HMO.out _ (Ext.up _)))))
                    refine wpQuiet_nil ?_
                    intro x hx
                    have HXZ := Lib.hid (HUZ.out.trans hx)
                    clear hx t0 t1 t2 k0 k1 k2
                    go_wp2
                    go_roundw
                    case rel => exact ⟨k + 1, by omega, by go_num, HFN.out, HXZ.out⟩
                    case measure => simp [intOf]; omega
                  · have HFE : Hid (findR lt out = k) := Lib.hid (by
                      rw [HFD.out, findR_cons, HQ1.out]; rfl)
                    obtain ⟨Km, lm, bm, am, nm, cm, hkc, hval, hpm, hKm⟩ := pick_con (bo := bo) (bt := bt) HPO.out HPZ.out HKO.out HKT.out
                    obtain ⟨gr, hgr⟩ : ∃ g, agree Ko Kt bo bt = g := ⟨_, rfl⟩
                    have HST : Hid (∀ x, Calls Tryd.prog 52 #[.agg #[.int .i64 Ko, .slice ao no co, .bool bo], .agg #[.int .i64 Kt, .slice a1 n1 c1, .bool bt]] x fun e x' => e = .returned (.tuple #[.agg #[.int .i64 Km, .slice am nm cm, .bool bm], .bool gr]) ∧ Up x x') := Lib.hid fun x => by
                      have := r06_stronger Ko Kt (.slice ao no co) (.slice a1 n1 c1) bo bt x ⟨_, _, _, rfl⟩ ⟨_, _, _, rfl⟩ HKO.out HKT.out
                      unfold MergeR at this
                      rw [hval, hgr] at this
                      exact this
                    have HPU : Hid (putR (Kt, lt, bt) out = (out.set k (Km, lm, bm), gr)) := Lib.hid (by
                      unfold putR
                      dsimp only
                      rw [HFE.out, if_neg (by rw [HM.out]; omega), HGO.out, hkc, ← hgr]; rfl)
                    have HPM := Lib.hid hpm
                    have HKM := Lib.hid hKm
                    have HFR : Hid (normR (cs.drop (i + 1)) (out.set k (Km, lm, bm)) (true && gr) = q) := Lib.hid (by
                      have := HF.out
                      rw [HPU.out] at this; exact this)
                    have hkm2 : ((k : Int) == (m : Int)) = false := by simp; omega
                    clear hkc hval hpm hKm hgr HFD HGO HQ1 HPU
                    go_wp2_with fail
                    refine wp_region_ext (by kernel_rfl) (by kernel_rfl) ?_
                    repeat (go_big_quiet_step ((go_at_call 51; exact Calls.ext_of (HMO.out _ (Ext.up _)))))
                    refine wpQuiet_nil ?_
                    intro x hx
                    replace t0 := (hx.cell _ _ hTz).trans t0
                    replace t1 := (hx.cell _ _ hTz).trans t1
                    replace t2 := (hx.cell _ _ hTz).trans t2
                    replace k0 := (hx.cell _ _ hgl).trans k0
                    replace k1 := (hx.cell _ _ hgl).trans k1
                    replace k2 := (hx.cell _ _ hgl).trans k2
                    replace hfz := fun o => (hx.frozen _ o hgl).trans (hfz o)
                    replace hgl := Nat.lt_of_lt_of_le hgl hx.size
                    replace hTz := Nat.lt_of_lt_of_le hTz hx.size
                    replace HRZ := Lib.hid (HRZ.out.up hx)
                    replace HPM := Lib.hid (HPM.out.up hx)
                    replace HUW := Lib.hid (HUW.out.trans hx)
                    clear hx HMO HPO HPZ HUZ HTZ
                    go_upto_region 18 with fail
                    go_cut [12, 13] from 67 to 75 (fun s12 s13 wx => StrCut x Km (.slice am nm cm) bm gr s12 s13 wx)
                    case first =>
                      go_region_with (first
                        | (go_at_call 52; refine (HST.out _).mono ?_; rintro e x8 ⟨rfl, hx8⟩; have HX8 := Lib.hid (Up.trans (by repeat (first | exact Up.refl _ | refine Up.drew ?_ | refine Up.alloc ?_ _)) hx8 : Up x x8); (try have zzl : x.heap.size < x8.heap.size := Nat.lt_of_lt_of_le (lt_alloc' x.drew _) hx8.size); (try have zz0 : x8.cell? ⟨x.heap.size, 0, none⟩ = some (.int .i64 0) := (hx8.cell _ _ (lt_alloc' x.drew _)).trans (cell_of_row _ _ _ _ _ _ (heap_alloc_new x.drew _))); (try have zz1 : x8.cell? ⟨x.heap.size, 1, none⟩ = some (.slice none 0 0) := (hx8.cell _ _ (lt_alloc' x.drew _)).trans (cell_of_row _ _ _ _ _ _ (heap_alloc_new x.drew _))); (try have zz2 : x8.cell? ⟨x.heap.size, 2, none⟩ = some (.bool false) := (hx8.cell _ _ (lt_alloc' x.drew _)).trans (cell_of_row _ _ _ _ _ _ (heap_alloc_new x.drew _))); (try have zzf : ∀ o, x8.frozen? ⟨x.heap.size, o, none⟩ = false := fun o => (hx8.frozen _ o (lt_alloc' x.drew _)).trans (frozen_of_row _ _ _ _ _ (heap_alloc_new x.drew _))); have HXX := Lib.hid hx8; clear hx8))
                      all_goals
                        go_wp2_with fail
                        go_meet
                        first
                          | exact ⟨x8.heap.size, rfl, rfl, HX8.out.size, HX8.out.alloc _, heap_alloc_new x8 _⟩
                          | exact ⟨x8.heap.size, rfl, rfl, HX8.out.size, HX8.out.drew.alloc _, heap_alloc_new x8.drew _⟩
                          | exact ⟨x.heap.size, rfl, rfl, Nat.le_refl _, ((HX8.out.setCell (Nat.le_refl x.heap.size) _).setCell (Nat.le_refl x.heap.size) _).setCell (Nat.le_refl x.heap.size) _, set_heap (set_heap (set_heap ((HXX.out.heap _ (lt_alloc' x.drew _)).trans (heap_alloc_new x.drew _)) _) _) _⟩
                    case rest =>
                      obtain ⟨p, rfl, rfl, hpp, hUc, hpr⟩ := hcut
                      replace hfz := fun o => (hUc.frozen _ o hgl).trans (hfz o)
                      have z0 : wc.cell? ⟨p, 0, none⟩ = some (.int .i64 Km) := cell_of_row _ _ _ _ _ _ hpr
                      have z1 : wc.cell? ⟨p, 1, none⟩ = some (.slice am nm cm) := cell_of_row _ _ _ _ _ _ hpr
                      have z2 : wc.cell? ⟨p, 2, none⟩ = some (.bool bm) := cell_of_row _ _ _ _ _ _ hpr
                      replace k0 := (hUc.cell _ _ hgl).trans k0
                      replace k1 := (hUc.cell _ _ hgl).trans k1
                      replace k2 := (hUc.cell _ _ hgl).trans k2
                      have hpl : p < wc.heap.size := (Array.getElem?_eq_some_iff.1 hpr).1
                      have hgl2 : g < wc.heap.size := Nat.lt_of_lt_of_le hgl hUc.size
                      have HS1 := Lib.hid ((HRZ.out.up hUc).set HM.out k hkm Km (.slice am nm cm) lm bm (HPM.out.up hUc) HKM.out)
                      have HUN := Lib.hid ((((HUW.out.trans hUc).setCell (p := ⟨g, k * 3, none⟩) (by rw [HB.out]; exact hgb) (.int .i64 Km)).setCell (p := ⟨g, k * 3 + 1, none⟩) (by rw [HB.out]; exact hgb) (.slice am nm cm)).setCell (p := ⟨g, k * 3 + 2, none⟩) (by rw [HB.out]; exact hgb) (.bool bm))
                      clear hUc hpr hpp t0 t1 t2 HRZ HPM HUW HST
                      go_wp2
                      go_roundw
                      case rel => exact ⟨i + 1, out.set k (Km, lm, bm), _, gr, by omega, by go_num, rfl, by rw [List.length_set, HM.out]; omega, HS1.out, HFR.out, HUN.out⟩
                      case measure => simp [intOf]; omega
                · obtain rfl : k = m := by omega
                  have hkI : ¬ (k : Int) < (k : Int) := by omega
                  have HFE : Hid (findR lt out = k) := Lib.hid (by
                    rw [HFD.out, List.drop_eq_nil_of_le (by rw [HM.out]; exact Nat.le_refl _)]; rfl)
                  have HPU : Hid (putR (Kt, lt, bt) out = (out ++ [(Kt, lt, bt)], true)) := Lib.hid (by
                    unfold putR
                    dsimp only
                    rw [HFE.out, if_pos HM.out.symm])
                  have HFR : Hid (normR (cs.drop (i + 1)) (out ++ [(Kt, lt, bt)]) true = q) := Lib.hid (by
                    have := HF.out
                    rw [HPU.out] at this; exact this)
                  have HONE : Hid (∀ i j, i < 1 → j < 3 → (conF [(Kt, lt, bt)] (fun _ => Value.slice a1 n1 c1) i j).oneCell' = true) := Lib.hid (fun i j _ hj => by
                    rcases (by omega : j = 0 ∨ j = 1 ∨ j = 2) with rfl | rfl | rfl <;> rfl)
                  clear HFD HFE HPU
                  go_wp2_with fail
                  refine wp_region_ext (by kernel_rfl) (by kernel_rfl) ?_
                  repeat (go_big_quiet_step (fail))
                  refine wpQuiet_nil ?_
                  intro x hx
                  replace t0 := (hx.cell _ _ hTz).trans t0
                  replace t1 := (hx.cell _ _ hTz).trans t1
                  replace t2 := (hx.cell _ _ hTz).trans t2
                  replace hTz := Nat.lt_of_lt_of_le hTz hx.size
                  replace HRZ := Lib.hid (HRZ.out.up hx)
                  replace HPZ := Lib.hid (HPZ.out.up hx)
                  replace HUW := Lib.hid (HUW.out.trans hx)
                  have HRO : Hid (x.ownsRow B 26 3 (.slice va k vc) k (flat (conF out vs) k 3)) := Lib.hid (by
                    have := HRZ.out.1
                    rw [HM.out] at this; exact this)
                  clear hx HUZ HTZ
                  go_wp2_with (at_builtin; refine wpList_append_sl _ rfl _ _ 28 rfl B 26 i0 _ 3 40 Tryd.underlying28 hi0 hz0 hz1 hz2 rfl (by decide) (.slice va k vc) k _ rfl (own_up' HRO.out ((Up.refl x).alloc _)) (.slice (some ⟨x.heap.size, 0, none⟩) 1 1) 1 _ rfl (con_sl x Kt (.slice a1 n1 c1) lt bt) HONE.out (by unfold maxLen; omega) (by omega) (by have := HUW.out.size; have := HB.out; simp; omega) ?_; intro v2 w1 hown1 hg1 hat1 hnil1; obtain ⟨vb, vd, rfl⟩ := own_slice hown1; have HO1 := Lib.hid hown1; have HG1 := Lib.hid hg1; have HAT := Lib.hid hat1; clear hown1 hg1 hat1 hnil1)
                  have HS1 := Lib.hid ((HRZ.out.up ((Up.refl x).alloc (.cells #[.int .i64 Kt, .slice a1 n1 c1, .bool bt] 26))).snoc HM.out (c := (Kt, lt, bt)) (HPZ.out.up ((Up.refl x).alloc _)) HKT.out HO1.out HG1.out HAT.out)
                  have HUN := Lib.hid ((HUW.out.alloc (.cells #[.int .i64 Kt, .slice a1 n1 c1, .bool bt] 26)).grown HG1.out fun g hg => by rw [HB.out]; exact own_base HRO.out g hg)
                  clear HO1 HG1 HAT t0 t1 t2
                  try go_wp2
                  go_roundw
                  case rel => exact ⟨i + 1, out ++ [(Kt, lt, bt)], _, true, by omega, by go_num, rfl, by rw [List.length_append, HM.out]; simp; omega, HS1.out, HFR.out, HUN.out⟩
                  case measure => simp [intOf]; omega
          · replace HF := Lib.hid ((if_pos hkt).symm.trans HF.out)
            have hkt2 : (kt == 0) = false := by simpa using hkt
            have HRA := Lib.hid (HRX.out.up ((Up.refl x2).alloc (.cells #[.int .i64 Kt, .slice a1 n1 c1, .bool bt] 26)))
            have HUA := Lib.hid (HU2.out.alloc (.cells #[.int .i64 Kt, .slice a1 n1 c1, .bool bt] 26))
            clear hkt HRX HU2 HPT
            cases st
            · go_wp2
              go_roundw
              case rel => exact ⟨i + 1, out, vs, false, by omega, by go_num, rfl, by rw [HM.out]; omega, HRA.out, HF.out, HUA.out⟩
              case measure => simp [intOf]; omega
            · by_cases h2 : kt = 2
              · subst h2
                go_wp2
                go_roundw
                case rel => exact ⟨i + 1, out, vs, false, by omega, by go_num, rfl, by rw [HM.out]; omega, HRA.out, HF.out, HUA.out⟩
                case measure => simp [intOf]; omega
              · have hk2 : (kt == 2) = false := by simpa using h2
                have hk3 : (kt != 2) = true := by simpa using h2
                have HF2 : Hid (normR (cs.drop (i + 1)) out true = q) := Lib.hid (by have := HF.out; rw [decide_eq_true h2] at this; exact this)
                clear h2
                go_wp2
                go_roundw
                case rel => exact ⟨i + 1, out, vs, true, by omega, by go_num, rfl, by rw [HM.out]; omega, HRA.out, HF2.out, HUA.out⟩
                case measure => simp [intOf]; omega
        · have he2 : (et == 0) = false := by simpa using het
          have HQE : Hid (q = (([], false), et)) := Lib.hid (by rw [← HF.out, if_pos het])
          have HG : Hid (r = ([], false, et)) := Lib.hid (by rw [← HR.out, HQE.out]; exact if_pos het)
          clear het
          go_wp2
          go_ret3
          exact ⟨⟨.slice none 0 0, by rw [HG.out]; first | rfl | simp, by rw [HG.out]; exact cons_nil _⟩, HU2.out.alloc _⟩
      · obtain rfl : i = n := by omega
        have hltI : ¬ (i : Int) < (i : Int) := by omega
        have HQE : Hid (q = ((out, st), 0)) := Lib.hid (by rw [← hf, List.drop_eq_nil_of_le (by rw [HN.out]; exact Nat.le_refl _)]; rfl)
        clear hf
        cases st
        · have HG : Hid (r = ([], false, 0)) := Lib.hid (by rw [← HR.out, HQE.out]; rfl)
          go_wp2
          go_ret3
          exact ⟨⟨.slice none 0 0, by rw [HG.out]; first | rfl | simp, by rw [HG.out]; exact cons_nil _⟩, HU.out⟩
        · have HG : Hid (r = (sortR out [], true, 0)) := Lib.hid (by rw [← HR.out, HQE.out]; rfl)
          have HSO : Hid (Calls Tryd.prog 53 #[.slice va m vc] wr (SortP B out (.slice va m vc) wr)) := Lib.hid (r06_sorted B _ out vs wr HRW.out (by have := HU.out.size; have := HB.out; omega) (by rw [HM.out]; omega))
          go_wp2_with fail
          refine HSO.out.mono ?_
          rintro e x ⟨vs', rfl, hrow, hbl⟩
          have HRS := Lib.hid hrow
          have HUS : Hid (Up w x) := Lib.hid (Below.trans HU.out (by rw [HB.out]; exact hbl))
          clear hrow hbl
          go_wp2
          go_ret3
          exact ⟨⟨.slice va m vc, by rw [HG.out]; first | rfl | simp, by rw [HG.out]; exact HRS.out.cons (by rw [sortR_len, HM.out]; simp; omega)⟩, HUS.out⟩
      end Go.Proofs.YtahlecmlhdikjaaDoor
