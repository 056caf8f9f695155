/-
  Prog of the base package, on equal data. Printed by mkDgE.py.
-/
import Derived.Test.YtpccaifhcmcegaaDgE4
import Derived.Test.YtpccaifhcmcegaaDgX
namespace Go.Proofs.Ytpccaifhcmcegaa
set_option linter.unusedSimpArgs false
open Go.ChangeShapes Go.WideShapes Go.ChangeAt Go.RowKit
set_option linter.unusedVariables false
set_option maxRecDepth 100000

theorem LsAt.parc {w : World} {a : Option Addr} {n c : Nat} {l : List Par} (h : LsAt 7 80 parR w (.slice a n c) l) (i : Nat) (hi : i < l.length) :
    ∃ (g o : Nat) (la : Option Addr) (lc : Nat), a = some ⟨g, o, none⟩ ∧ g < w.heap.size ∧ (∀ y, Up w y → y.cell? ⟨g, o + i * 7, none⟩ = some (.string l[i].1)) ∧ (∀ y, Up w y → y.cell? ⟨g, o + i * 7 + 1, none⟩ = some (.int .i64 l[i].2.1.1)) ∧ (∀ y, Up w y → y.cell? ⟨g, o + i * 7 + 2, none⟩ = some (.int .i64 l[i].2.1.2.1)) ∧ (∀ y, Up w y → y.cell? ⟨g, o + i * 7 + 3, none⟩ = some (.int .i64 l[i].2.1.2.2.1)) ∧ (∀ y, Up w y → y.cell? ⟨g, o + i * 7 + 4, none⟩ = some (.int .i64 l[i].2.1.2.2.2.1)) ∧ (∀ y, Up w y → y.cell? ⟨g, o + i * 7 + 5, none⟩ = some (.int .i64 l[i].2.1.2.2.2.2)) ∧ (∀ y, Up w y → y.cell? ⟨g, o + i * 7 + 6, none⟩ = some (.slice la l[i].2.2.length lc)) ∧ LsAt 2 32 linR w (.slice la l[i].2.2.length lc) l[i].2.2 := by
  obtain ⟨g, o, f, e, hg, hf, ⟨h0, _⟩, ⟨t0, t1, t2, t3, t4⟩, h2⟩ := h.elem i hi
  dsimp only at t0 t1 t2 t3 t4 h2
  obtain ⟨la, lc, e2, _⟩ := h2.shape
  refine ⟨g, o, la, lc, e, hg, fun y hy => ?_, fun y hy => ?_, fun y hy => ?_, fun y hy => ?_, fun y hy => ?_, fun y hy => ?_, fun y hy => ?_, e2 ▸ h2⟩
  · have := cell_up' hy hg (hf 0 (by decide)); rw [h0, Nat.add_zero] at this; exact this
  · have := cell_up' hy hg (hf 1 (by decide)); rw [t0] at this; exact this
  · have := cell_up' hy hg (hf 2 (by decide)); rw [t1] at this; exact this
  · have := cell_up' hy hg (hf 3 (by decide)); rw [t2] at this; exact this
  · have := cell_up' hy hg (hf 4 (by decide)); rw [t3] at this; exact this
  · have := cell_up' hy hg (hf 5 (by decide)); rw [t4] at this; exact this
  · have := cell_up' hy hg (hf 6 (by decide)); rw [e2] at this; exact this

set_option maxHeartbeats 16000000 in
theorem base_Prog (N : Nat) (w : World) (va vb : Value) (p : Pg) (ha : ProgAt N w va p) (hb : ProgAt N w vb p) :
    Calls Try.prog 21 #[va, vb] w fun e w' => e = .returned (.bool true) ∧ Up w w' := by
  obtain ⟨as_, asc, ac, acc, ap, apc, ad, adc, ao, aoc, rfl, has, hac, hap, had, hao⟩ := ha.open
  obtain ⟨bs, bsc, bc, bcc, bp, bpc, bd, bdc, bo, boc, rfl, hbs, hbc, hbp, hbd, hbo⟩ := hb.open
  clear ha hb
  obtain ⟨sizes, cons, pars, defs, outs⟩ := p
  dsimp only at *
  obtain ⟨sn, hsn⟩ : ∃ q, sizes.length = q := ⟨_, rfl⟩
  obtain ⟨cn, hcnn⟩ : ∃ q, cons.length = q := ⟨_, rfl⟩
  obtain ⟨pn, hpn⟩ : ∃ q, pars.length = q := ⟨_, rfl⟩
  obtain ⟨dn, hdn⟩ : ∃ q, defs.length = q := ⟨_, rfl⟩
  obtain ⟨on_, hon⟩ : ∃ q, outs.length = q := ⟨_, rfl⟩
  rw [hsn] at has hbs ⊢
  rw [hcnn] at hac hbc ⊢
  rw [hpn] at hap hbp ⊢
  rw [hdn] at had hbd ⊢
  rw [hon] at hao hbo ⊢
  have hpI : (pn : Int) ≤ 140737488351232 := by have := hap.bytes; omega
  have hdI : (dn : Int) ≤ 140737488351232 := by have := had.bytes; omega
  have HU := Lib.hid (((Up.refl w).alloc (.cells #[.slice as_ sn asc, .slice ac cn acc, .slice ap pn apc, .slice ad dn adc, .slice ao on_ aoc] 27)).alloc (.cells #[.slice bs sn bsc, .slice bc cn bcc, .slice bp pn bpc, .slice bd dn bdc, .slice bo on_ boc] 27))
  have hb1 := ((BoxC.new w 27 #[.slice as_ sn asc, .slice ac cn acc, .slice ap pn apc, .slice ad dn adc, .slice ao on_ aoc]).up ((Up.refl _).alloc (.cells #[.slice bs sn bsc, .slice bc cn bcc, .slice bp pn bpc, .slice bd dn bdc, .slice bo on_ boc] 27)))
  have hb2 := (BoxC.new2 w (.cells #[.slice as_ sn asc, .slice ac cn acc, .slice ap pn apc, .slice ad dn adc, .slice ao on_ aoc] 27) 27 #[.slice bs sn bsc, .slice bc cn bcc, .slice bp pn bpc, .slice bd dn bdc, .slice bo on_ boc])
  have HB1 := Lib.hid hb1
  have HB2 := Lib.hid hb2
  have HS := Lib.hid (fun y (hy : Up w y) => base_Strings _ _ sizes sizes y (has.up strR_up hy) (hbs.up strR_up hy) true (decide_eq_true rfl))
  have HC := Lib.hid (fun y (hy : Up w y) => base_Cons y _ _ cons (hac.up conR_up hy) (hbc.up conR_up hy))
  have HO := Lib.hid (fun y (hy : Up w y) => base_Strings _ _ outs outs y (hao.up strR_up hy) (hbo.up strR_up hy) true (decide_eq_true rfl))
  have HPA := Lib.hid hap
  have HPB := Lib.hid hbp
  have HDA := Lib.hid had
  have HDB := Lib.hid hbd
  have HPN := Lib.hid hpn
  have HDN := Lib.hid hdn
  have a0 : ((w.alloc (.cells #[.slice as_ sn asc, .slice ac cn acc, .slice ap pn apc, .slice ad dn adc, .slice ao on_ aoc] 27)).alloc (.cells #[.slice bs sn bsc, .slice bc cn bcc, .slice bp pn bpc, .slice bd dn bdc, .slice bo on_ boc] 27)).cell? ⟨w.heap.size, 0, none⟩ = some (.slice as_ sn asc) := cell_of_row _ _ _ _ _ _ hb1
  have a1 : ((w.alloc (.cells #[.slice as_ sn asc, .slice ac cn acc, .slice ap pn apc, .slice ad dn adc, .slice ao on_ aoc] 27)).alloc (.cells #[.slice bs sn bsc, .slice bc cn bcc, .slice bp pn bpc, .slice bd dn bdc, .slice bo on_ boc] 27)).cell? ⟨w.heap.size, 1, none⟩ = some (.slice ac cn acc) := cell_of_row _ _ _ _ _ _ hb1
  have a2 : ((w.alloc (.cells #[.slice as_ sn asc, .slice ac cn acc, .slice ap pn apc, .slice ad dn adc, .slice ao on_ aoc] 27)).alloc (.cells #[.slice bs sn bsc, .slice bc cn bcc, .slice bp pn bpc, .slice bd dn bdc, .slice bo on_ boc] 27)).cell? ⟨w.heap.size, 2, none⟩ = some (.slice ap pn apc) := cell_of_row _ _ _ _ _ _ hb1
  have a3 : ((w.alloc (.cells #[.slice as_ sn asc, .slice ac cn acc, .slice ap pn apc, .slice ad dn adc, .slice ao on_ aoc] 27)).alloc (.cells #[.slice bs sn bsc, .slice bc cn bcc, .slice bp pn bpc, .slice bd dn bdc, .slice bo on_ boc] 27)).cell? ⟨w.heap.size, 3, none⟩ = some (.slice ad dn adc) := cell_of_row _ _ _ _ _ _ hb1
  have a4 : ((w.alloc (.cells #[.slice as_ sn asc, .slice ac cn acc, .slice ap pn apc, .slice ad dn adc, .slice ao on_ aoc] 27)).alloc (.cells #[.slice bs sn bsc, .slice bc cn bcc, .slice bp pn bpc, .slice bd dn bdc, .slice bo on_ boc] 27)).cell? ⟨w.heap.size, 4, none⟩ = some (.slice ao on_ aoc) := cell_of_row _ _ _ _ _ _ hb1
  have b0 : ((w.alloc (.cells #[.slice as_ sn asc, .slice ac cn acc, .slice ap pn apc, .slice ad dn adc, .slice ao on_ aoc] 27)).alloc (.cells #[.slice bs sn bsc, .slice bc cn bcc, .slice bp pn bpc, .slice bd dn bdc, .slice bo on_ boc] 27)).cell? ⟨w.heap.size + 1, 0, none⟩ = some (.slice bs sn bsc) := cell_of_row _ _ _ _ _ _ hb2
  have b1 : ((w.alloc (.cells #[.slice as_ sn asc, .slice ac cn acc, .slice ap pn apc, .slice ad dn adc, .slice ao on_ aoc] 27)).alloc (.cells #[.slice bs sn bsc, .slice bc cn bcc, .slice bp pn bpc, .slice bd dn bdc, .slice bo on_ boc] 27)).cell? ⟨w.heap.size + 1, 1, none⟩ = some (.slice bc cn bcc) := cell_of_row _ _ _ _ _ _ hb2
  have b2 : ((w.alloc (.cells #[.slice as_ sn asc, .slice ac cn acc, .slice ap pn apc, .slice ad dn adc, .slice ao on_ aoc] 27)).alloc (.cells #[.slice bs sn bsc, .slice bc cn bcc, .slice bp pn bpc, .slice bd dn bdc, .slice bo on_ boc] 27)).cell? ⟨w.heap.size + 1, 2, none⟩ = some (.slice bp pn bpc) := cell_of_row _ _ _ _ _ _ hb2
  have b3 : ((w.alloc (.cells #[.slice as_ sn asc, .slice ac cn acc, .slice ap pn apc, .slice ad dn adc, .slice ao on_ aoc] 27)).alloc (.cells #[.slice bs sn bsc, .slice bc cn bcc, .slice bp pn bpc, .slice bd dn bdc, .slice bo on_ boc] 27)).cell? ⟨w.heap.size + 1, 3, none⟩ = some (.slice bd dn bdc) := cell_of_row _ _ _ _ _ _ hb2
  have b4 : ((w.alloc (.cells #[.slice as_ sn asc, .slice ac cn acc, .slice ap pn apc, .slice ad dn adc, .slice ao on_ aoc] 27)).alloc (.cells #[.slice bs sn bsc, .slice bc cn bcc, .slice bp pn bpc, .slice bd dn bdc, .slice bo on_ boc] 27)).cell? ⟨w.heap.size + 1, 4, none⟩ = some (.slice bo on_ boc) := cell_of_row _ _ _ _ _ _ hb2
  have asz := hb1.lt
  have bsz := hb2.lt
  clear hb1 hb2 has hbs hac hbc hap hbp had hbd hao hbo hsn hcnn hpn hdn hon
  go_enter Try.func21, Try.ntmps21
  go_wp2_with (first
    | (go_at_call 11; (with_reducible refine (HO.out _ HY.out).mono ?_); rintro e' z ⟨rfl, hz⟩; have HZ := Lib.hid (HY.out.trans hz); have hc1 := HY1.out.up hz; have hc2 := HY2.out.up hz; have HZ1 := Lib.hid hc1; have HZ2 := Lib.hid hc2; have zas := hc1.lt; have zbs := hc2.lt; have za2 : z.cell? ⟨w.heap.size, 2, none⟩ = some (.slice ap pn apc) := cell_of_row _ _ _ _ _ _ hc1; have za3 : z.cell? ⟨w.heap.size, 3, none⟩ = some (.slice ad dn adc) := cell_of_row _ _ _ _ _ _ hc1; have zb2 : z.cell? ⟨w.heap.size + 1, 2, none⟩ = some (.slice bp pn bpc) := cell_of_row _ _ _ _ _ _ hc2; have zb3 : z.cell? ⟨w.heap.size + 1, 3, none⟩ = some (.slice bd dn bdc) := cell_of_row _ _ _ _ _ _ hc2; clear hz hc1 hc2)
    | (go_at_call 38; (with_reducible refine (HC.out _ HX.out).mono ?_); rintro e' y ⟨rfl, hy⟩; have HY := Lib.hid (HX.out.trans hy); have hc1 := HX1.out.up hy; have hc2 := HX2.out.up hy; have HY1 := Lib.hid hc1; have HY2 := Lib.hid hc2; have yas := hc1.lt; have ybs := hc2.lt; have ya4 : y.cell? ⟨w.heap.size, 4, none⟩ = some (.slice ao on_ aoc) := cell_of_row _ _ _ _ _ _ hc1; have yb4 : y.cell? ⟨w.heap.size + 1, 4, none⟩ = some (.slice bo on_ boc) := cell_of_row _ _ _ _ _ _ hc2; clear hy hc1 hc2)
    | (go_at_call 11; (with_reducible refine (HS.out _ HU.out).mono ?_); rintro e' x ⟨rfl, hx⟩; have HX := Lib.hid (HU.out.trans hx); have hc1 := HB1.out.up hx; have hc2 := HB2.out.up hx; have HX1 := Lib.hid hc1; have HX2 := Lib.hid hc2; have xas := hc1.lt; have xbs := hc2.lt; have xa1 : x.cell? ⟨w.heap.size, 1, none⟩ = some (.slice ac cn acc) := cell_of_row _ _ _ _ _ _ hc1; have xb1 : x.cell? ⟨w.heap.size + 1, 1, none⟩ = some (.slice bc cn bcc) := cell_of_row _ _ _ _ _ _ hc2; clear hx hc1 hc2))
  go_loopw [5] (fun iv y => ∃ i : Nat, iv = .int .i64 i ∧ i ≤ pn ∧ Up w y ∧ BoxC y w.heap.size 27 #[.slice as_ sn asc, .slice ac cn acc, .slice ap pn apc, .slice ad dn adc, .slice ao on_ aoc] ∧ BoxC y (w.heap.size + 1) 27 #[.slice bs sn bsc, .slice bc cn bcc, .slice bp pn bpc, .slice bd dn bdc, .slice bo on_ boc]) (fun iv _ => pn - (intOf iv).toNat)
  case atStart => exact ⟨0, rfl, Nat.zero_le _, HZ.out, HZ1.out, HZ2.out⟩
  case round =>
    clear za2 za3 zb2 zb3 zas zbs
    rename World => y2
    obtain ⟨i, rfl, hi, hup, hb1, hb2⟩ := hrel
    have HUY := Lib.hid hup
    have HBA := Lib.hid hb1
    have HBB := Lib.hid hb2
    have a2 : y2.cell? ⟨w.heap.size, 2, none⟩ = some (.slice ap pn apc) := cell_of_row _ _ _ _ _ _ hb1
    have b2 : y2.cell? ⟨w.heap.size + 1, 2, none⟩ = some (.slice bp pn bpc) := cell_of_row _ _ _ _ _ _ hb2
    have asz := hb1.lt
    have bsz := hb2.lt
    clear hup hb1 hb2
    by_cases hlt : i < pn
    · have hltI : (i : Int) < pn := by omega
      have hi1 : i < pars.length := by rw [HPN.out]; exact hlt
      obtain ⟨ga, oa, la, lca, rfl, hga, ha0, ha1, ha2, ha3, ha4, ha5, ha6, hal⟩ := HPA.out.parc i hi1
      obtain ⟨gb, ob, lb, lcb, rfl, hgb, hb0, hb1, hb2, hb3, hb4, hb5, hb6, hbl⟩ := HPB.out.parc i hi1
      obtain ⟨x, hx⟩ : ∃ x, pars[i] = x := ⟨_, rfl⟩
      rw [hx] at ha0 ha1 ha2 ha3 ha4 ha5 ha6 hal hb0 hb1 hb2 hb3 hb4 hb5 hb6 hbl
      obtain ⟨s, ⟨t0, t1, t2, t3, t4⟩, ls⟩ := x
      dsimp only at ha0 ha1 ha2 ha3 ha4 ha5 ha6 hal hb0 hb1 hb2 hb3 hb4 hb5 hb6 hbl
      obtain ⟨ln, hln⟩ : ∃ q, ls.length = q := ⟨_, rfl⟩
      rw [hln] at ha6 hal hb6 hbl
      have c0 := ha0 y2 HUY.out
      have c1 := ha1 y2 HUY.out
      have c2 := ha2 y2 HUY.out
      have c3 := ha3 y2 HUY.out
      have c4 := ha4 y2 HUY.out
      have c5 := ha5 y2 HUY.out
      have c6 := ha6 y2 HUY.out
      have d0 := hb0 y2 HUY.out
      have d1 := hb1 y2 HUY.out
      have d2 := hb2 y2 HUY.out
      have d3 := hb3 y2 HUY.out
      have d4 := hb4 y2 HUY.out
      have d5 := hb5 y2 HUY.out
      have d6 := hb6 y2 HUY.out
      have HCL := Lib.hid (fun z (hz : Up w z) => base_Lins z _ _ ls (hal.up linR_up hz) (hbl.up linR_up hz))
      have gas := Nat.lt_of_lt_of_le hga HUY.out.size
      have gbs := Nat.lt_of_lt_of_le hgb HUY.out.size
      have q := tl_eq s s
      rw [decide_eq_true rfl] at q
      have qt := run_neq_typ t0 t1 t2 t3 t4
      clear hx hi1 ha0 ha1 ha2 ha3 ha4 ha5 ha6 hal hb0 hb1 hb2 hb3 hb4 hb5 hb6 hbl hga hgb hln
      go_upto_region 6 with fail
      refine wp_region_ext (by kernel_rfl) (by kernel_rfl) ?_
      repeat (go_big_quiet_step ((go_at_call 39; exact Calls.ext_of (HCL.out _ (HUY.out.trans (Ext.up _))))))
      refine wpQuiet_nil ?_
      intro z2 hz
      have HUZ := Lib.hid (HUY.out.trans hz)
      have HZA := Lib.hid (HBA.out.up hz)
      have HZB := Lib.hid (HBB.out.up hz)
      clear hz c0 c1 c2 c3 c4 c5 c6 d0 d1 d2 d3 d4 d5 d6 gas gbs a2 b2 asz bsz
      go_wp2
      go_roundw
      case rel => exact ⟨i + 1, by go_num, by omega, HUZ.out, HZA.out, HZB.out⟩
      case measure => simp [intOf]; omega
    · obtain rfl : pn = i := by omega
      go_wp2
      have HU5 := Lib.hid HUY.out
      have HA5 := Lib.hid HBA.out
      have HB5 := Lib.hid HBB.out
      clear HUY HBA HBB a2 b2 asz bsz hlt hi
      go_loopw [6] (fun iv y => ∃ i : Nat, iv = .int .i64 i ∧ i ≤ dn ∧ Up w y ∧ BoxC y w.heap.size 27 #[.slice as_ sn asc, .slice ac cn acc, .slice ap pn apc, .slice ad dn adc, .slice ao on_ aoc] ∧ BoxC y (w.heap.size + 1) 27 #[.slice bs sn bsc, .slice bc cn bcc, .slice bp pn bpc, .slice bd dn bdc, .slice bo on_ boc]) (fun iv _ => dn - (intOf iv).toNat)
      case atStart => exact ⟨0, rfl, Nat.zero_le _, HU5.out, HA5.out, HB5.out⟩
      case round =>
        clear HU5 HA5 HB5
        rename World => y3
        obtain ⟨i, rfl, hi, hup, hb1, hb2⟩ := hrel
        have HUY := Lib.hid hup
        have HBA := Lib.hid hb1
        have HBB := Lib.hid hb2
        have a3 : y3.cell? ⟨w.heap.size, 3, none⟩ = some (.slice ad dn adc) := cell_of_row _ _ _ _ _ _ hb1
        have b3 : y3.cell? ⟨w.heap.size + 1, 3, none⟩ = some (.slice bd dn bdc) := cell_of_row _ _ _ _ _ _ hb2
        have asz := hb1.lt
        have bsz := hb2.lt
        clear hup hb1 hb2
        by_cases hlt : i < dn
        · have hltI : (i : Int) < dn := by omega
          have hi1 : i < defs.length := by rw [HDN.out]; exact hlt
          obtain ⟨ga, oa, ca, rfl, hga, hca, hra, -, -, -⟩ := HDA.out.def i hi1
          obtain ⟨gb, ob, cb, rfl, hgb, hcb, hrb, -, -, -⟩ := HDB.out.def i hi1
          have HLA := Lib.hid hra
          have HLB := Lib.hid hrb
          have HCD := Lib.hid (fun z (hz : Up w z) => base_Def N z (.agg ca) (.agg cb) _ (DefAt.up ⟨ca, rfl, hca⟩ hz) (DefAt.up ⟨cb, rfl, hcb⟩ hz))
          have gas := Nat.lt_of_lt_of_le hga HUY.out.size
          have gbs := Nat.lt_of_lt_of_le hgb HUY.out.size
          clear hi1 hra hrb hga hgb hca hcb
          go_upto_region 11 with fail
          refine wp_region_ext (by kernel_rfl) (by kernel_rfl) ?_
          iterate 4 (go_big_quiet_step (fail))
          refine wpQuiet_load (fun z hz => by obtain ⟨j, rfl⟩ := hz; exact HLA.out _ (HUY.out.trans j.up)) (by rfl) ?_
          simp only [Act.put, List.setIfInBounds_toArray, List.set_cons_succ, List.set_cons_zero]
          iterate 4 (go_big_quiet_step (fail))
          refine wpQuiet_load (fun z hz => by obtain ⟨j, rfl⟩ := hz; exact HLB.out _ (HUY.out.trans j.up)) (by rfl) ?_
          simp only [Act.put, List.setIfInBounds_toArray, List.set_cons_succ, List.set_cons_zero]
          repeat (go_big_quiet_step ((go_at_call 40; exact Calls.ext_of (HCD.out _ (HUY.out.trans (Ext.up _))))))
          refine wpQuiet_nil ?_
          intro z2 hz
          have HUZ := Lib.hid (HUY.out.trans hz)
          have HZA := Lib.hid (HBA.out.up hz)
          have HZB := Lib.hid (HBB.out.up hz)
          clear hz gas gbs a3 b3 asz bsz
          go_wp2
          go_roundw
          case rel => exact ⟨i + 1, by go_num, by omega, HUZ.out, HZA.out, HZB.out⟩
          case measure => simp [intOf]; omega
        · obtain rfl : dn = i := by omega
          go_wp2
          go_ret
          exact ⟨rfl, HUY.out⟩
end Go.Proofs.Ytpccaifhcmcegaa
