/-
  Joined by a program: DgE4, DgE5.
-/
import Derived.Test.YtpccaifhcmcegaaGreatDgE3
import Derived.Test.YtpccaifhcmcegaaGreatHh
import Derived.Test.YtpccaifhcmcegaaGreatHi

section
namespace Go.Proofs.YtpccaifhcmcegaaGreat
set_option linter.unusedSimpArgs false
open Go.ChangeShapes Go.WideShapes Go.ChangeAt Go.RowKit
set_option linter.unusedVariables false
set_option maxRecDepth 100000

theorem LsAt.axc {w : World} {a : Option Addr} {n c : Nat} {l : List Ax} (h : LsAt 3 48 axR w (.slice a n c) l) (i : Nat) (hi : i < l.length) :
    ∃ (g o : Nat) (la : Option Addr) (lc : Nat), a = some ⟨g, o, none⟩ ∧ g < w.heap.size ∧ (∀ y, Up w y → y.cell? ⟨g, o + i * 3, none⟩ = some (.string l[i].1)) ∧ (∀ y, Up w y → y.cell? ⟨g, o + i * 3 + 1, none⟩ = some (.int .i64 l[i].2.1)) ∧ (∀ y, Up w y → y.cell? ⟨g, o + i * 3 + 2, none⟩ = some (.slice la l[i].2.2.length lc)) ∧ LsAt 2 24 monR w (.slice la l[i].2.2.length lc) l[i].2.2 := by
  obtain ⟨g, o, f, e, hg, hf, ⟨h0, _⟩, h1, h2⟩ := h.elem i hi
  dsimp only at h1 h2
  obtain ⟨la, lc, e2, _⟩ := h2.shape
  refine ⟨g, o, la, lc, e, hg, fun y hy => ?_, fun y hy => ?_, fun y hy => ?_, e2 ▸ h2⟩
  · have := cell_up' hy hg (hf 0 (by decide)); rw [h0, Nat.add_zero] at this; exact this
  · have := cell_up' hy hg (hf 1 (by decide)); rw [h1] at this; exact this
  · have := cell_up' hy hg (hf 2 (by decide)); rw [e2] at this; exact this

set_option maxHeartbeats 8000000 in
theorem base_Axes (w : World) (va vb : Value) (l : List Ax) (ha : LsAt 3 48 axR w va l) (hb : LsAt 3 48 axR w vb l) :
    Calls Tryz.prog 50 #[va, vb] w fun e w' => e = .returned (.bool true) ∧ Up w w' := by
  obtain ⟨aa, ac, rfl, -⟩ := ha.shape
  obtain ⟨ba, bc, rfl, -⟩ := hb.shape
  obtain ⟨n, hn⟩ : ∃ n, l.length = n := ⟨_, rfl⟩
  have hnI : (n : Int) ≤ 140737488351232 := by have := ha.bytes; omega
  rw [hn] at ha hb ⊢
  have HA := Lib.hid ha
  have HB := Lib.hid hb
  have HN := Lib.hid hn
  clear ha hb hn
  go_enter Tryz.func50, Tryz.ntmps50
  go_wp2
  go_loopw [5] (fun iv y => ∃ i : Nat, iv = .int .i64 i ∧ i ≤ n ∧ Up w y) (fun iv _ => n - (intOf iv).toNat)
  case atStart => exact ⟨0, rfl, Nat.zero_le _, Up.refl _⟩
  case round =>
    rename World => y
    obtain ⟨i, rfl, hi, hup⟩ := hrel
    have HUY := Lib.hid hup
    clear hup
    by_cases hlt : i < n
    · have hltI : (i : Int) < n := by omega
      have hi1 : i < l.length := by rw [HN.out]; exact hlt
      obtain ⟨ga, oa, la, lca, rfl, hga, ha0, ha1, ha2, hal⟩ := HA.out.axc i hi1
      obtain ⟨gb, ob, lb, lcb, rfl, hgb, hb0, hb1, hb2, hbl⟩ := HB.out.axc i hi1
      obtain ⟨x, hx⟩ : ∃ x, l[i] = x := ⟨_, rfl⟩
      rw [hx] at ha0 ha1 ha2 hal hb0 hb1 hb2 hbl
      obtain ⟨s, K, ms⟩ := x
      dsimp only at ha0 ha1 ha2 hal hb0 hb1 hb2 hbl
      obtain ⟨ln, hln⟩ : ∃ q, ms.length = q := ⟨_, rfl⟩
      rw [hln] at ha2 hal hb2 hbl
      have c0 := ha0 y HUY.out
      have c1 := ha1 y HUY.out
      have c2 := ha2 y HUY.out
      have d0 := hb0 y HUY.out
      have d1 := hb1 y HUY.out
      have d2 := hb2 y HUY.out
      have HC := Lib.hid (fun z (hz : Up w z) => base_Lin z _ _ (K, ms) ((AtV.ofLin hln hal).up linR_k hz) ((AtV.ofLin hln hbl).up linR_k hz))
      have gas := Nat.lt_of_lt_of_le hga HUY.out.size
      have gbs := Nat.lt_of_lt_of_le hgb HUY.out.size
      have q := tl_eq s s
      rw [decide_eq_true rfl] at q
      clear hx hi1 ha0 ha1 ha2 hal hb0 hb1 hb2 hbl hga hgb hln
      go_upto_region 6 with fail
      refine wp_region_ext (by kernel_rfl) (by kernel_rfl) ?_
      repeat (go_big_quiet_step ((go_at_call 49; exact Calls.ext_of (HC.out _ (HUY.out.trans (Ext.up _))))))
      refine wpQuiet_nil ?_
      intro z hz
      have HUZ := Lib.hid (HUY.out.trans hz)
      clear hz c0 c1 c2 d0 d1 d2 gas gbs
      go_wp2
      go_roundw
      case rel => exact ⟨i + 1, by go_num, by omega, HUZ.out⟩
      case measure => simp [intOf]; omega
    · obtain rfl : n = i := by omega
      go_wp2
      go_ret
      exact ⟨rfl, HUY.out⟩

theorem CsAt.dcells {N : Nat} {w : World} {cs : Array Value} {d : Df} (h : CsAt 22 (defR N) w cs d) : ∃ (ma : Option Addr) (mc : Nat) (ra : Option Addr) (rc : Nat), cs.getD 0 undef = .string d.nm ∧ cs.getD 1 undef = .int .i64 d.ty.1 ∧ cs.getD 2 undef = .int .i64 d.ty.2.1 ∧ cs.getD 3 undef = .int .i64 d.ty.2.2.1 ∧ cs.getD 4 undef = .int .i64 d.ty.2.2.2.1 ∧ cs.getD 5 undef = .int .i64 d.ty.2.2.2.2 ∧ cs.getD 6 undef = .slice ma d.dims.length mc ∧ cs.getD 7 undef = .slice ra d.red.length rc ∧ cs.getD 8 undef = .int .i64 d.fold ∧ LsAt 3 48 axR w (.slice ma d.dims.length mc) d.dims ∧ LsAt 3 48 axR w (.slice ra d.red.length rc) d.red := by
  obtain ⟨hs, ⟨h0, _⟩, ⟨g0, g1, g2, g3, g4⟩, h2, h3, h4, h5⟩ := h
  dsimp only at h0 g0 g1 g2 g3 g4 h2 h3 h4
  obtain ⟨ma, mc, e2, _⟩ := h2.shape
  obtain ⟨ra, rc, e3, _⟩ := h3.shape
  exact ⟨ma, mc, ra, rc, h0, g0, g1, g2, g3, g4, e2, e3, h4, e2 ▸ h2, e3 ▸ h3⟩
set_option maxHeartbeats 16000000 in
theorem base_Def (N : Nat) (w : World) (va vb : Value) (d : Df) (ha : DefAt N w va d) (hb : DefAt N w vb d) :
    Calls Tryz.prog 29 #[va, vb] w fun e w' => e = .returned (.bool true) ∧ Up w w' := by
  obtain ⟨ca, rfl, hca⟩ := ha
  obtain ⟨cb, rfl, hcb⟩ := hb
  have hsa := hca.1
  have hsb := hcb.1
  have HU := Lib.hid (((Up.refl w).alloc (.cells ca 50)).alloc (.cells cb 50))
  have hb1 := ((BoxC.new w 50 ca).up ((Up.refl _).alloc (.cells cb 50)))
  have hb2 := (BoxC.new2 w (.cells ca 50) 50 cb)
  have HB1 := Lib.hid hb1
  have HB2 := Lib.hid hb2
  have HX := Lib.hid (fun y (hy : Up w y) => base_Expr N d.body y _ _ (AtV.up (exR_k N) ⟨_, rfl, hca.body⟩ hy) (AtV.up (exR_k N) ⟨_, rfl, hcb.body⟩ hy))
  have hea := hca.body.1
  have heb := hcb.body.1
  obtain ⟨ama, amc, ara, arc, x0, x1, x2, x3, x4, x5, x6, x7, x8, xd, xr⟩ := hca.dcells
  obtain ⟨bma, bmc, bra, brc, y0, y1, y2, y3, y4, y5, y6, y7, y8, yd, yr⟩ := hcb.dcells
  have HM := Lib.hid (fun y (hy : Up w y) => base_Axes y _ _ d.dims (xd.up axR_up hy) (yd.up axR_up hy))
  have HR := Lib.hid (fun y (hy : Up w y) => base_Axes y _ _ d.red (xr.up axR_up hy) (yr.up axR_up hy))
  obtain ⟨nm, ty, dims, red, fold, body⟩ := d
  obtain ⟨t0, t1, t2, t3, t4⟩ := ty
  dsimp only at *
  obtain ⟨dn, hdn⟩ : ∃ q, dims.length = q := ⟨_, rfl⟩
  obtain ⟨rn, hrn⟩ : ∃ q, red.length = q := ⟨_, rfl⟩
  rw [hdn] at x6 y6 HM
  rw [hrn] at x7 y7 HR
  have a0 := hb1.at x0 (by omega)
  have b0 := hb2.at y0 (by omega)
  have a1 := hb1.at x1 (by omega)
  have b1 := hb2.at y1 (by omega)
  have a2 := hb1.at x2 (by omega)
  have b2 := hb2.at y2 (by omega)
  have a3 := hb1.at x3 (by omega)
  have b3 := hb2.at y3 (by omega)
  have a4 := hb1.at x4 (by omega)
  have b4 := hb2.at y4 (by omega)
  have a5 := hb1.at x5 (by omega)
  have b5 := hb2.at y5 (by omega)
  have a6 := hb1.at x6 (by omega)
  have b6 := hb2.at y6 (by omega)
  have a7 := hb1.at x7 (by omega)
  have b7 := hb2.at y7 (by omega)
  have a8 := hb1.at x8 (by omega)
  have b8 := hb2.at y8 (by omega)
  have asz := hb1.lt
  have bsz := hb2.lt
  have q := tl_eq nm nm
  rw [decide_eq_true rfl] at q
  have qt := run_eql_typ t0 t1 t2 t3 t4
  have HXA : Hid (∀ y, BoxC y w.heap.size 50 ca → (Instr.loadAt 48 (.pointer (some ⟨w.heap.size, 9, none⟩))).run Tryz.prog y = .ok (.agg (ca.extract 9 (9 + 13))) y) := Lib.hid (fun y hy => run_ex hea (hy.sub 9 13))
  have HXB : Hid (∀ y, BoxC y (w.heap.size + 1) 50 cb → (Instr.loadAt 48 (.pointer (some ⟨w.heap.size + 1, 9, none⟩))).run Tryz.prog y = .ok (.agg (cb.extract 9 (9 + 13))) y) := Lib.hid (fun y hy => run_ex heb (hy.sub 9 13))
  generalize ca.extract 9 (9 + 13) = ea at *
  generalize cb.extract 9 (9 + 13) = eb at *
  have X7 := Lib.hid x7
  have Y7 := Lib.hid y7
  have SA := Lib.hid hsa
  have SB := Lib.hid hsb
  clear x0 x1 x2 x3 x4 x5 x6 x7 x8 y0 y1 y2 y3 y4 y5 y6 y7 y8 xd xr yd yr hb1 hb2 hdn hrn hsa hsb hea heb hca hcb
  go_enter Tryz.func29, Tryz.ntmps29
  go_wp2_with (first
    | (refine st_loadG (HXB.out _ HZ2.out) (by rfl) (by rfl) ?_)
    | (refine st_loadG (HXA.out _ HZ1.out) (by rfl) (by rfl) ?_)
    | (go_at_call 51; (with_reducible refine (HX.out _ HZ.out).mono ?_); rintro e' x ⟨rfl, hx⟩; have HF := Lib.hid (HZ.out.trans hx); clear hx)
    | (go_at_call 50; (with_reducible refine (HR.out _ HY.out).mono ?_); rintro e' z ⟨rfl, hz⟩; have HZ := Lib.hid (HY.out.trans hz); have hc1 := HY1.out.up hz; have hc2 := HY2.out.up hz; have HZ1 := Lib.hid hc1; have HZ2 := Lib.hid hc2; have zas := hc1.lt; have zbs := hc2.lt; clear hz hc1 hc2)
    | (go_at_call 50; (with_reducible refine (HM.out _ HU.out).mono ?_); rintro e' y ⟨rfl, hy⟩; have HY := Lib.hid (HU.out.trans hy); have hc1 := HB1.out.up hy; have hc2 := HB2.out.up hy; have HY1 := Lib.hid hc1; have HY2 := Lib.hid hc2; have yas := hc1.lt; have ybs := hc2.lt; have ya7 := hc1.at X7.out (by have := SA.out; omega); have yb7 := hc2.at Y7.out (by have := SB.out; omega); clear hy hc1 hc2))
  go_ret
  exact ⟨rfl, HF.out⟩
end Go.Proofs.YtpccaifhcmcegaaGreat
end

section
namespace Go.Proofs.YtpccaifhcmcegaaGreat
set_option linter.unusedSimpArgs false
open Go.ChangeShapes Go.WideShapes Go.ChangeAt Go.RowKit
set_option linter.unusedVariables false
set_option maxRecDepth 100000

theorem LsAt.parc {w : World} {a : Option Addr} {n c : Nat} {l : List Par} (h : LsAt 7 80 parR w (.slice a n c) l) (i : Nat) (hi : i < l.length) :
    ∃ (g o : Nat) (la : Option Addr) (lc : Nat), a = some ⟨g, o, none⟩ ∧ g < w.heap.size ∧ (∀ y, Up w y → y.cell? ⟨g, o + i * 7, none⟩ = some (.string l[i].1)) ∧ (∀ y, Up w y → y.cell? ⟨g, o + i * 7 + 1, none⟩ = some (.int .i64 l[i].2.1.1)) ∧ (∀ y, Up w y → y.cell? ⟨g, o + i * 7 + 2, none⟩ = some (.int .i64 l[i].2.1.2.1)) ∧ (∀ y, Up w y → y.cell? ⟨g, o + i * 7 + 3, none⟩ = some (.int .i64 l[i].2.1.2.2.1)) ∧ (∀ y, Up w y → y.cell? ⟨g, o + i * 7 + 4, none⟩ = some (.int .i64 l[i].2.1.2.2.2.1)) ∧ (∀ y, Up w y → y.cell? ⟨g, o + i * 7 + 5, none⟩ = some (.int .i64 l[i].2.1.2.2.2.2)) ∧ (∀ y, Up w y → y.cell? ⟨g, o + i * 7 + 6, none⟩ = some (.slice la l[i].2.2.length lc)) ∧ LsAt 2 32 linR w (.slice la l[i].2.2.length lc) l[i].2.2 := by
  obtain ⟨g, o, f, e, hg, hf, ⟨h0, _⟩, ⟨t0, t1, t2, t3, t4⟩, h2⟩ := h.elem i hi
  dsimp only at t0 t1 t2 t3 t4 h2
  obtain ⟨la, lc, e2, _⟩ := h2.shape
  refine ⟨g, o, la, lc, e, hg, fun y hy => ?_, fun y hy => ?_, fun y hy => ?_, fun y hy => ?_, fun y hy => ?_, fun y hy => ?_, fun y hy => ?_, e2 ▸ h2⟩
  · have := cell_up' hy hg (hf 0 (by decide)); rw [h0, Nat.add_zero] at this; exact this
  · have := cell_up' hy hg (hf 1 (by decide)); rw [t0] at this; exact this
  · have := cell_up' hy hg (hf 2 (by decide)); rw [t1] at this; exact this
  · have := cell_up' hy hg (hf 3 (by decide)); rw [t2] at this; exact this
  · have := cell_up' hy hg (hf 4 (by decide)); rw [t3] at this; exact this
  · have := cell_up' hy hg (hf 5 (by decide)); rw [t4] at this; exact this
  · have := cell_up' hy hg (hf 6 (by decide)); rw [e2] at this; exact this

set_option maxHeartbeats 16000000 in
theorem base_Prog (N : Nat) (w : World) (va vb : Value) (p : Pg) (ha : ProgAt N w va p) (hb : ProgAt N w vb p) :
    Calls Tryz.prog 8 #[va, vb] w fun e w' => e = .returned (.bool true) ∧ Up w w' := by
  obtain ⟨as_, asc, ac, acc, ap, apc, ad, adc, ao, aoc, rfl, has, hac, hap, had, hao⟩ := ha.open
  obtain ⟨bs, bsc, bc, bcc, bp, bpc, bd, bdc, bo, boc, rfl, hbs, hbc, hbp, hbd, hbo⟩ := hb.open
  clear ha hb
  obtain ⟨sizes, cons, pars, defs, outs⟩ := p
  dsimp only at *
  obtain ⟨sn, hsn⟩ : ∃ q, sizes.length = q := ⟨_, rfl⟩
  obtain ⟨cn, hcnn⟩ : ∃ q, cons.length = q := ⟨_, rfl⟩
  obtain ⟨pn, hpn⟩ : ∃ q, pars.length = q := ⟨_, rfl⟩
  obtain ⟨dn, hdn⟩ : ∃ q, defs.length = q := ⟨_, rfl⟩
  obtain ⟨on_, hon⟩ : ∃ q, outs.length = q := ⟨_, rfl⟩
  rw [hsn] at has hbs ⊢
  rw [hcnn] at hac hbc ⊢
  rw [hpn] at hap hbp ⊢
  rw [hdn] at had hbd ⊢
  rw [hon] at hao hbo ⊢
  have hpI : (pn : Int) ≤ 140737488351232 := by have := hap.bytes; omega
  have hdI : (dn : Int) ≤ 140737488351232 := by have := had.bytes; omega
  have HU := Lib.hid (((Up.refl w).alloc (.cells #[.slice as_ sn asc, .slice ac cn acc, .slice ap pn apc, .slice ad dn adc, .slice ao on_ aoc] 27)).alloc (.cells #[.slice bs sn bsc, .slice bc cn bcc, .slice bp pn bpc, .slice bd dn bdc, .slice bo on_ boc] 27))
  have hb1 := ((BoxC.new w 27 #[.slice as_ sn asc, .slice ac cn acc, .slice ap pn apc, .slice ad dn adc, .slice ao on_ aoc]).up ((Up.refl _).alloc (.cells #[.slice bs sn bsc, .slice bc cn bcc, .slice bp pn bpc, .slice bd dn bdc, .slice bo on_ boc] 27)))
  have hb2 := (BoxC.new2 w (.cells #[.slice as_ sn asc, .slice ac cn acc, .slice ap pn apc, .slice ad dn adc, .slice ao on_ aoc] 27) 27 #[.slice bs sn bsc, .slice bc cn bcc, .slice bp pn bpc, .slice bd dn bdc, .slice bo on_ boc])
  have HB1 := Lib.hid hb1
  have HB2 := Lib.hid hb2
  have HS := Lib.hid (fun y (hy : Up w y) => base_Strings _ _ sizes sizes y (has.up strR_up hy) (hbs.up strR_up hy) true (decide_eq_true rfl))
  have HC := Lib.hid (fun y (hy : Up w y) => base_Cons y _ _ cons (hac.up conR_up hy) (hbc.up conR_up hy))
  have HO := Lib.hid (fun y (hy : Up w y) => base_Strings _ _ outs outs y (hao.up strR_up hy) (hbo.up strR_up hy) true (decide_eq_true rfl))
  have HPA := Lib.hid hap
  have HPB := Lib.hid hbp
  have HDA := Lib.hid had
  have HDB := Lib.hid hbd
  have HPN := Lib.hid hpn
  have HDN := Lib.hid hdn
  have a0 : ((w.alloc (.cells #[.slice as_ sn asc, .slice ac cn acc, .slice ap pn apc, .slice ad dn adc, .slice ao on_ aoc] 27)).alloc (.cells #[.slice bs sn bsc, .slice bc cn bcc, .slice bp pn bpc, .slice bd dn bdc, .slice bo on_ boc] 27)).cell? ⟨w.heap.size, 0, none⟩ = some (.slice as_ sn asc) := cell_of_row _ _ _ _ _ _ hb1
  have a1 : ((w.alloc (.cells #[.slice as_ sn asc, .slice ac cn acc, .slice ap pn apc, .slice ad dn adc, .slice ao on_ aoc] 27)).alloc (.cells #[.slice bs sn bsc, .slice bc cn bcc, .slice bp pn bpc, .slice bd dn bdc, .slice bo on_ boc] 27)).cell? ⟨w.heap.size, 1, none⟩ = some (.slice ac cn acc) := cell_of_row _ _ _ _ _ _ hb1
  have a2 : ((w.alloc (.cells #[.slice as_ sn asc, .slice ac cn acc, .slice ap pn apc, .slice ad dn adc, .slice ao on_ aoc] 27)).alloc (.cells #[.slice bs sn bsc, .slice bc cn bcc, .slice bp pn bpc, .slice bd dn bdc, .slice bo on_ boc] 27)).cell? ⟨w.heap.size, 2, none⟩ = some (.slice ap pn apc) := cell_of_row _ _ _ _ _ _ hb1
  have a3 : ((w.alloc (.cells #[.slice as_ sn asc, .slice ac cn acc, .slice ap pn apc, .slice ad dn adc, .slice ao on_ aoc] 27)).alloc (.cells #[.slice bs sn bsc, .slice bc cn bcc, .slice bp pn bpc, .slice bd dn bdc, .slice bo on_ boc] 27)).cell? ⟨w.heap.size, 3, none⟩ = some (.slice ad dn adc) := cell_of_row _ _ _ _ _ _ hb1
  have a4 : ((w.alloc (.cells #[.slice as_ sn asc, .slice ac cn acc, .slice ap pn apc, .slice ad dn adc, .slice ao on_ aoc] 27)).alloc (.cells #[.slice bs sn bsc, .slice bc cn bcc, .slice bp pn bpc, .slice bd dn bdc, .slice bo on_ boc] 27)).cell? ⟨w.heap.size, 4, none⟩ = some (.slice ao on_ aoc) := cell_of_row _ _ _ _ _ _ hb1
  have b0 : ((w.alloc (.cells #[.slice as_ sn asc, .slice ac cn acc, .slice ap pn apc, .slice ad dn adc, .slice ao on_ aoc] 27)).alloc (.cells #[.slice bs sn bsc, .slice bc cn bcc, .slice bp pn bpc, .slice bd dn bdc, .slice bo on_ boc] 27)).cell? ⟨w.heap.size + 1, 0, none⟩ = some (.slice bs sn bsc) := cell_of_row _ _ _ _ _ _ hb2
  have b1 : ((w.alloc (.cells #[.slice as_ sn asc, .slice ac cn acc, .slice ap pn apc, .slice ad dn adc, .slice ao on_ aoc] 27)).alloc (.cells #[.slice bs sn bsc, .slice bc cn bcc, .slice bp pn bpc, .slice bd dn bdc, .slice bo on_ boc] 27)).cell? ⟨w.heap.size + 1, 1, none⟩ = some (.slice bc cn bcc) := cell_of_row _ _ _ _ _ _ hb2
  have b2 : ((w.alloc (.cells #[.slice as_ sn asc, .slice ac cn acc, .slice ap pn apc, .slice ad dn adc, .slice ao on_ aoc] 27)).alloc (.cells #[.slice bs sn bsc, .slice bc cn bcc, .slice bp pn bpc, .slice bd dn bdc, .slice bo on_ boc] 27)).cell? ⟨w.heap.size + 1, 2, none⟩ = some (.slice bp pn bpc) := cell_of_row _ _ _ _ _ _ hb2
  have b3 : ((w.alloc (.cells #[.slice as_ sn asc, .slice ac cn acc, .slice ap pn apc, .slice ad dn adc, .slice ao on_ aoc] 27)).alloc (.cells #[.slice bs sn bsc, .slice bc cn bcc, .slice bp pn bpc, .slice bd dn bdc, .slice bo on_ boc] 27)).cell? ⟨w.heap.size + 1, 3, none⟩ = some (.slice bd dn bdc) := cell_of_row _ _ _ _ _ _ hb2
  have b4 : ((w.alloc (.cells #[.slice as_ sn asc, .slice ac cn acc, .slice ap pn apc, .slice ad dn adc, .slice ao on_ aoc] 27)).alloc (.cells #[.slice bs sn bsc, .slice bc cn bcc, .slice bp pn bpc, .slice bd dn bdc, .slice bo on_ boc] 27)).cell? ⟨w.heap.size + 1, 4, none⟩ = some (.slice bo on_ boc) := cell_of_row _ _ _ _ _ _ hb2
  have asz := hb1.lt
  have bsz := hb2.lt
  clear hb1 hb2 has hbs hac hbc hap hbp had hbd hao hbo hsn hcnn hpn hdn hon
  go_enter Tryz.func8, Tryz.ntmps8
  go_wp2_with (first
    | (go_at_call 14; (with_reducible refine (HO.out _ HY.out).mono ?_); rintro e' z ⟨rfl, hz⟩; have HZ := Lib.hid (HY.out.trans hz); have hc1 := HY1.out.up hz; have hc2 := HY2.out.up hz; have HZ1 := Lib.hid hc1; have HZ2 := Lib.hid hc2; have zas := hc1.lt; have zbs := hc2.lt; have za2 : z.cell? ⟨w.heap.size, 2, none⟩ = some (.slice ap pn apc) := cell_of_row _ _ _ _ _ _ hc1; have za3 : z.cell? ⟨w.heap.size, 3, none⟩ = some (.slice ad dn adc) := cell_of_row _ _ _ _ _ _ hc1; have zb2 : z.cell? ⟨w.heap.size + 1, 2, none⟩ = some (.slice bp pn bpc) := cell_of_row _ _ _ _ _ _ hc2; have zb3 : z.cell? ⟨w.heap.size + 1, 3, none⟩ = some (.slice bd dn bdc) := cell_of_row _ _ _ _ _ _ hc2; clear hz hc1 hc2)
    | (go_at_call 27; (with_reducible refine (HC.out _ HX.out).mono ?_); rintro e' y ⟨rfl, hy⟩; have HY := Lib.hid (HX.out.trans hy); have hc1 := HX1.out.up hy; have hc2 := HX2.out.up hy; have HY1 := Lib.hid hc1; have HY2 := Lib.hid hc2; have yas := hc1.lt; have ybs := hc2.lt; have ya4 : y.cell? ⟨w.heap.size, 4, none⟩ = some (.slice ao on_ aoc) := cell_of_row _ _ _ _ _ _ hc1; have yb4 : y.cell? ⟨w.heap.size + 1, 4, none⟩ = some (.slice bo on_ boc) := cell_of_row _ _ _ _ _ _ hc2; clear hy hc1 hc2)
    | (go_at_call 14; (with_reducible refine (HS.out _ HU.out).mono ?_); rintro e' x ⟨rfl, hx⟩; have HX := Lib.hid (HU.out.trans hx); have hc1 := HB1.out.up hx; have hc2 := HB2.out.up hx; have HX1 := Lib.hid hc1; have HX2 := Lib.hid hc2; have xas := hc1.lt; have xbs := hc2.lt; have xa1 : x.cell? ⟨w.heap.size, 1, none⟩ = some (.slice ac cn acc) := cell_of_row _ _ _ _ _ _ hc1; have xb1 : x.cell? ⟨w.heap.size + 1, 1, none⟩ = some (.slice bc cn bcc) := cell_of_row _ _ _ _ _ _ hc2; clear hx hc1 hc2))
  go_loopw [5] (fun iv y => ∃ i : Nat, iv = .int .i64 i ∧ i ≤ pn ∧ Up w y ∧ BoxC y w.heap.size 27 #[.slice as_ sn asc, .slice ac cn acc, .slice ap pn apc, .slice ad dn adc, .slice ao on_ aoc] ∧ BoxC y (w.heap.size + 1) 27 #[.slice bs sn bsc, .slice bc cn bcc, .slice bp pn bpc, .slice bd dn bdc, .slice bo on_ boc]) (fun iv _ => pn - (intOf iv).toNat)
  case atStart => exact ⟨0, rfl, Nat.zero_le _, HZ.out, HZ1.out, HZ2.out⟩
  case round =>
    clear za2 za3 zb2 zb3 zas zbs
    rename World => y2
    obtain ⟨i, rfl, hi, hup, hb1, hb2⟩ := hrel
    have HUY := Lib.hid hup
    have HBA := Lib.hid hb1
    have HBB := Lib.hid hb2
    have a2 : y2.cell? ⟨w.heap.size, 2, none⟩ = some (.slice ap pn apc) := cell_of_row _ _ _ _ _ _ hb1
    have b2 : y2.cell? ⟨w.heap.size + 1, 2, none⟩ = some (.slice bp pn bpc) := cell_of_row _ _ _ _ _ _ hb2
    have asz := hb1.lt
    have bsz := hb2.lt
    clear hup hb1 hb2
    by_cases hlt : i < pn
    · have hltI : (i : Int) < pn := by omega
      have hi1 : i < pars.length := by rw [HPN.out]; exact hlt
      obtain ⟨ga, oa, la, lca, rfl, hga, ha0, ha1, ha2, ha3, ha4, ha5, ha6, hal⟩ := HPA.out.parc i hi1
      obtain ⟨gb, ob, lb, lcb, rfl, hgb, hb0, hb1, hb2, hb3, hb4, hb5, hb6, hbl⟩ := HPB.out.parc i hi1
      obtain ⟨x, hx⟩ : ∃ x, pars[i] = x := ⟨_, rfl⟩
      rw [hx] at ha0 ha1 ha2 ha3 ha4 ha5 ha6 hal hb0 hb1 hb2 hb3 hb4 hb5 hb6 hbl
      obtain ⟨s, ⟨t0, t1, t2, t3, t4⟩, ls⟩ := x
      dsimp only at ha0 ha1 ha2 ha3 ha4 ha5 ha6 hal hb0 hb1 hb2 hb3 hb4 hb5 hb6 hbl
      obtain ⟨ln, hln⟩ : ∃ q, ls.length = q := ⟨_, rfl⟩
      rw [hln] at ha6 hal hb6 hbl
      have c0 := ha0 y2 HUY.out
      have c1 := ha1 y2 HUY.out
      have c2 := ha2 y2 HUY.out
      have c3 := ha3 y2 HUY.out
      have c4 := ha4 y2 HUY.out
      have c5 := ha5 y2 HUY.out
      have c6 := ha6 y2 HUY.out
      have d0 := hb0 y2 HUY.out
      have d1 := hb1 y2 HUY.out
      have d2 := hb2 y2 HUY.out
      have d3 := hb3 y2 HUY.out
      have d4 := hb4 y2 HUY.out
      have d5 := hb5 y2 HUY.out
      have d6 := hb6 y2 HUY.out
      have HCL := Lib.hid (fun z (hz : Up w z) => base_Lins z _ _ ls (hal.up linR_up hz) (hbl.up linR_up hz))
      have gas := Nat.lt_of_lt_of_le hga HUY.out.size
      have gbs := Nat.lt_of_lt_of_le hgb HUY.out.size
      have q := tl_eq s s
      rw [decide_eq_true rfl] at q
      have qt := run_neq_typ t0 t1 t2 t3 t4
      clear hx hi1 ha0 ha1 ha2 ha3 ha4 ha5 ha6 hal hb0 hb1 hb2 hb3 hb4 hb5 hb6 hbl hga hgb hln
      go_upto_region 6 with fail
      refine wp_region_ext (by kernel_rfl) (by kernel_rfl) ?_
      repeat (go_big_quiet_step ((go_at_call 28; exact Calls.ext_of (HCL.out _ (HUY.out.trans (Ext.up _))))))
      refine wpQuiet_nil ?_
      intro z2 hz
      have HUZ := Lib.hid (HUY.out.trans hz)
      have HZA := Lib.hid (HBA.out.up hz)
      have HZB := Lib.hid (HBB.out.up hz)
      clear hz c0 c1 c2 c3 c4 c5 c6 d0 d1 d2 d3 d4 d5 d6 gas gbs a2 b2 asz bsz
      go_wp2
      go_roundw
      case rel => exact ⟨i + 1, by go_num, by omega, HUZ.out, HZA.out, HZB.out⟩
      case measure => simp [intOf]; omega
    · obtain rfl : pn = i := by omega
      go_wp2
      have HU5 := Lib.hid HUY.out
      have HA5 := Lib.hid HBA.out
      have HB5 := Lib.hid HBB.out
      clear HUY HBA HBB a2 b2 asz bsz hlt hi
      go_loopw [6] (fun iv y => ∃ i : Nat, iv = .int .i64 i ∧ i ≤ dn ∧ Up w y ∧ BoxC y w.heap.size 27 #[.slice as_ sn asc, .slice ac cn acc, .slice ap pn apc, .slice ad dn adc, .slice ao on_ aoc] ∧ BoxC y (w.heap.size + 1) 27 #[.slice bs sn bsc, .slice bc cn bcc, .slice bp pn bpc, .slice bd dn bdc, .slice bo on_ boc]) (fun iv _ => dn - (intOf iv).toNat)
      case atStart => exact ⟨0, rfl, Nat.zero_le _, HU5.out, HA5.out, HB5.out⟩
      case round =>
        clear HU5 HA5 HB5
        rename World => y3
        obtain ⟨i, rfl, hi, hup, hb1, hb2⟩ := hrel
        have HUY := Lib.hid hup
        have HBA := Lib.hid hb1
        have HBB := Lib.hid hb2
        have a3 : y3.cell? ⟨w.heap.size, 3, none⟩ = some (.slice ad dn adc) := cell_of_row _ _ _ _ _ _ hb1
        have b3 : y3.cell? ⟨w.heap.size + 1, 3, none⟩ = some (.slice bd dn bdc) := cell_of_row _ _ _ _ _ _ hb2
        have asz := hb1.lt
        have bsz := hb2.lt
        clear hup hb1 hb2
        by_cases hlt : i < dn
        · have hltI : (i : Int) < dn := by omega
          have hi1 : i < defs.length := by rw [HDN.out]; exact hlt
          obtain ⟨ga, oa, ca, rfl, hga, hca, hra, -, -, -⟩ := HDA.out.def i hi1
          obtain ⟨gb, ob, cb, rfl, hgb, hcb, hrb, -, -, -⟩ := HDB.out.def i hi1
          have HLA := Lib.hid hra
          have HLB := Lib.hid hrb
          have HCD := Lib.hid (fun z (hz : Up w z) => base_Def N z (.agg ca) (.agg cb) _ (DefAt.up ⟨ca, rfl, hca⟩ hz) (DefAt.up ⟨cb, rfl, hcb⟩ hz))
          have gas := Nat.lt_of_lt_of_le hga HUY.out.size
          have gbs := Nat.lt_of_lt_of_le hgb HUY.out.size
          clear hi1 hra hrb hga hgb hca hcb
          go_upto_region 11 with fail
          refine wp_region_ext (by kernel_rfl) (by kernel_rfl) ?_
          iterate 4 (go_big_quiet_step (fail))
          refine wpQuiet_load (fun z hz => by obtain ⟨j, rfl⟩ := hz; exact HLA.out _ (HUY.out.trans j.up)) (by rfl) ?_
          simp only [Act.put, List.setIfInBounds_toArray, List.set_cons_succ, List.set_cons_zero]
          iterate 4 (go_big_quiet_step (fail))
          refine wpQuiet_load (fun z hz => by obtain ⟨j, rfl⟩ := hz; exact HLB.out _ (HUY.out.trans j.up)) (by rfl) ?_
          simp only [Act.put, List.setIfInBounds_toArray, List.set_cons_succ, List.set_cons_zero]
          repeat (go_big_quiet_step ((go_at_call 29; exact Calls.ext_of (HCD.out _ (HUY.out.trans (Ext.up _))))))
          refine wpQuiet_nil ?_
          intro z2 hz
          have HUZ := Lib.hid (HUY.out.trans hz)
          have HZA := Lib.hid (HBA.out.up hz)
          have HZB := Lib.hid (HBB.out.up hz)
          clear hz gas gbs a3 b3 asz bsz
          go_wp2
          go_roundw
          case rel => exact ⟨i + 1, by go_num, by omega, HUZ.out, HZA.out, HZB.out⟩
          case measure => simp [intOf]; omega
        · obtain rfl : dn = i := by omega
          go_wp2
          go_ret
          exact ⟨rfl, HUY.out⟩
end Go.Proofs.YtpccaifhcmcegaaGreat
end
