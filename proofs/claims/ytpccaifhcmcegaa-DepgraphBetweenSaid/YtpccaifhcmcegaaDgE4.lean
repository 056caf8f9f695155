/-
  Axes, Def of the base package, on equal data. Printed by mkDgE.py.
-/
import Derived.Test.YtpccaifhcmcegaaDgE3
import Derived.Test.YtpccaifhcmcegaaGf
namespace Go.Proofs.Ytpccaifhcmcegaa
set_option linter.unusedSimpArgs false
open Go.ChangeShapes Go.WideShapes Go.ChangeAt Go.RowKit
set_option linter.unusedVariables false
set_option maxRecDepth 100000

theorem LsAt.axc {w : World} {a : Option Addr} {n c : Nat} {l : List Ax} (h : LsAt 3 48 axR w (.slice a n c) l) (i : Nat) (hi : i < l.length) :
    ∃ (g o : Nat) (la : Option Addr) (lc : Nat), a = some ⟨g, o, none⟩ ∧ g < w.heap.size ∧ (∀ y, Up w y → y.cell? ⟨g, o + i * 3, none⟩ = some (.string l[i].1)) ∧ (∀ y, Up w y → y.cell? ⟨g, o + i * 3 + 1, none⟩ = some (.int .i64 l[i].2.1)) ∧ (∀ y, Up w y → y.cell? ⟨g, o + i * 3 + 2, none⟩ = some (.slice la l[i].2.2.length lc)) ∧ LsAt 2 24 monR w (.slice la l[i].2.2.length lc) l[i].2.2 := by
  obtain ⟨g, o, f, e, hg, hf, ⟨h0, _⟩, h1, h2⟩ := h.elem i hi
  dsimp only at h1 h2
  obtain ⟨la, lc, e2, _⟩ := h2.shape
  refine ⟨g, o, la, lc, e, hg, fun y hy => ?_, fun y hy => ?_, fun y hy => ?_, e2 ▸ h2⟩
  · have := cell_up' hy hg (hf 0 (by decide)); rw [h0, Nat.add_zero] at this; exact this
  · have := cell_up' hy hg (hf 1 (by decide)); rw [h1] at this; exact this
  · have := cell_up' hy hg (hf 2 (by decide)); rw [e2] at this; exact this

set_option maxHeartbeats 8000000 in
theorem base_Axes (w : World) (va vb : Value) (l : List Ax) (ha : LsAt 3 48 axR w va l) (hb : LsAt 3 48 axR w vb l) :
    Calls Try.prog 54 #[va, vb] w fun e w' => e = .returned (.bool true) ∧ Up w w' := by
  obtain ⟨aa, ac, rfl, -⟩ := ha.shape
  obtain ⟨ba, bc, rfl, -⟩ := hb.shape
  obtain ⟨n, hn⟩ : ∃ n, l.length = n := ⟨_, rfl⟩
  have hnI : (n : Int) ≤ 140737488351232 := by have := ha.bytes; omega
  rw [hn] at ha hb ⊢
  have HA := Lib.hid ha
  have HB := Lib.hid hb
  have HN := Lib.hid hn
  clear ha hb hn
  go_enter Try.func54, Try.ntmps54
  go_wp2
  go_loopw [5] (fun iv y => ∃ i : Nat, iv = .int .i64 i ∧ i ≤ n ∧ Up w y) (fun iv _ => n - (intOf iv).toNat)
  case atStart => exact ⟨0, rfl, Nat.zero_le _, Up.refl _⟩
  case round =>
    rename World => y
    obtain ⟨i, rfl, hi, hup⟩ := hrel
    have HUY := Lib.hid hup
    clear hup
    by_cases hlt : i < n
    · have hltI : (i : Int) < n := by omega
      have hi1 : i < l.length := by rw [HN.out]; exact hlt
      obtain ⟨ga, oa, la, lca, rfl, hga, ha0, ha1, ha2, hal⟩ := HA.out.axc i hi1
      obtain ⟨gb, ob, lb, lcb, rfl, hgb, hb0, hb1, hb2, hbl⟩ := HB.out.axc i hi1
      obtain ⟨x, hx⟩ : ∃ x, l[i] = x := ⟨_, rfl⟩
      rw [hx] at ha0 ha1 ha2 hal hb0 hb1 hb2 hbl
      obtain ⟨s, K, ms⟩ := x
      dsimp only at ha0 ha1 ha2 hal hb0 hb1 hb2 hbl
      obtain ⟨ln, hln⟩ : ∃ q, ms.length = q := ⟨_, rfl⟩
      rw [hln] at ha2 hal hb2 hbl
      have c0 := ha0 y HUY.out
      have c1 := ha1 y HUY.out
      have c2 := ha2 y HUY.out
      have d0 := hb0 y HUY.out
      have d1 := hb1 y HUY.out
      have d2 := hb2 y HUY.out
      have HC := Lib.hid (fun z (hz : Up w z) => base_Lin z _ _ (K, ms) ((AtV.ofLin hln hal).up linR_k hz) ((AtV.ofLin hln hbl).up linR_k hz))
      have gas := Nat.lt_of_lt_of_le hga HUY.out.size
      have gbs := Nat.lt_of_lt_of_le hgb HUY.out.size
      have q := tl_eq s s
      rw [decide_eq_true rfl] at q
      clear hx hi1 ha0 ha1 ha2 hal hb0 hb1 hb2 hbl hga hgb hln
      go_upto_region 6 with fail
      refine wp_region_ext (by kernel_rfl) (by kernel_rfl) ?_
      repeat (go_big_quiet_step ((go_at_call 53; exact Calls.ext_of (HC.out _ (HUY.out.trans (Ext.up _))))))
      refine wpQuiet_nil ?_
      intro z hz
      have HUZ := Lib.hid (HUY.out.trans hz)
      clear hz c0 c1 c2 d0 d1 d2 gas gbs
      go_wp2
      go_roundw
      case rel => exact ⟨i + 1, by go_num, by omega, HUZ.out⟩
      case measure => simp [intOf]; omega
    · obtain rfl : n = i := by omega
      go_wp2
      go_ret
      exact ⟨rfl, HUY.out⟩

theorem CsAt.dcells {N : Nat} {w : World} {cs : Array Value} {d : Df} (h : CsAt 22 (defR N) w cs d) : ∃ (ma : Option Addr) (mc : Nat) (ra : Option Addr) (rc : Nat), cs.getD 0 undef = .string d.nm ∧ cs.getD 1 undef = .int .i64 d.ty.1 ∧ cs.getD 2 undef = .int .i64 d.ty.2.1 ∧ cs.getD 3 undef = .int .i64 d.ty.2.2.1 ∧ cs.getD 4 undef = .int .i64 d.ty.2.2.2.1 ∧ cs.getD 5 undef = .int .i64 d.ty.2.2.2.2 ∧ cs.getD 6 undef = .slice ma d.dims.length mc ∧ cs.getD 7 undef = .slice ra d.red.length rc ∧ cs.getD 8 undef = .int .i64 d.fold ∧ LsAt 3 48 axR w (.slice ma d.dims.length mc) d.dims ∧ LsAt 3 48 axR w (.slice ra d.red.length rc) d.red := by
  obtain ⟨hs, ⟨h0, _⟩, ⟨g0, g1, g2, g3, g4⟩, h2, h3, h4, h5⟩ := h
  dsimp only at h0 g0 g1 g2 g3 g4 h2 h3 h4
  obtain ⟨ma, mc, e2, _⟩ := h2.shape
  obtain ⟨ra, rc, e3, _⟩ := h3.shape
  exact ⟨ma, mc, ra, rc, h0, g0, g1, g2, g3, g4, e2, e3, h4, e2 ▸ h2, e3 ▸ h3⟩
set_option maxHeartbeats 16000000 in
theorem base_Def (N : Nat) (w : World) (va vb : Value) (d : Df) (ha : DefAt N w va d) (hb : DefAt N w vb d) :
    Calls Try.prog 40 #[va, vb] w fun e w' => e = .returned (.bool true) ∧ Up w w' := by
  obtain ⟨ca, rfl, hca⟩ := ha
  obtain ⟨cb, rfl, hcb⟩ := hb
  have hsa := hca.1
  have hsb := hcb.1
  have HU := Lib.hid (((Up.refl w).alloc (.cells ca 59)).alloc (.cells cb 59))
  have hb1 := ((BoxC.new w 59 ca).up ((Up.refl _).alloc (.cells cb 59)))
  have hb2 := (BoxC.new2 w (.cells ca 59) 59 cb)
  have HB1 := Lib.hid hb1
  have HB2 := Lib.hid hb2
  have HX := Lib.hid (fun y (hy : Up w y) => base_Expr N d.body y _ _ (AtV.up (exR_k N) ⟨_, rfl, hca.body⟩ hy) (AtV.up (exR_k N) ⟨_, rfl, hcb.body⟩ hy))
  have hea := hca.body.1
  have heb := hcb.body.1
  obtain ⟨ama, amc, ara, arc, x0, x1, x2, x3, x4, x5, x6, x7, x8, xd, xr⟩ := hca.dcells
  obtain ⟨bma, bmc, bra, brc, y0, y1, y2, y3, y4, y5, y6, y7, y8, yd, yr⟩ := hcb.dcells
  have HM := Lib.hid (fun y (hy : Up w y) => base_Axes y _ _ d.dims (xd.up axR_up hy) (yd.up axR_up hy))
  have HR := Lib.hid (fun y (hy : Up w y) => base_Axes y _ _ d.red (xr.up axR_up hy) (yr.up axR_up hy))
  obtain ⟨nm, ty, dims, red, fold, body⟩ := d
  obtain ⟨t0, t1, t2, t3, t4⟩ := ty
  dsimp only at *
  obtain ⟨dn, hdn⟩ : ∃ q, dims.length = q := ⟨_, rfl⟩
  obtain ⟨rn, hrn⟩ : ∃ q, red.length = q := ⟨_, rfl⟩
  rw [hdn] at x6 y6 HM
  rw [hrn] at x7 y7 HR
  have a0 := hb1.at x0 (by omega)
  have b0 := hb2.at y0 (by omega)
  have a1 := hb1.at x1 (by omega)
  have b1 := hb2.at y1 (by omega)
  have a2 := hb1.at x2 (by omega)
  have b2 := hb2.at y2 (by omega)
  have a3 := hb1.at x3 (by omega)
  have b3 := hb2.at y3 (by omega)
  have a4 := hb1.at x4 (by omega)
  have b4 := hb2.at y4 (by omega)
  have a5 := hb1.at x5 (by omega)
  have b5 := hb2.at y5 (by omega)
  have a6 := hb1.at x6 (by omega)
  have b6 := hb2.at y6 (by omega)
  have a7 := hb1.at x7 (by omega)
  have b7 := hb2.at y7 (by omega)
  have a8 := hb1.at x8 (by omega)
  have b8 := hb2.at y8 (by omega)
  have asz := hb1.lt
  have bsz := hb2.lt
  have q := tl_eq nm nm
  rw [decide_eq_true rfl] at q
  have qt := run_eql_typ t0 t1 t2 t3 t4
  have HXA : Hid (∀ y, BoxC y w.heap.size 59 ca → (Instr.loadAt 57 (.pointer (some ⟨w.heap.size, 9, none⟩))).run Try.prog y = .ok (.agg (ca.extract 9 (9 + 13))) y) := Lib.hid (fun y hy => run_ex hea (hy.sub 9 13))
  have HXB : Hid (∀ y, BoxC y (w.heap.size + 1) 59 cb → (Instr.loadAt 57 (.pointer (some ⟨w.heap.size + 1, 9, none⟩))).run Try.prog y = .ok (.agg (cb.extract 9 (9 + 13))) y) := Lib.hid (fun y hy => run_ex heb (hy.sub 9 13))
  generalize ca.extract 9 (9 + 13) = ea at *
  generalize cb.extract 9 (9 + 13) = eb at *
  have X7 := Lib.hid x7
  have Y7 := Lib.hid y7
  have SA := Lib.hid hsa
  have SB := Lib.hid hsb
  clear x0 x1 x2 x3 x4 x5 x6 x7 x8 y0 y1 y2 y3 y4 y5 y6 y7 y8 xd xr yd yr hb1 hb2 hdn hrn hsa hsb hea heb hca hcb
  go_enter Try.func40, Try.ntmps40
  go_wp2_with (first
    | (refine st_loadG (HXB.out _ HZ2.out) (by rfl) (by rfl) ?_)
    | (refine st_loadG (HXA.out _ HZ1.out) (by rfl) (by rfl) ?_)
    | (go_at_call 55; (with_reducible refine (HX.out _ HZ.out).mono ?_); rintro e' x ⟨rfl, hx⟩; have HF := Lib.hid (HZ.out.trans hx); clear hx)
    | (go_at_call 54; (with_reducible refine (HR.out _ HY.out).mono ?_); rintro e' z ⟨rfl, hz⟩; have HZ := Lib.hid (HY.out.trans hz); have hc1 := HY1.out.up hz; have hc2 := HY2.out.up hz; have HZ1 := Lib.hid hc1; have HZ2 := Lib.hid hc2; have zas := hc1.lt; have zbs := hc2.lt; clear hz hc1 hc2)
    | (go_at_call 54; (with_reducible refine (HM.out _ HU.out).mono ?_); rintro e' y ⟨rfl, hy⟩; have HY := Lib.hid (HU.out.trans hy); have hc1 := HB1.out.up hy; have hc2 := HB2.out.up hy; have HY1 := Lib.hid hc1; have HY2 := Lib.hid hc2; have yas := hc1.lt; have ybs := hc2.lt; have ya7 := hc1.at X7.out (by have := SA.out; omega); have yb7 := hc2.at Y7.out (by have := SB.out; omega); clear hy hc1 hc2))
  go_ret
  exact ⟨rfl, HF.out⟩
end Go.Proofs.Ytpccaifhcmcegaa
