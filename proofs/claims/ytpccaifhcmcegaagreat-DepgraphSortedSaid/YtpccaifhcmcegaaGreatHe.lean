/-
  Joined by a program: Dg3, Dg4, Dg5, Dg6.
-/
import Derived.Test.YtpccaifhcmcegaaGreatHd

section
namespace Go.Proofs.YtpccaifhcmcegaaGreat
set_option linter.unusedSimpArgs false
open Go.ChangeShapes Go.WideShapes Go.ChangeAt Go.RowKit
set_option linter.unusedVariables false
set_option maxRecDepth 100000

theorem ProgAt.up {n : Nat} {w w' : World} {v : Value} {p : Pg} (h : ProgAt n w v p) (u : Up w w') : ProgAt n w' v p :=
  let ⟨v0, v1, v2, v3, v4, e, h⟩ := h
  ⟨v0, v1, v2, v3, v4, e, progR_up n _ _ _ _ h u⟩
/-- A program's five slices. -/
theorem ProgAt.open {n : Nat} {w : World} {v : Value} {p : Pg} (h : ProgAt n w v p) : ∃ (sa : Option Addr) (sc : Nat) (ca : Option Addr) (cc : Nat) (pa : Option Addr) (pc : Nat) (da : Option Addr) (dc : Nat) (oa : Option Addr) (oc : Nat),
    v = .agg #[.slice sa p.sizes.length sc, .slice ca p.cons.length cc, .slice pa p.pars.length pc, .slice da p.defs.length dc, .slice oa p.outs.length oc] ∧
    LsAt 1 16 strR w (.slice sa p.sizes.length sc) p.sizes ∧ LsAt 3 40 conR w (.slice ca p.cons.length cc) p.cons ∧ LsAt 7 80 parR w (.slice pa p.pars.length pc) p.pars ∧ LsAt 22 272 (defR n) w (.slice da p.defs.length dc) p.defs ∧ LsAt 1 16 strR w (.slice oa p.outs.length oc) p.outs := by
  obtain ⟨v0, v1, v2, v3, v4, e, h0, h1, h2, h3, h4⟩ := h
  have h0 : LsAt 1 16 strR w v0 p.sizes := h0
  have h1 : LsAt 3 40 conR w v1 p.cons := h1
  have h2 : LsAt 7 80 parR w v2 p.pars := h2
  have h3 : LsAt 22 272 (defR n) w v3 p.defs := h3
  have h4 : LsAt 1 16 strR w v4 p.outs := h4
  obtain ⟨sa, sc, rfl, _⟩ := h0.shape
  obtain ⟨ca, cc, rfl, _⟩ := h1.shape
  obtain ⟨pa, pc, rfl, _⟩ := h2.shape
  obtain ⟨da, dc, rfl, _⟩ := h3.shape
  obtain ⟨oa, oc, rfl, _⟩ := h4.shape
  exact ⟨_, _, _, _, _, _, _, _, _, _, e, h0, h1, h2, h3, h4⟩
theorem cells22 {w : World} {g o i : Nat} {f : Nat → Value} (h : ∀ j, j < 22 → w.cell? ⟨g, o + i * 22 + j, none⟩ = some (f j)) :
    w.cell? ⟨g, o + i * 22, none⟩ = some (f 0) ∧ w.cell? ⟨g, o + i * 22 + 1, none⟩ = some (f 1) ∧ w.cell? ⟨g, o + i * 22 + 2, none⟩ = some (f 2) ∧ w.cell? ⟨g, o + i * 22 + 3, none⟩ = some (f 3) ∧ w.cell? ⟨g, o + i * 22 + 4, none⟩ = some (f 4) ∧ w.cell? ⟨g, o + i * 22 + 5, none⟩ = some (f 5) ∧ w.cell? ⟨g, o + i * 22 + 6, none⟩ = some (f 6) ∧ w.cell? ⟨g, o + i * 22 + 7, none⟩ = some (f 7) ∧ w.cell? ⟨g, o + i * 22 + 8, none⟩ = some (f 8) ∧ w.cell? ⟨g, o + i * 22 + 9, none⟩ = some (f 9) ∧ w.cell? ⟨g, o + i * 22 + 10, none⟩ = some (f 10) ∧ w.cell? ⟨g, o + i * 22 + 11, none⟩ = some (f 11) ∧ w.cell? ⟨g, o + i * 22 + 12, none⟩ = some (f 12) ∧ w.cell? ⟨g, o + i * 22 + 13, none⟩ = some (f 13) ∧ w.cell? ⟨g, o + i * 22 + 14, none⟩ = some (f 14) ∧ w.cell? ⟨g, o + i * 22 + 15, none⟩ = some (f 15) ∧ w.cell? ⟨g, o + i * 22 + 16, none⟩ = some (f 16) ∧ w.cell? ⟨g, o + i * 22 + 17, none⟩ = some (f 17) ∧ w.cell? ⟨g, o + i * 22 + 18, none⟩ = some (f 18) ∧ w.cell? ⟨g, o + i * 22 + 19, none⟩ = some (f 19) ∧ w.cell? ⟨g, o + i * 22 + 20, none⟩ = some (f 20) ∧ w.cell? ⟨g, o + i * 22 + 21, none⟩ = some (f 21) :=
  ⟨h 0 (by decide), h 1 (by decide), h 2 (by decide), h 3 (by decide), h 4 (by decide), h 5 (by decide), h 6 (by decide), h 7 (by decide), h 8 (by decide), h 9 (by decide), h 10 (by decide), h 11 (by decide), h 12 (by decide), h 13 (by decide), h 14 (by decide), h 15 (by decide), h 16 (by decide), h 17 (by decide), h 18 (by decide), h 19 (by decide), h 20 (by decide), h 21 (by decide)⟩
theorem cells7 {w : World} {g o i : Nat} {f : Nat → Value} (h : ∀ j, j < 7 → w.cell? ⟨g, o + i * 7 + j, none⟩ = some (f j)) :
    w.cell? ⟨g, o + i * 7, none⟩ = some (f 0) ∧ w.cell? ⟨g, o + i * 7 + 1, none⟩ = some (f 1) ∧ w.cell? ⟨g, o + i * 7 + 2, none⟩ = some (f 2) ∧ w.cell? ⟨g, o + i * 7 + 3, none⟩ = some (f 3) ∧ w.cell? ⟨g, o + i * 7 + 4, none⟩ = some (f 4) ∧ w.cell? ⟨g, o + i * 7 + 5, none⟩ = some (f 5) ∧ w.cell? ⟨g, o + i * 7 + 6, none⟩ = some (f 6) :=
  ⟨h 0 (by decide), h 1 (by decide), h 2 (by decide), h 3 (by decide), h 4 (by decide), h 5 (by decide), h 6 (by decide)⟩
/-- A definition's cells. -/
theorem LsAt.df {N : Nat} {w : World} {a : Option Addr} {n c : Nat} {l : List Df} (h : LsAt 22 272 (defR N) w (.slice a n c) l) (i : Nat) (hi : i < l.length) :
    ∃ (g o : Nat) (f : Nat → Value) (ma : Option Addr) (mc : Nat) (ra : Option Addr) (rc : Nat), a = some ⟨g, o, none⟩ ∧ g < w.heap.size ∧ (∀ j, j < 22 → w.cell? ⟨g, o + i * 22 + j, none⟩ = some (f j)) ∧ f 0 = .string l[i].nm ∧ l[i].nm.size ≤ maxLen ∧ f 6 = .slice ma l[i].dims.length mc ∧ f 7 = .slice ra l[i].red.length rc ∧ defR N w f l[i] ∧
      LsAt 3 48 axR w (.slice ma l[i].dims.length mc) l[i].dims ∧ LsAt 3 48 axR w (.slice ra l[i].red.length rc) l[i].red ∧ ExAt N w (.agg #[f 9, f 10, f 11, f 12, f 13, f 14, f 15, f 16, f 17, f 18, f 19, f 20, f 21]) l[i].body := by
  obtain ⟨g, o, f, h1, h2, h3, h4⟩ := h.elem i hi
  obtain ⟨⟨n0, n1⟩, _, hd, hr, _, hb⟩ := id h4
  obtain ⟨ma, mc, e1, _⟩ := hd.shape
  obtain ⟨ra, rc, e2, _⟩ := hr.shape
  exact ⟨g, o, f, ma, mc, ra, rc, h1, h2, h3, n0, n1, e1, e2, h4, e1 ▸ hd, e2 ▸ hr, ⟨fun j => f (9 + j), rfl, hb⟩⟩
theorem LsAt.pr {w : World} {a : Option Addr} {n c : Nat} {l : List Par} (h : LsAt 7 80 parR w (.slice a n c) l) (i : Nat) (hi : i < l.length) :
    ∃ (g o : Nat) (f : Nat → Value) (ma : Option Addr) (mc : Nat), a = some ⟨g, o, none⟩ ∧ g < w.heap.size ∧ (∀ j, j < 7 → w.cell? ⟨g, o + i * 7 + j, none⟩ = some (f j)) ∧ f 0 = .string l[i].1 ∧ l[i].1.size ≤ maxLen ∧ f 6 = .slice ma l[i].2.2.length mc ∧ parR w f l[i] ∧ LsAt 2 32 linR w (.slice ma l[i].2.2.length mc) l[i].2.2 := by
  obtain ⟨g, o, f, h1, h2, h3, h4⟩ := h.elem i hi
  obtain ⟨⟨n0, n1⟩, _, hd⟩ := id h4
  obtain ⟨ma, mc, e1, _⟩ := hd.shape
  exact ⟨g, o, f, ma, mc, h1, h2, h3, n0, n1, e1, h4, e1 ▸ hd⟩

def defW (d : Df) : Nat := d.dims.length + d.red.length + tot d.body
/-- What Small grants. -/
structure SmallP (p : Pg) : Prop where
  pars : p.pars.length ≤ 40
  defs : p.defs.length ≤ 40
  outs : p.outs.length ≤ 40
  sizes : p.sizes.length ≤ 80
  cons : p.cons.length ≤ 80
  sum : (p.defs.map defW).sum + (p.pars.map fun x => x.2.2.length).sum ≤ 1500

def SmallQ (p : Pg) (w : World) (e : Ending) (w' : World) : Prop := ∃ b : Bool, e = .returned (.bool b) ∧ Up w w' ∧ (b = true → SmallP p)
set_option maxHeartbeats 8000000 in
theorem law_Small (N : Nat) (p : Pg) (v : Value) (w : World) (hv : ProgAt N w v p) :
    Calls Tryz.prog 4 #[v] w fun e w' => SmallQ p w e w' := by
  obtain ⟨sa, sc, ca, cc, pa, pc, da, dc, oa, oc, rfl, hs, hcn, hp, hd, ho⟩ := hv.open
  obtain ⟨sizes, cons, pars, defs, outs⟩ := p
  dsimp only at hs hcn hp hd ho ⊢
  have HSM := Lib.hid (fun h1 h2 h3 h4 h5 h6 => SmallP.mk (p := ⟨sizes, cons, pars, defs, outs⟩) h1 h2 h3 h4 h5 h6)
  dsimp only at HSM
  obtain ⟨sn, hsn⟩ : ∃ q, sizes.length = q := ⟨_, rfl⟩
  obtain ⟨cn, hcnn⟩ : ∃ q, cons.length = q := ⟨_, rfl⟩
  obtain ⟨pn, hpn⟩ : ∃ q, pars.length = q := ⟨_, rfl⟩
  obtain ⟨dn, hdn⟩ : ∃ q, defs.length = q := ⟨_, rfl⟩
  obtain ⟨on_, hon⟩ : ∃ q, outs.length = q := ⟨_, rfl⟩
  rw [hsn] at hs HSM ⊢
  rw [hcnn] at hcn HSM ⊢
  rw [hpn] at hp HSM ⊢
  rw [hdn] at hd HSM ⊢
  rw [hon] at ho HSM ⊢
  have HP := Lib.hid hp
  have HD := Lib.hid hd
  have HPN := Lib.hid hpn
  have HDN := Lib.hid hdn
  clear hs hcn hp hd ho hsn hcnn hpn hdn hon hv
  have HU0 : Hid (Up w (w.alloc (.cells #[.slice sa sn sc, .slice ca cn cc, .slice pa pn pc, .slice da dn dc, .slice oa on_ oc] 27))) := Lib.hid ((Up.refl w).alloc _)
  have HB0 := Lib.hid (BoxC.new w 27 #[.slice sa sn sc, .slice ca cn cc, .slice pa pn pc, .slice da dn dc, .slice oa on_ oc])
  have hcase : (40 < pn) ∨ (pn ≤ 40 ∧ 40 < dn) ∨ (pn ≤ 40 ∧ dn ≤ 40 ∧ 40 < on_) ∨ (pn ≤ 40 ∧ dn ≤ 40 ∧ on_ ≤ 40 ∧ 80 < sn) ∨ (pn ≤ 40 ∧ dn ≤ 40 ∧ on_ ≤ 40 ∧ sn ≤ 80 ∧ 80 < cn) ∨ (pn ≤ 40 ∧ dn ≤ 40 ∧ on_ ≤ 40 ∧ sn ≤ 80 ∧ cn ≤ 80) := by omega
  rcases hcase with h | ⟨h1, h⟩ | ⟨h1, h2, h⟩ | ⟨h1, h2, h3, h⟩ | ⟨h1, h2, h3, h4, h⟩ | ⟨h1, h2, h3, h4, h5⟩
  · have i0 : (40 : Int) < pn := by omega
    clear h
    go_enter Tryz.func4, Tryz.ntmps4
    go_wp2
    go_ret
    exact ⟨false, rfl, HU0.out, fun h => by cases h⟩
  · have i0 : ¬ (40 : Int) < pn := by omega
    have i1 : (40 : Int) < dn := by omega
    clear h1 h
    go_enter Tryz.func4, Tryz.ntmps4
    go_wp2
    go_ret
    exact ⟨false, rfl, HU0.out, fun h => by cases h⟩
  · have i0 : ¬ (40 : Int) < pn := by omega
    have i1 : ¬ (40 : Int) < dn := by omega
    have i2 : (40 : Int) < on_ := by omega
    clear h1 h2 h
    go_enter Tryz.func4, Tryz.ntmps4
    go_wp2
    go_ret
    exact ⟨false, rfl, HU0.out, fun h => by cases h⟩
  · have i0 : ¬ (40 : Int) < pn := by omega
    have i1 : ¬ (40 : Int) < dn := by omega
    have i2 : ¬ (40 : Int) < on_ := by omega
    have i3 : (80 : Int) < sn := by omega
    clear h1 h2 h3 h
    go_enter Tryz.func4, Tryz.ntmps4
    go_wp2
    go_ret
    exact ⟨false, rfl, HU0.out, fun h => by cases h⟩
  · have i0 : ¬ (40 : Int) < pn := by omega
    have i1 : ¬ (40 : Int) < dn := by omega
    have i2 : ¬ (40 : Int) < on_ := by omega
    have i3 : ¬ (80 : Int) < sn := by omega
    have i4 : (80 : Int) < cn := by omega
    clear h1 h2 h3 h4 h
    go_enter Tryz.func4, Tryz.ntmps4
    go_wp2
    go_ret
    exact ⟨false, rfl, HU0.out, fun h => by cases h⟩
  · have i0 : ¬ (40 : Int) < pn := by omega
    have i1 : ¬ (40 : Int) < dn := by omega
    have i2 : ¬ (40 : Int) < on_ := by omega
    have i3 : ¬ (80 : Int) < sn := by omega
    have i4 : ¬ (80 : Int) < cn := by omega
    replace HSM := Lib.hid (HSM.out h1 h2 h3 h4 h5)
    have hdI : (dn : Int) ≤ 40 := by omega
    have hpI : (pn : Int) ≤ 40 := by omega
    have HDL := Lib.hid h2
    have HPL := Lib.hid h1
    clear h1 h2 h3 h4 h5
    go_enter Tryz.func4, Tryz.ntmps4
    go_wp2
    clear i0 i1 i2 i3 i4
    go_loopw [3, 4] (fun nv iv wr => ∃ (q i : Nat), nv = .int .i64 q ∧ iv = .int .i64 i ∧ i ≤ dn ∧ q ≤ 2000000000000000 ∧ (q ≤ 1500 → q = ((defs.take i).map defW).sum) ∧ Up w wr ∧ BoxC wr w.heap.size 27 #[.slice sa sn sc, .slice ca cn cc, .slice pa pn pc, .slice da dn dc, .slice oa on_ oc]) (fun _ iv _ => dn - (intOf iv).toNat)
    case atStart => exact ⟨0, 0, rfl, rfl, by omega, by omega, fun _ => by simp, HU0.out, HB0.out⟩
    case round =>
      rename World => wr
      obtain ⟨q, i, rfl, rfl, hi, hq, hqt, hup, hbx⟩ := hrel
      have HU := Lib.hid hup
      have HB := Lib.hid hbx
      have HQ := Lib.hid hqt
      have b2 : wr.cell? ⟨w.heap.size, 2, none⟩ = some (.slice pa pn pc) := cell_of_row _ _ _ _ _ _ hbx
      have b3 : wr.cell? ⟨w.heap.size, 3, none⟩ = some (.slice da dn dc) := cell_of_row _ _ _ _ _ _ hbx
      have bs : w.heap.size < wr.heap.size := hbx.lt
      have hqI : (q : Int) ≤ 2000000000000000 := by omega
      clear hup hbx hqt HU0 HB0
      by_cases hc : i < dn ∧ q ≤ 1500
      · obtain ⟨hlt, hle⟩ := hc
        have hltI : (i : Int) < dn := by omega
        have hleI : (q : Int) ≤ 1500 := by omega
        have hi1 : i < defs.length := by rw [HDN.out]; exact hlt
        obtain ⟨g, o, f, ma, mc, ra, rc, rfl, hg, hf, f0, f0s, f6, f7, fd, hM, hR, hE⟩ := HD.out.df i hi1
        have bM := hM.bytes
        have bR := hR.bytes
        have HW := Lib.hid (sum_take defW hi1)
        obtain ⟨d, hx⟩ : ∃ d, defs[i] = d := ⟨_, rfl⟩
        rw [hx] at HW f6 f7 hM hR bM bR hE f0 f0s fd
        clear hx f0 f0s fd
        obtain ⟨mn, hmn⟩ : ∃ q, d.dims.length = q := ⟨_, rfl⟩
        obtain ⟨rn, hrn⟩ : ∃ q, d.red.length = q := ⟨_, rfl⟩
        have HW2 : Hid (((defs.take (i + 1)).map defW).sum = ((defs.take i).map defW).sum + (mn + rn + tot d.body)) := Lib.hid (by rw [HW.out, ← hmn, ← hrn]; rfl)
        rw [hmn] at f6 bM
        rw [hrn] at f7 bR
        have c6 : wr.cell? ⟨g, o + i * 22 + 6, none⟩ = some (.slice ma mn mc) := f6 ▸ cell_up' HU.out hg (hf 6 (by decide))
        have c7 : wr.cell? ⟨g, o + i * 22 + 7, none⟩ = some (.slice ra rn rc) := f7 ▸ cell_up' HU.out hg (hf 7 (by decide))
        have HCB := Lib.hid (fun y (hy : Up w y) j (hj : j < 22) => cell_up' hy hg (hf j hj))
        have HEB := Lib.hid (fun y (hy : Up w y) => base_Weigh N d.body _ 1500 (by decide) y (hE.up hy))
        have hg0 := Lib.hid hg
        have hg' := Nat.lt_of_lt_of_le hg HU.out.size
        have hmI : (mn : Int) ≤ 140737488351232 := by omega
        have hrI : (rn : Int) ≤ 140737488351232 := by omega
        clear hM hR bM bR hmn hrn HW hi1 f6 f7 hE hf hg
        go_upto_region 7 with fail
        refine wp_region_ext (by kernel_rfl) (by kernel_rfl) ?_
        repeat (go_big_quiet_step (fail))
        refine wpQuiet_nil ?_
        intro z hz
        have HUZ := Lib.hid (HU.out.trans hz)
        have HBZ := Lib.hid (HB.out.up hz)
        have z3 : z.cell? ⟨w.heap.size, 3, none⟩ = some (.slice (some ⟨g, o, none⟩) dn dc) := cell_of_row _ _ _ _ _ _ HBZ.out
        have zs : w.heap.size < z.heap.size := HBZ.out.lt
        have zg := Nat.lt_of_lt_of_le hg0.out HUZ.out.size
        have e9 := HCB.out z HUZ.out 9 (by decide)
        have e10 := HCB.out z HUZ.out 10 (by decide)
        have e11 := HCB.out z HUZ.out 11 (by decide)
        have e12 := HCB.out z HUZ.out 12 (by decide)
        have e13 := HCB.out z HUZ.out 13 (by decide)
        have e14 := HCB.out z HUZ.out 14 (by decide)
        have e15 := HCB.out z HUZ.out 15 (by decide)
        have e16 := HCB.out z HUZ.out 16 (by decide)
        have e17 := HCB.out z HUZ.out 17 (by decide)
        have e18 := HCB.out z HUZ.out 18 (by decide)
        have e19 := HCB.out z HUZ.out 19 (by decide)
        have e20 := HCB.out z HUZ.out 20 (by decide)
        have e21 := HCB.out z HUZ.out 21 (by decide)
        clear hz c6 c7 b2 b3 bs hg'
        go_wp2_with (go_at_call 11; refine (HEB.out _ HUZ.out).mono ?_; rintro e' y ⟨r, rfl, hy, hr, hrt⟩; have HUR := Lib.hid (HUZ.out.trans hy); have HBR := Lib.hid (HBZ.out.up hy); have HRT := Lib.hid hrt; have hrI2 : (r : Int) ≤ 422212465067484 := (by omega); clear hy hrt)
        go_roundw
        case rel => exact ⟨q + (mn + rn) + r, i + 1, by go_num, by go_num, by omega, by omega, fun h => by have h1 := HQ.out (by omega); have h2 := HRT.out (by omega); have h3 := HW2.out; omega, HUR.out, HBR.out⟩
        case measure => simp [intOf]; omega
      · have HQ3 : Hid (q ≤ 1500 → q = (defs.map defW).sum) := Lib.hid (fun h => by
          have h1 := HQ.out h
          have h2 : i = dn := by omega
          rw [List.take_of_length_le (by rw [HDN.out]; omega)] at h1
          exact h1)
        have hcc : ¬ (i : Int) < dn ∨ ¬ (q : Int) ≤ 1500 := by omega
        clear hc
        by_cases hi2 : (i : Int) < dn
        all_goals
          first
            | (have hq3 : ¬ (q : Int) ≤ 1500 := by omega)
            | skip
          clear hcc
          go_wp2
          go_loopw [3, 5] (fun nv iv y => ∃ (q2 k : Nat), nv = .int .i64 q2 ∧ iv = .int .i64 k ∧ k ≤ pn ∧ q2 ≤ 3000000000000000 ∧ (q2 ≤ 1500 → q2 = (defs.map defW).sum + ((pars.take k).map fun x => x.2.2.length).sum) ∧ Up w y ∧ BoxC y w.heap.size 27 #[.slice sa sn sc, .slice ca cn cc, .slice pa pn pc, .slice da dn dc, .slice oa on_ oc]) (fun _ kv _ => pn - (intOf kv).toNat)
          case atStart => exact ⟨q, 0, rfl, rfl, by omega, by omega, fun h => by rw [HQ3.out h]; simp, HU.out, HB.out⟩
          case round =>
            rename World => y
            obtain ⟨q2, k, rfl, rfl, hk, hq2, hqt2, hup, hbx⟩ := hrel
            have HUY := Lib.hid hup
            have HBY := Lib.hid hbx
            have HQ2 := Lib.hid hqt2
            have y2 : y.cell? ⟨w.heap.size, 2, none⟩ = some (.slice pa pn pc) := cell_of_row _ _ _ _ _ _ hbx
            have ys : w.heap.size < y.heap.size := hbx.lt
            have hq2I : (q2 : Int) ≤ 3000000000000000 := by omega
            clear hup hbx hqt2
            by_cases hc2 : k < pn ∧ q2 ≤ 1500
            · obtain ⟨hlt2, hle2⟩ := hc2
              have hlt2I : (k : Int) < pn := by omega
              have hle2I : (q2 : Int) ≤ 1500 := by omega
              have hk1 : k < pars.length := by rw [HPN.out]; exact hlt2
              obtain ⟨g, o, f, ma, mc, rfl, hg, hf, f0, f0s, f6, fd, hM⟩ := HP.out.pr k hk1
              have bM := hM.bytes
              have HW3 := Lib.hid (sum_take (fun x : Par => x.2.2.length) hk1)
              obtain ⟨mn, hmn⟩ : ∃ q, pars[k].2.2.length = q := ⟨_, rfl⟩
              rw [hmn] at f6 bM
              have HW4 : Hid (((pars.take (k + 1)).map fun x => x.2.2.length).sum = ((pars.take k).map fun x => x.2.2.length).sum + mn) := Lib.hid (by rw [HW3.out, hmn])
              have c6 : y.cell? ⟨g, o + k * 7 + 6, none⟩ = some (.slice ma mn mc) := f6 ▸ cell_up' HUY.out hg (hf 6 (by decide))
              have hg' := Nat.lt_of_lt_of_le hg HUY.out.size
              have hmI : (mn : Int) ≤ 140737488351232 := by omega
              clear hM bM hmn HW3 f0 f0s f6 fd hf hk1
              go_wp2
              go_roundw
              case rel => exact ⟨q2 + mn, k + 1, by go_num, by go_num, by omega, by omega, fun h => by have h1 := HQ2.out (by omega); have h3 := HW4.out; omega, HUY.out, HBY.out⟩
              case measure => simp [intOf]; omega
            · have HQ4 : Hid (q2 ≤ 1500 → SmallP ⟨sizes, cons, pars, defs, outs⟩) := Lib.hid (fun h => by
                have h1 := HQ2.out h
                have h2 : k = pn := by omega
                rw [List.take_of_length_le (by rw [HPN.out]; omega)] at h1
                exact HSM.out (by omega))
              have hcc : ¬ (k : Int) < pn ∨ ¬ (q2 : Int) ≤ 1500 := by omega
              clear hc2
              by_cases hk2 : (k : Int) < pn
              · have hq4 : ¬ (q2 : Int) ≤ 1500 := by omega
                clear hcc
                go_wp2
                go_ret
                exact ⟨false, rfl, HUY.out, fun h => by cases h⟩
              · clear hcc
                by_cases hq5 : (q2 : Int) ≤ 1500
                · go_wp2
                  go_ret
                  exact ⟨true, rfl, HUY.out, fun _ => HQ4.out (by omega)⟩
                · go_wp2
                  go_ret
                  exact ⟨false, rfl, HUY.out, fun h => by cases h⟩
end Go.Proofs.YtpccaifhcmcegaaGreat
end

section
namespace Go.Proofs.YtpccaifhcmcegaaGreat
set_option linter.unusedSimpArgs false
open Go.ChangeShapes Go.WideShapes Go.ChangeAt Go.RowKit
set_option linter.unusedVariables false
set_option maxRecDepth 100000

theorem SlAt.lay (w : World) (t : TypeId) (cs : Array Value) (n k : Nat) (f : Nat → Nat → Value) (hn : n ≤ 9223372036854775807) (h : ∀ i j, i < n → j < k → cs[i * k + j]? = some (f i j)) :
    SlAt (w.alloc (.cells cs t)) (.slice (some ⟨w.heap.size, 0, none⟩) n n) n k f :=
  ⟨⟨some ⟨w.heap.size, 0, none⟩, n, rfl, (fun e => nomatch e), fun x hx _ => by
    cases hx
    refine ⟨rfl, by simp, fun i j hi hj => ?_⟩
    rw [cell_of_row _ _ _ _ _ _ (heap_alloc_new w _)]
    simp only [Nat.zero_add]
    exact h i j hi hj⟩, hn⟩
theorem own_base {w : World} {base n k : Nat} {e : TypeId} {v : Value} {xs : List Value} (h : w.ownsRow base e k v n xs) : ∀ g, v.ownBlock = some g → base ≤ g := fun g hg => by
  rcases h.2 with ⟨rfl, _⟩ | ⟨g', cap, cur, rfl, hb, _⟩
  · cases hg
  · have : g' = g := by simpa [Value.ownBlock] using hg
    omega
theorem own_cap {w : World} {base n k c : Nat} {a : Option Addr} {e : TypeId} {xs : List Value} (h : w.ownsRow base e k (.slice a n c) n xs) : n ≤ c := by
  rcases h.2 with ⟨hv, h0⟩ | ⟨g', cap, cur, hv, hb, hg, hnc, _⟩
  · cases hv; omega
  · cases hv; exact hnc
theorem string_info : (Tryz.prog.info? 9).map (fun i => (i.zero, i.size, i.bytes)) = some (some (.string ByteArray.empty), 1, 16) := by kernel_rfl
def strsV (l : List ByteArray) : List Value := l.map Value.string
def strF (l : List ByteArray) (i _j : Nat) : Value := .string (l.getD i ⟨#[]⟩)
theorem strsV_app (a b : List ByteArray) : strsV (a ++ b) = strsV a ++ strsV b := List.map_append
theorem strsV_len (l : List ByteArray) : (strsV l).length = l.length := List.length_map _
theorem flat_str (l : List ByteArray) (n : Nat) (hn : l.length = n) : flat (strF l) n 1 = strsV l := by
  rw [flat_one, ← hn]
  unfold strsV strF
  apply List.ext_getElem?
  intro i
  rw [List.getElem?_map, List.getElem?_map]
  by_cases h : i < l.length
  · rw [List.getElem?_range h, List.getElem?_eq_getElem h]
    simp only [Option.map_some]
    rw [List.getD_eq_getElem?_getD, List.getElem?_eq_getElem h]; rfl
  · rw [List.getElem?_eq_none (by simpa using h), List.getElem?_eq_none (by simpa using h)]; rfl
/-- A list of texts as a slice of cells. -/
theorem LsAt.sl {w : World} {v : Value} {l : List ByteArray} (h : LsAt 1 16 strR w v l) : SlAt w v l.length 1 (strF l) := by
  obtain ⟨_, _, F, h1, h2⟩ := h
  refine h1.congr fun i j hi hj => ?_
  obtain rfl : j = 0 := by omega
  rw [(h2 i hi).1]
  unfold strF
  rw [List.getD_eq_getElem?_getD, List.getElem?_eq_getElem hi]; rfl
theorem LsAt.sizes {w : World} {v : Value} {l : List ByteArray} (h : LsAt 1 16 strR w v l) : ∀ s ∈ l, s.size ≤ maxLen := by
  obtain ⟨_, _, F, h1, h2⟩ := h
  intro s hs
  obtain ⟨i, hi, rfl⟩ := List.mem_iff_getElem.1 hs
  exact (h2 i hi).2
theorem LsAt.of_sl {w : World} {a : Option Addr} {c : Nat} {l : List ByteArray} (h : SlAt w (.slice a l.length c) l.length 1 (strF l)) (hc : l.length ≤ c) (hb : l.length * 16 ≤ 140737488351232) (hs : ∀ s ∈ l, s.size ≤ maxLen) : LsAt 1 16 strR w (.slice a l.length c) l :=
  ⟨⟨a, c, rfl, hc⟩, hb, strF l, h, fun i hi => ⟨by unfold strF; rw [List.getD_eq_getElem?_getD, List.getElem?_eq_getElem hi]; rfl, hs _ (List.getElem_mem hi)⟩⟩
/-- An own row of texts reads as its list. -/
theorem LsAt.of_own {w : World} {base n : Nat} {e : TypeId} {v : Value} {l : List ByteArray} (h : w.ownsRow base e 1 v n (strsV l)) (hn : l.length = n) (hb : n * 16 ≤ 140737488351232) (hs : ∀ s ∈ l, s.size ≤ maxLen) : LsAt 1 16 strR w v l := by
  subst hn
  obtain ⟨a, c, rfl⟩ := own_slice h
  refine LsAt.of_sl (SlAt.of_own h (by omega) fun i j hi hj => ?_) (own_cap h) hb hs
  obtain rfl : j = 0 := by omega
  unfold strsV strF
  rw [Nat.mul_one, Nat.add_zero, List.getElem?_map, List.getElem?_eq_getElem hi, List.getD_eq_getElem?_getD, List.getElem?_eq_getElem hi]; rfl
/-- The head of a list. -/
theorem LsAt.take {α : Type} {k B : Nat} {R : Rel α} {w : World} {a : Option Addr} {n c : Nat} {l : List α} (h : LsAt k B R w (.slice a n c) l) (i : Nat) (hi : i ≤ l.length) : LsAt k B R w (.slice a i c) (l.take i) := by
  obtain ⟨⟨a', c', e, h1⟩, hb, F, ⟨⟨a2, c2, e2, h0, hx⟩, hm⟩, hR⟩ := h
  cases e; cases e2
  have hl : (l.take i).length = i := by rw [List.length_take]; omega
  refine ⟨⟨_, _, by rw [hl], by omega⟩, by rw [hl]; exact Nat.le_trans (Nat.mul_le_mul_right B hi) hb, F, ?_, fun j hj => ?_⟩
  · rw [hl]
    exact ⟨⟨_, _, rfl, fun e => by have := h0 e; omega, fun x hx' hp => by
      obtain ⟨g1, g2, g3⟩ := hx x hx' (by omega)
      exact ⟨g1, g2, fun p q hp hq => g3 p q (by omega) hq⟩⟩, by omega⟩
  · rw [List.getElem_take]
    exact hR j (by omega)
/-- The rest of a list. -/
theorem LsAt.drop {α : Type} {k B : Nat} {R : Rel α} {w : World} {a : Option Addr} {n c : Nat} {l : List α} (h : LsAt k B R w (.slice a n c) l) (i : Nat) (hi : i ≤ l.length) : LsAt k B R w (.slice (if c = i then a else a.map (·.add (i * k))) (n - i) (c - i)) (l.drop i) := by
  obtain ⟨⟨a', c', e, h1⟩, hb, F, ⟨⟨a2, c2, e2, h0, hx⟩, hm⟩, hR⟩ := h
  cases e; cases e2
  have hl : (l.drop i).length = l.length - i := by rw [List.length_drop]
  refine ⟨⟨_, _, by rw [hl], by omega⟩, by rw [hl]; exact Nat.le_trans (Nat.mul_le_mul_right B (Nat.sub_le _ _)) hb, fun p q => F (i + p) q, ?_, fun j hj => ?_⟩
  · rw [hl]
    refine ⟨⟨_, _, rfl, fun e => ?_, fun x hx' hp => ?_⟩, by omega⟩
    · split at e
      · have := h0 e; omega
      · cases a with
        | none => have := h0 rfl; omega
        | some _ => cases e
    · split at hx'
      · omega
      · cases a with
        | none => cases hx'
        | some y =>
          obtain ⟨g1, g2, g3⟩ := hx y rfl (by omega)
          obtain ⟨yb, yo, ys⟩ := y
          obtain rfl : ys = none := g1
          simp only [Option.map_some, Option.some.injEq, add_lit_ne] at hx'
          subst hx'
          refine ⟨rfl, g2, fun p q hp hq => ?_⟩
          have := g3 (i + p) q (by omega) hq
          rw [← this]
          congr 2
          show yo + i * k + p * k + q = yo + (i + p) * k + q
          rw [Nat.add_mul]; omega
  · rw [List.getElem_drop]
    exact hR (i + j) (by omega)

/-- A slice that lies in no block below B. -/
def NewFrom (B : Nat) (v : Value) : Prop := ∀ a n c, v = .slice (some a) n c → B ≤ a.block
theorem NewFrom.nil (B n c : Nat) : NewFrom B (.slice none n c) := fun _ _ _ h => by cases h
theorem NewFrom.mono {B B' : Nat} {v : Value} (h : NewFrom B v) (hb : B' ≤ B) : NewFrom B' v := fun a n c e => Nat.le_trans hb (h a n c e)
theorem own_new {w : World} {base n k : Nat} {e : TypeId} {v : Value} {xs : List Value} (h : w.ownsRow base e k v n xs) : NewFrom base v := fun a m c e' => by
  rcases h.2 with ⟨rfl, _⟩ | ⟨g, cap, cur, rfl, hb, _⟩
  · cases e'
  · cases e'; exact hb
/-- Texts in memory that is no older than B. -/
def LsN (B : Nat) (w : World) (v : Value) (l : List ByteArray) : Prop := LsAt 1 16 strR w v l ∧ NewFrom B v
theorem LsN.up {B : Nat} {w w' : World} {v : Value} {l : List ByteArray} (h : LsN B w v l) (u : Up w w') : LsN B w' v l := ⟨h.1.up strR_up u, h.2⟩
theorem LsN.nil (B : Nat) (w : World) : LsN B w (.slice none 0 0) [] := ⟨LsAt.nil 1 16 strR w, NewFrom.nil _ _ _⟩

/-! ### With -/
def lt (a b : ByteArray) : Bool := Op.bytesLess a.toList b.toList
/-- A text laid into a rising list. -/
def wth : List ByteArray → ByteArray → List ByteArray
  | [], s => [s]
  | x :: r, s => if lt x s = true then x :: wth r s else if x = s then x :: r else s :: x :: r
theorem wth_mem : ∀ (l : List ByteArray) (s x : ByteArray), x ∈ wth l s ↔ x ∈ l ∨ x = s
  | [], s, x => by simp [wth]
  | y :: r, s, x => by
    rw [wth]
    split
    · rw [List.mem_cons, wth_mem r s x, List.mem_cons]
      constructor
      · rintro (h | h | h)
        · exact .inl (.inl h)
        · exact .inl (.inr h)
        · exact .inr h
      · rintro ((h | h) | h)
        · exact .inl h
        · exact .inr (.inl h)
        · exact .inr (.inr h)
    · split
      · rename_i h1 h2
        subst h2
        constructor
        · exact fun h => .inl h
        · rintro (h | h)
          · exact h
          · exact h ▸ List.mem_cons_self
      · rw [List.mem_cons]
        constructor
        · rintro (h | h)
          · exact .inr h
          · exact .inl h
        · rintro (h | h)
          · exact .inr h
          · exact .inl h
theorem wth_len (l : List ByteArray) (s : ByteArray) : (wth l s).length ≤ l.length + 1 := by
  induction l with
  | nil => simp [wth]
  | cons y r ih =>
    rw [wth]
    split
    · simp only [List.length_cons]; omega
    · split <;> simp
/-- Where With stops. -/
theorem wth_skip {l : List ByteArray} {s : ByteArray} {k n : Nat} (hn : l.length = n) (hk : k < n) (h : wth l s = l.take k ++ wth (l.drop k) s) (hlt : lt (l[k]'(by omega)) s = true) : wth l s = l.take (k + 1) ++ wth (l.drop (k + 1)) s := by
  subst hn
  rw [h, List.drop_eq_getElem_cons hk, wth, if_pos hlt, List.take_succ_eq_append_getElem hk, List.append_assoc]; rfl

set_option maxHeartbeats 8000000 in
theorem r14_With (B : Nat) (v : Value) (l : List ByteArray) (s : ByteArray) (w : World) (hB : B ≤ w.heap.size) (hv0 : LsN B w v l) (hs : s.size ≤ maxLen) (hl : l.length ≤ 100000) :
    Calls Tryz.prog 53 #[v, .string s] w fun e w' => ∃ u, e = .returned u ∧ Up w w' ∧ LsN B w' u (wth l s) := by
  have HBN := Lib.hid hv0.2
  have HBB := Lib.hid hB
  have hv := hv0.1
  clear hv0 hB
  obtain ⟨j0, hi0, hz0, hz1, hz2⟩ := info_parts string_info
  obtain ⟨a, c, rfl, hc⟩ := hv.shape
  obtain ⟨n, hn⟩ : ∃ n, l.length = n := ⟨_, rfl⟩
  have hsz := hv.sizes
  rw [hn] at hv hc hl ⊢
  have hnI : (n : Int) ≤ 100000 := by omega
  have HC := Lib.hid hc
  have HV := Lib.hid hv
  have HN := Lib.hid hn
  have HSZ := Lib.hid hsz
  have HS := Lib.hid hs
  have HL := Lib.hid hl
  have HW0 : Hid (wth l s = l.take 0 ++ wth (l.drop 0) s) := Lib.hid (by simp)
  clear hv hc hn hsz hs hl
  go_enter Tryz.func53, Tryz.ntmps53
  go_wp2
  go_loopw [5] (fun iv wr => ∃ i : Nat, i ≤ n ∧ iv = .int .i64 i ∧ wr = w ∧ wth l s = l.take i ++ wth (l.drop i) s) (fun iv _ => n - (intOf iv).toNat)
  case atStart => exact ⟨0, by omega, rfl, rfl, HW0.out⟩
  case round =>
    obtain ⟨i, hi, rfl, hw, hP⟩ := hrel
    replace hw := hw.symm
    subst hw
    have HP := Lib.hid hP
    clear hP HW0
    by_cases hlt : i < n
    · have hltI : (i : Int) < n := by omega
      obtain ⟨g, o, rfl, hg, hc1, _⟩ := HV.out.str i (by rw [HN.out]; exact hlt)
      have hi1 : i < l.length := by rw [HN.out]; exact hlt
      have HSK := Lib.hid (fun h => wth_skip (s := s) HN.out hlt HP.out h)
      have HDR := Lib.hid (drop_eq HN.out hlt)
      obtain ⟨x, hx⟩ : ∃ x, l[i]'hi1 = x := ⟨_, rfl⟩
      have HSK : Hid (lt x s = true → wth l s = l.take (i + 1) ++ wth (l.drop (i + 1)) s) := Lib.hid (by rw [← hx]; exact HSK.out)
      have HDR : Hid (l.drop i = x :: l.drop (i + 1)) := Lib.hid (by rw [← hx]; exact HDR.out)
      rw [hx] at hc1
      obtain ⟨q, hq⟩ : ∃ q, Op.bytesLess x.toList s.toList = q := ⟨_, rfl⟩
      have HQ : Hid (lt x s = q) := Lib.hid hq
      clear hx hi1
      cases q
      · -- it stops
        have q2 := tl_eq x s
        by_cases e : x = s
        · rw [decide_eq_true e] at q2
          have HE : Hid (wth l s = l) := Lib.hid (by rw [HP.out, HDR.out, wth, if_neg (by rw [HQ.out]; decide), if_pos e, ← HDR.out, List.take_append_drop])
          clear e
          go_wp2
          go_ret
          refine ⟨_, rfl, Up.refl _, by rw [HE.out]; exact HV.out, ?_⟩
          have := HBN.out
          rw [HN.out] at this
          exact this
        · rw [decide_eq_false e] at q2
          have HE : Hid (wth l s = l.take i ++ [s] ++ l.drop i) := Lib.hid (by rw [HP.out, HDR.out, wth, if_neg (by rw [HQ.out]; decide), if_neg e, List.append_assoc]; rfl)
          clear e
          have hiI : (i : Int) ≤ (n : Int) := by omega
          have hcI : (n : Int) ≤ (c : Int) := by have := HC.out; omega
          have HTK := Lib.hid (HV.out.take i (by rw [HN.out]; omega))
          have HTL : Hid ((l.take i).length = i) := Lib.hid (by rw [List.length_take, HN.out]; omega)
          have HDL : Hid ((l.drop i).length = n - i) := Lib.hid (by rw [List.length_drop, HN.out])
          have hnB : n ≤ 100000 := HL.out
          have hiB : i ≤ n := by omega
          have HDP := Lib.hid (HV.out.drop i (by rw [HN.out]; omega))
          have hci : ¬ c = i := by have := HC.out; omega
          have HSD : Hid (∀ y, Up w y → SlAt y (.slice (some ⟨g, o + i, none⟩) (n - i) (c - i)) (n - i) 1 (strF (l.drop i))) := Lib.hid (fun y hy => by
            have h := HDP.out.sl
            rw [HDL.out, if_neg hci] at h
            simp only [Option.map_some, add_lit_ne, Nat.mul_one] at h
            exact h.up hy)
          clear HDP
          go_wp2_with (first
            | (at_builtin; refine wpList_append_sl _ rfl _ _ 22 rfl w.heap.size 9 j0 _ 1 16 Tryz.underlying22 hi0 hz0 hz1 hz2 rfl (by decide) (.slice vb2 (i + 1) vc2) (i + 1) _ rfl HO2.out (.slice (some ⟨g, o + i, none⟩) (n - i) (c - i)) (n - i) (strF (l.drop i)) rfl (HSD.out _ HU2.out) (fun i j _ _ => rfl) (by unfold maxLen; omega) (by omega) HB2.out ?_; intro v' w3 ho hg hat hnil; obtain ⟨vb3, vc3, rfl⟩ := own_slice ho; have HO3 := Lib.hid ho; have HU3 := Lib.hid (HU2.out.grown hg fun g hg => own_base HO2.out g hg); clear ho hg hat hnil)
            | (at_builtin; refine wpList_append_sl _ rfl _ _ 22 rfl w.heap.size 9 j0 _ 1 16 Tryz.underlying22 hi0 hz0 hz1 hz2 rfl (by decide) (.slice vb1 i vc1) i _ rfl (own_up' HO1.out ((Up.refl w1).alloc _)) (.slice (some ⟨w1.heap.size, 0, none⟩) 1 1) 1 (strF [s]) rfl (SlAt.lay w1 _ #[.string s] 1 1 _ (by decide) (fun i j hi hj => by obtain rfl : i = 0 := (by omega); obtain rfl : j = 0 := (by omega); rfl)) (fun i j _ _ => rfl) (by unfold maxLen; omega) (by omega) (by have := HB1.out; simp only [World.size_alloc]; omega) ?_; intro v' w2 ho hg hat hnil; obtain ⟨vb2, vc2, rfl⟩ := own_slice ho; have HO2 := Lib.hid ho; have HU2 := Lib.hid ((HU1.out.trans ((Up.refl w1).alloc (.cells #[.string s] 9))).grown hg fun g hg => own_base HO1.out g hg); have HB2 := Lib.hid HU2.out.size; clear ho hg hat hnil)
            | (at_builtin; refine wpList_append_sl _ rfl _ _ 22 rfl w.heap.size 9 j0 _ 1 16 Tryz.underlying22 hi0 hz0 hz1 hz2 rfl (by decide) (.slice none 0 0) 0 [] rfl (World.ownsRow_nil _ _ _ _) (.slice _ i c) i (strF (l.take i)) rfl (by have := HTK.out.sl; rw [HTL.out] at this; exact this) (fun i j _ _ => rfl) (by unfold maxLen; omega) (by omega) (Nat.le_refl _) ?_; intro v' w1 ho hg hat hnil; rw [Nat.zero_add] at ho; obtain ⟨vb1, vc1, rfl⟩ := own_slice ho; have HO1 := Lib.hid ho; have HU1 := Lib.hid ((Up.refl w).grown hg fun g hg => by cases hg); have HB1 := Lib.hid HU1.out.size; clear ho hg hat hnil))
          go_ret
          refine ⟨_, rfl, HU3.out, ?_, (own_new HO3.out).mono HBB.out⟩
          rw [HE.out]
          refine LsAt.of_own (l := l.take i ++ [s] ++ l.drop i) (n := i + 1 + (n - i)) (base := w.heap.size) (e := 9) ?_ (by rw [List.length_append, List.length_append, HTL.out, HDL.out]; rfl) (by have := HL.out; omega) (fun x hx => ?_)
          · have h := HO3.out
            rw [flat_str _ _ HTL.out, flat_str [s] 1 rfl, flat_str _ _ HDL.out, List.nil_append, ← strsV_app, ← strsV_app] at h
            exact h
          · rcases List.mem_append.1 hx with hx | hx
            · rcases List.mem_append.1 hx with hx | hx
              · exact HSZ.out x (List.mem_of_mem_take hx)
              · rw [List.mem_singleton.1 hx]; exact HS.out
            · exact HSZ.out x (List.mem_of_mem_drop hx)
      · have HNX := Lib.hid (HSK.out HQ.out)
        go_wp2
        go_roundw
        case rel => exact ⟨i + 1, by omega, by go_num, trivial, HNX.out⟩
        case measure => simp [intOf]; omega
    · obtain rfl : i = n := by omega
      have HE : Hid (wth l s = l.take i ++ [s] ++ l.drop i) := Lib.hid (by rw [HP.out, List.drop_of_length_le (by rw [HN.out]; exact Nat.le_refl _), List.append_nil]; rfl)
      have hiI : (i : Int) ≤ (i : Int) := by omega
      have hcI : (i : Int) ≤ (c : Int) := by have := HC.out; omega
      have HTK := Lib.hid (HV.out.take i (by rw [HN.out]; omega))
      have HTL : Hid ((l.take i).length = i) := Lib.hid (by rw [List.length_take, HN.out]; omega)
      have HDL : Hid ((l.drop i).length = i - i) := Lib.hid (by rw [List.length_drop, HN.out])
      have hnB : i ≤ 100000 := HL.out
      have hiB : i ≤ i := by omega
      have HSD : Hid (∀ (ad : Option Addr) cc y, Up w y → SlAt y (.slice ad 0 cc) 0 1 (strF (l.drop i))) := Lib.hid (fun ad cc y _ => ⟨⟨ad, _, rfl, fun _ => rfl, fun x hx hl => absurd hl (Nat.lt_irrefl 0)⟩, Nat.zero_le _⟩)
      have HMEM : Hid (∀ x ∈ l.take i ++ [s] ++ l.drop i, x.size ≤ maxLen) := Lib.hid (fun x hx => by
        rcases List.mem_append.1 hx with hx | hx
        · rcases List.mem_append.1 hx with hx | hx
          · exact HSZ.out x (List.mem_of_mem_take hx)
          · rw [List.mem_singleton.1 hx]; exact HS.out
        · exact HSZ.out x (List.mem_of_mem_drop hx))
      by_cases hci : c = i
      all_goals
        (try rw [hci] at HTK)
        go_wp2_with (first
          | (at_builtin; refine wpList_append_sl _ rfl _ _ 22 rfl w.heap.size 9 j0 _ 1 16 Tryz.underlying22 hi0 hz0 hz1 hz2 rfl (by decide) (.slice (some ⟨gb2, 0, none⟩) (i + 1) vc2) (i + 1) _ rfl HO2.out (.slice _ 0 _) 0 (strF (l.drop i)) rfl (HSD.out _ _ _ HU2.out) (fun i j _ _ => rfl) (by unfold maxLen; omega) (by omega) HB2.out ?_; intro v' w3 ho hg hat hnil; obtain ⟨vb3, vc3, rfl⟩ := own_slice ho; have HO3 := Lib.hid ho; have HU3 := Lib.hid (HU2.out.grown hg fun g hg => own_base HO2.out g hg); clear ho hg hat hnil)
          | (at_builtin; refine wpList_append_sl _ rfl _ _ 22 rfl w.heap.size 9 j0 _ 1 16 Tryz.underlying22 hi0 hz0 hz1 hz2 rfl (by decide) (.slice vb1 i vc1) i _ rfl (own_up' HO1.out ((Up.refl w1).alloc _)) (.slice (some ⟨w1.heap.size, 0, none⟩) 1 1) 1 (strF [s]) rfl (SlAt.lay w1 _ #[.string s] 1 1 _ (by decide) (fun i j hi hj => by obtain rfl : i = 0 := (by omega); obtain rfl : j = 0 := (by omega); rfl)) (fun i j _ _ => rfl) (by unfold maxLen; omega) (by omega) (by have := HB1.out; simp only [World.size_alloc]; omega) ?_; intro v' w2 ho hg hat hnil; obtain ⟨gb2, vc2, rfl, _, hgb2, hcb2, _, _⟩ := own_get ho (Nat.succ_pos i); have HO2 := Lib.hid ho; have HU2 := Lib.hid ((HU1.out.trans ((Up.refl w1).alloc (.cells #[.string s] 9))).grown hg fun g hg => own_base HO1.out g hg); have HB2 := Lib.hid HU2.out.size; clear ho hg hat hnil)
          | (at_builtin; refine wpList_append_sl _ rfl _ _ 22 rfl w.heap.size 9 j0 _ 1 16 Tryz.underlying22 hi0 hz0 hz1 hz2 rfl (by decide) (.slice none 0 0) 0 [] rfl (World.ownsRow_nil _ _ _ _) (.slice _ i _) i (strF (l.take i)) rfl (by have := HTK.out.sl; rw [HTL.out] at this; exact this) (fun i j _ _ => rfl) (by unfold maxLen; omega) (by omega) (Nat.le_refl _) ?_; intro v' w1 ho hg hat hnil; rw [Nat.zero_add] at ho; obtain ⟨vb1, vc1, rfl⟩ := own_slice ho; have HO1 := Lib.hid ho; have HU1 := Lib.hid ((Up.refl w).grown hg fun g hg => by cases hg); have HB1 := Lib.hid HU1.out.size; clear ho hg hat hnil))
        go_ret
        first
          | (refine ⟨_, rfl, HU3.out, ?_, (own_new HO3.out).mono HBB.out⟩
             rw [HE.out]
             refine LsAt.of_own (l := l.take i ++ [s] ++ l.drop i) (n := i + 1 + 0) (base := w.heap.size) (e := 9) ?_ (by rw [List.length_append, List.length_append, HTL.out, HDL.out, Nat.sub_self]; rfl) (by have := HL.out; omega) HMEM.out
             have h := HO3.out
             rw [flat_str _ _ HTL.out, flat_str [s] 1 rfl, flat_str _ _ (HDL.out.trans (Nat.sub_self i)), List.nil_append, ← strsV_app, ← strsV_app] at h
             exact h)
          | (refine ⟨_, rfl, HU2.out, ?_, (own_new HO2.out).mono HBB.out⟩
             rw [HE.out]
             refine LsAt.of_own (l := l.take i ++ [s] ++ l.drop i) (n := i + 1) (base := w.heap.size) (e := 9) ?_ (by rw [List.length_append, List.length_append, HTL.out, HDL.out, Nat.sub_self]; rfl) (by have := HL.out; omega) HMEM.out
             have h := HO2.out
             have hd : l.drop i = [] := List.eq_nil_of_length_eq_zero (HDL.out.trans (Nat.sub_self i))
             rw [flat_str _ _ HTL.out, flat_str [s] 1 rfl, List.nil_append, ← strsV_app] at h
             rw [hd, List.append_nil]
             exact h)
end Go.Proofs.YtpccaifhcmcegaaGreat
end

section
namespace Go.Proofs.YtpccaifhcmcegaaGreat
set_option linter.unusedSimpArgs false
open Go.ChangeShapes Go.WideShapes Go.ChangeAt Go.RowKit
set_option linter.unusedVariables false
set_option maxRecDepth 100000

mutual
/-- The nodes in preorder. -/
def nodes : Ex → List Ex
  | .mk op nm n d ty lin ix args => .mk op nm n d ty lin ix args :: nodess args
def nodess : List Ex → List Ex
  | [] => []
  | e :: r => nodes e ++ nodess r
end
theorem nodess_app : ∀ a b : List Ex, nodess (a ++ b) = nodess a ++ nodess b
  | [], b => by simp [nodess]
  | e :: r, b => by rw [List.cons_append, nodess, nodess, nodess_app r b, List.append_assoc]
theorem nodess_take {l : List Ex} {i : Nat} (hi : i < l.length) : nodess (l.take (i + 1)) = nodess (l.take i) ++ nodes l[i] := by
  rw [List.take_succ_eq_append_getElem hi, nodess_app]
  simp [nodess]
mutual
theorem nodes_len : ∀ e : Ex, (nodes e).length ≤ tot e
  | .mk op nm n d ty lin ix args => by
    have := nodess_len args
    rw [nodes, tot, List.length_cons]; omega
theorem nodess_len : ∀ l : List Ex, (nodess l).length ≤ tots l
  | [] => by simp [nodess, tots]
  | e :: r => by
    have := nodes_len e
    have := nodess_len r
    rw [nodess, tots, List.length_append]; omega
end
theorem tots_take_le {l : List Ex} (i : Nat) : tots (l.take i) ≤ tots l := by
  conv => rhs; rw [← List.take_append_drop i l]
  rw [tots_app]; omega
theorem tots_mem {l : List Ex} {i : Nat} (hi : i < l.length) : tot l[i] ≤ tots l := by
  have h1 := tots_take hi
  have h2 := tots_take_le (l := l) (i + 1)
  omega

/-- A deeper bound serves too. -/
theorem LsAt.mono {α : Type} {k B : Nat} {R S : Rel α} (hRS : ∀ w f e, R w f e → S w f e) {w : World} {v : Value} {l : List α} (h : LsAt k B R w v l) : LsAt k B S w v l :=
  let ⟨h1, hb, F, h2, h3⟩ := h
  ⟨h1, hb, F, h2, fun i hi => hRS _ _ _ (h3 i hi)⟩
theorem exR_succ : ∀ (n : Nat) (w : World) (f : Nat → Value) (e : Ex), exR n w f e → exR (n + 1) w f e
  | 0, _, _, _, h => h.elim
  | n + 1, w, f, e, h => by
    obtain ⟨op, nm, a, d, ty, lin, ix, args⟩ := e
    obtain ⟨h1, h2, h3, h4, h5, h6, h7, h8⟩ := h
    exact ⟨h1, h2, h3, h4, h5, h6, h7, h8.mono (exR_succ n)⟩
theorem exR_one {n : Nat} {w : World} {f : Nat → Value} {e : Ex} (h : exR n w f e) : ∀ j, j < 13 → (f j).oneCell' = true := by
  cases n with
  | zero => exact h.elim
  | succ n =>
    obtain ⟨op, nm, a, d, ty, lin, ix, args⟩ := e
    obtain ⟨h1, ⟨h2, _⟩, h3, h4, ⟨g0, g1, g2, g3, g4⟩, ⟨l0, l1⟩, h7, h8⟩ := h
    obtain ⟨_, _, e1, _⟩ := l1.shape
    obtain ⟨_, _, e2, _⟩ := h7.shape
    obtain ⟨_, _, e3, _⟩ := h8.shape
    dsimp only at g0 g1 g2 g3 g4 l0 e1
    intro j hj
    rcases (by omega : j = 0 ∨ j = 1 ∨ j = 2 ∨ j = 3 ∨ j = 4 ∨ j = 5 ∨ j = 6 ∨ j = 7 ∨ j = 8 ∨ j = 9 ∨ j = 10 ∨ j = 11 ∨ j = 12) with rfl | rfl | rfl | rfl | rfl | rfl | rfl | rfl | rfl | rfl | rfl | rfl | rfl
    · rw [h1]; rfl
    · rw [h2]; rfl
    · rw [h3]; rfl
    · rw [h4]; rfl
    · rw [show f 4 = _ from g0]; rfl
    · rw [show f 5 = _ from g1]; rfl
    · rw [show f 6 = _ from g2]; rfl
    · rw [show f 7 = _ from g3]; rfl
    · rw [show f 8 = _ from g4]; rfl
    · rw [show f 9 = _ from l0]; rfl
    · rw [show f 10 = _ from e1]; rfl
    · rw [e2]; rfl
    · rw [e3]; rfl

/-- Rows behind one another. -/
def both (F G : Nat → Nat → Value) (m : Nat) : Nat → Nat → Value := fun i j => if i < m then F i j else G (i - m) j
theorem flat_app (F G : Nat → Nat → Value) (m n k : Nat) (hk : 0 < k) : flat F m k ++ flat G n k = flat (both F G m) (m + n) k := by
  refine List.ext_getElem? fun q => ?_
  have l1 : (flat F m k).length = m * k := flat_length _ _ _
  have l2 : (flat G n k).length = n * k := flat_length _ _ _
  have l3 : (flat (both F G m) (m + n) k).length = (m + n) * k := flat_length _ _ _
  by_cases hq : q < (m + n) * k
  · have hd : q / k < m + n := Nat.div_lt_of_lt_mul (by rw [Nat.mul_comm]; exact hq)
    have hm := Nat.mod_lt q hk
    have hqq : q / k * k + q % k = q := by rw [Nat.mul_comm]; exact Nat.div_add_mod q k
    have h3 := flat_get (both F G m) (m + n) k (q / k) (q % k) hd hm
    rw [hqq] at h3
    rw [h3]
    unfold both
    by_cases h : q / k < m
    · rw [if_pos h]
      have h1 := flat_get F m k (q / k) (q % k) h hm
      rw [hqq] at h1
      rw [List.getElem?_append_left (by rw [l1]; have := (List.getElem?_eq_some_iff.1 h1).1; rwa [l1] at this)]
      exact h1
    · rw [if_neg h]
      have h1 := flat_get G n k (q / k - m) (q % k) (by omega) hm
      have e : (q / k - m) * k + q % k = q - m * k := by
        rw [Nat.sub_mul]
        have : m * k ≤ q / k * k := Nat.mul_le_mul_right k (by omega)
        omega
      rw [e] at h1
      have hge : m * k ≤ q := by
        have : m * k ≤ q / k * k := Nat.mul_le_mul_right k (by omega)
        omega
      rw [List.getElem?_append_right (by rw [l1]; exact hge), l1]
      exact h1
  · rw [List.getElem?_eq_none (by rw [List.length_append, l1, l2, ← Nat.add_mul]; omega), List.getElem?_eq_none (by rw [l3]; omega)]
/-- An own row of structs, with what its elements read as. -/
def OwnL {α : Type} (k : Nat) (R : Rel α) (base : Nat) (e : TypeId) (w : World) (v : Value) (l : List α) : Prop :=
  ∃ F : Nat → Nat → Value, w.ownsRow base e k v l.length (flat F l.length k) ∧ ∀ i (h : i < l.length), R w (F i) l[i]
theorem OwnL.nil {α : Type} {k : Nat} {R : Rel α} {base : Nat} {e : TypeId} {w : World} : OwnL k R base e w (.slice none 0 0) [] :=
  ⟨fun _ _ => undef, by have := World.ownsRow_nil (w := w) (base := base) (e := e) (size := k); simpa [flat] using this, fun i h => absurd h (Nat.not_lt_zero _)⟩
theorem OwnL.up {α : Type} {k : Nat} {R : Rel α} (hR : UpR R) {base : Nat} {e : TypeId} {w w' : World} {v : Value} {l : List α} (h : OwnL k R base e w v l) (u : Up w w') : OwnL k R base e w' v l :=
  let ⟨F, h1, h2⟩ := h
  ⟨F, own_up' h1 u, fun i hi => hR _ _ _ _ (h2 i hi) u⟩
theorem OwnL.shape {α : Type} {k : Nat} {R : Rel α} {base : Nat} {e : TypeId} {w : World} {v : Value} {l : List α} (h : OwnL k R base e w v l) : ∃ a c, v = .slice a l.length c := let ⟨F, h1, _⟩ := h; own_slice h1
theorem OwnL.ls {α : Type} {k B : Nat} {R : Rel α} {base : Nat} {e : TypeId} {w : World} {v : Value} {l : List α} (h : OwnL k R base e w v l) (hB : 1 ≤ B) (hb : l.length * B ≤ 140737488351232) : LsAt k B R w v l := by
  obtain ⟨F, h1, h2⟩ := h
  obtain ⟨a, c, rfl⟩ := own_slice h1
  have : l.length * 1 ≤ l.length * B := Nat.mul_le_mul_left _ hB
  exact ⟨⟨a, c, rfl, own_cap h1⟩, hb, F, SlAt.of_own h1 (by omega) fun i j hi hj => flat_get F _ _ _ _ hi hj, h2⟩
/-- What an append to an own row leaves. -/
theorem OwnL.app {α : Type} {k : Nat} {R : Rel α} (hk : 0 < k) {base : Nat} {e : TypeId} {w' : World} {v' : Value} {l m : List α} {F G : Nat → Nat → Value}
    (h : w'.ownsRow base e k v' (l.length + m.length) (flat F l.length k ++ flat G m.length k)) (hF : ∀ i (h : i < l.length), R w' (F i) l[i]) (hG : ∀ i (h : i < m.length), R w' (G i) m[i]) : OwnL k R base e w' v' (l ++ m) := by
  refine ⟨both F G l.length, ?_, fun i hi => ?_⟩
  · rw [List.length_append, ← flat_app _ _ _ _ _ hk]; exact h
  · rw [List.length_append] at hi
    by_cases h1 : i < l.length
    · rw [List.getElem_append_left h1, show both F G l.length i = F i from funext fun j => if_pos h1]
      exact hF i h1
    · rw [List.getElem_append_right (by omega), show both F G l.length i = G (i - l.length) from funext fun j => if_neg h1]
      exact hG _ (by omega)
theorem expr_info : (Tryz.prog.info? 48).map (fun i => (i.zero, i.size, i.bytes)) = some (some (.agg #[.int .i64 0, .string ByteArray.empty, .int .i64 0, .int .i64 0, .int .i64 0, .int .i64 0, .int .i64 0, .int .i64 0, .int .i64 0, .int .i64 0, .slice none 0 0, .slice none 0 0, .slice none 0 0]), 13, 160) := by kernel_rfl
end Go.Proofs.YtpccaifhcmcegaaGreat
end

section
namespace Go.Proofs.YtpccaifhcmcegaaGreat
set_option linter.unusedSimpArgs false
open Go.ChangeShapes Go.WideShapes Go.ChangeAt Go.RowKit
set_option linter.unusedVariables false
set_option maxRecDepth 100000

theorem own_built {w : World} {base k n g : Nat} {e : TypeId} {cs : Array Value} (h : w.heap[g]? = some (.cells cs e (0, 0))) (hb : base ≤ g) (hn : n ≤ maxLen) (hs : cs.size = n * k) : w.ownsRow base e k (.slice (some ⟨g, 0, none⟩) n n) n cs.toList :=
  ⟨by simp [hs], .inr ⟨g, n, cs, rfl, hb, h, Nat.le_refl _, hn, hs, by rw [List.take_of_length_le (by simp [hs])]⟩⟩
theorem own_one {w : World} {base g : Nat} {e : TypeId} {f : Nat → Value} (h : w.heap[g]? = some (.cells #[f 0, f 1, f 2, f 3, f 4, f 5, f 6, f 7, f 8, f 9, f 10, f 11, f 12] e (0, 0))) (hb : base ≤ g) : w.ownsRow base e 13 (.slice (some ⟨g, 0, none⟩) 1 1) 1 (flat (fun _ j => f j) 1 13) :=
  own_built (cs := #[f 0, f 1, f 2, f 3, f 4, f 5, f 6, f 7, f 8, f 9, f 10, f 11, f 12]) h hb (by decide) rfl

set_option maxHeartbeats 8000000 in
theorem all_step (N : Nat) (ih : ∀ (e : Ex) (v : Value) (w0 w : World) (hv : ExAt N w0 v e) (hw : Up w0 w) (ht : tot e ≤ 1500), Calls Tryz.prog 52 #[v] w fun e' w' => ∃ u, e' = .returned u ∧ Up w w' ∧ LsAt 13 160 (fun _ => exR N w0) w' u (nodes e))
    (e : Ex) (v : Value) (w0 w : World) (hv : ExAt (N + 1) w0 v e) (hw : Up w0 w) (ht : tot e ≤ 1500) : Calls Tryz.prog 52 #[v] w fun e' w' => ∃ u, e' = .returned u ∧ Up w w' ∧ LsAt 13 160 (fun _ => exR (N + 1) w0) w' u (nodes e) := by
  obtain ⟨j0, hi0, hz0, hz1, hz2⟩ := info_parts expr_info
  have HIH := Lib.hid ih
  clear ih
  obtain ⟨fv, hfv, hfe⟩ := id hv
  obtain ⟨op, nm, A, d, t0, t1, t2, t3, t4, K, la, lc, xa, xc, ra, rc, ms, ix, args, rfl, hve, hnm, hL, hX, hR⟩ := hv.open
  subst hfv
  have hTA : tots args ≤ 1500 := by rw [tot] at ht; omega
  have hNL := nodes_len (.mk op nm A d (t0, t1, t2, t3, t4) (K, ms) ix args)
  obtain ⟨E, hE⟩ : ∃ E, Ex.mk op nm A d (t0, t1, t2, t3, t4) (K, ms) ix args = E := ⟨_, rfl⟩
  have HNO : Hid (nodes E = E :: nodess args) := Lib.hid (by rw [← hE, nodes])
  rw [hE] at hfe ht hNL ⊢
  obtain ⟨rn, hrn⟩ : ∃ q, args.length = q := ⟨_, rfl⟩
  rw [hrn] at hR hve
  simp only [Value.agg.injEq, Array.mk.injEq, List.cons.injEq, and_true] at hve
  obtain ⟨-, -, -, -, -, -, -, -, -, -, -, -, e12⟩ := hve
  have HR := Lib.hid hR
  have HRN := Lib.hid hrn
  have HFE := Lib.hid hfe
  have HTA := Lib.hid hTA
  have HNL := Lib.hid (Nat.le_trans hNL ht)
  have hrI : (rn : Int) ≤ 140737488351232 := by have := hR.bytes; rw [hrn] at this; omega
  have HW := Lib.hid hw
  clear hfe hL hX hR hrn hTA hNL ht hv hE hnm hw
  rw [e12]
  have HY0 : Hid (BoxC (w.alloc (.cells #[fv 0, fv 1, fv 2, fv 3, fv 4, fv 5, fv 6, fv 7, fv 8, fv 9, fv 10, fv 11, .slice ra rn rc] 48)) w.heap.size 48 #[fv 0, fv 1, fv 2, fv 3, fv 4, fv 5, fv 6, fv 7, fv 8, fv 9, fv 10, fv 11, .slice ra rn rc]) := Lib.hid (BoxC.new w _ _)
  have HU0 : Hid (Up w (w.alloc (.cells #[fv 0, fv 1, fv 2, fv 3, fv 4, fv 5, fv 6, fv 7, fv 8, fv 9, fv 10, fv 11, .slice ra rn rc] 48))) := Lib.hid ((Up.refl w).alloc _)
  have HS0 : Hid ((w.alloc (.cells #[fv 0, fv 1, fv 2, fv 3, fv 4, fv 5, fv 6, fv 7, fv 8, fv 9, fv 10, fv 11, .slice ra rn rc] 48)).heap.size = w.heap.size + 1) := Lib.hid (World.size_alloc _ _)
  go_enter Tryz.func52, Tryz.ntmps52
  go_wp2
  go_loopw [3, 4] (fun ov iv wr => ∃ i : Nat, iv = .int .i64 i ∧ i ≤ rn ∧ OwnL 13 (fun _ => exR (N + 1) w0) (w.heap.size + 1) 48 wr ov (E :: nodess (args.take i)) ∧ Up (w.alloc (.cells #[fv 0, fv 1, fv 2, fv 3, fv 4, fv 5, fv 6, fv 7, fv 8, fv 9, fv 10, fv 11, .slice ra rn rc] 48)) wr) (fun _ iv _ => rn - (intOf iv).toNat)
  case atStart =>
    refine ⟨0, rfl, Nat.zero_le _, ?_, (Up.refl _).alloc _⟩
    refine ⟨fun _ j => fv j, ?_, fun i hi => ?_⟩
    · have := own_one (base := w.heap.size + 1) (f := fv) (e := 48) (g := w.heap.size + 1) (w := (w.alloc (.cells #[fv 0, fv 1, fv 2, fv 3, fv 4, fv 5, fv 6, fv 7, fv 8, fv 9, fv 10, fv 11, fv 12] 48)).alloc (.cells #[fv 0, fv 1, fv 2, fv 3, fv 4, fv 5, fv 6, fv 7, fv 8, fv 9, fv 10, fv 11, fv 12] 48)) (BoxC.new2 w _ _ _) (Nat.le_refl _)
      rw [e12] at this
      exact this
    · have hi : i < 1 := hi
      obtain rfl : i = 0 := by omega
      exact HFE.out
  case round =>
    rename World => wr
    obtain ⟨i, rfl, hi, hown, hup⟩ := hrel
    obtain ⟨oa, oc, rfl⟩ := hown.shape
    have HO := Lib.hid hown
    have HU := Lib.hid hup
    have hbx := HY0.out.up hup
    have b12 : wr.cell? ⟨w.heap.size, 12, none⟩ = some (.slice ra rn rc) := cell_of_row _ _ _ _ _ _ hbx
    have bs : w.heap.size < wr.heap.size := hbx.lt
    obtain ⟨m, hm⟩ : ∃ m, (E :: nodess (args.take i)).length = m := ⟨_, rfl⟩
    have HM := Lib.hid hm
    have HMB : Hid (m ≤ (nodes E).length) := Lib.hid (by
      rw [HNO.out, ← hm, List.length_cons, List.length_cons]
      have : (nodess (args.take i)).length ≤ (nodess args).length := by
        conv => rhs; rw [← List.take_append_drop i args, nodess_app, List.length_append]
        omega
      omega)
    rw [hm]
    clear hown hup hbx hm
    by_cases hlt : i < rn
    · have hltI : (i : Int) < rn := by omega
      have hi1 : i < args.length := by rw [HRN.out]; exact hlt
      obtain ⟨g, o, f, rfl, hg, hf, hEx⟩ := HR.out.elem i hi1
      have HNT := Lib.hid (nodess_take hi1)
      have HTT := Lib.hid (Nat.le_trans (tots_mem hi1) HTA.out)
      have HLE : Hid ((E :: nodess (args.take (i + 1))).length ≤ (nodes E).length) := Lib.hid (by
        rw [HNO.out, List.length_cons, List.length_cons]
        have : (nodess (args.take (i + 1))).length ≤ (nodess args).length := by
          conv => rhs; rw [← List.take_append_drop (i + 1) args, nodess_app, List.length_append]
          omega
        omega)
      obtain ⟨ex, hex⟩ : ∃ ex, args[i] = ex := ⟨_, rfl⟩
      rw [hex] at hEx HNT HTT
      have HUW := Lib.hid (HW.out.trans (HU0.out.trans HU.out))
      obtain ⟨f0, f1, f2, f3, f4, f5, f6, f7, f8, f9, f10, f11, f12⟩ := cells13 (fun j hj => cell_up' HUW.out hg (hf j hj))
      have hg' := Nat.lt_of_lt_of_le hg HUW.out.size
      have HCL := Lib.hid (HIH.out ex _ w0 wr (exR_val hEx) HUW.out HTT.out)
      have HN2 : Hid (E :: nodess (args.take (i + 1)) = (E :: nodess (args.take i)) ++ nodes ex) := Lib.hid (by rw [HNT.out]; rfl)
      obtain ⟨mm, hmm⟩ : ∃ q, (nodes ex).length = q := ⟨_, rfl⟩
      have HMM := Lib.hid hmm
      have HMS : Hid (m + mm ≤ 1500) := Lib.hid (by
        have h1 := HLE.out
        rw [HN2.out, List.length_append, HM.out, hmm] at h1
        have := HNL.out
        omega)
      have hMS1 : m ≤ 1500 := by have := HMS.out; omega
      have hMS2 : mm ≤ 1500 := by have := HMS.out; omega
      clear hf hEx hex hi1 HNT HLE hmm
      go_wp2_with (first
        | (at_builtin; refine wpList_append_sl _ rfl _ _ 46 rfl (w.heap.size + 1) 48 j0 _ 13 160 Tryz.underlying46 hi0 hz0 hz1 hz2 rfl (by decide) (.slice oa m oc) m _ rfl HOF.out.1 (.slice ua mm uc) mm FG rfl HSG.out.1 (fun i j hi hj => exR_one (HSG.out.2 i (by rw [HMM.out]; exact hi)) j hj) (by unfold maxLen; omega) (by omega) HBS.out ?_; intro v' w3 ho hgr hat hnil; obtain ⟨vb3, vc3, rfl⟩ := own_slice ho; have HO3 := Lib.hid ho; have HG3 := Lib.hid hgr; clear ho hgr hat hnil)
        | (go_at_call 52; refine HCL.out.mono ?_; rintro e' y ⟨u, rfl, hy, hu⟩; obtain ⟨ua, uc, rfl, _⟩ := hu.shape; obtain ⟨_, _, FG, hs1, hs2⟩ := hu; obtain ⟨FF, hff1, hff2⟩ := HO.out.up (fun _ _ _ _ h _ => h) hy; rw [HM.out] at hff1; rw [HMM.out] at hs1; have HOF := Lib.hid (And.intro hff1 hff2); have HSG := Lib.hid (And.intro hs1 hs2); have HUY := Lib.hid (HU.out.trans hy); have HBS : Hid (w.heap.size + 1 ≤ y.heap.size) := Lib.hid (by have := HUY.out.size; rw [HS0.out] at this; exact this); rw [HMM.out]; clear hff1 hff2 hs1 hs2 hy))
      have HUN := Lib.hid (HUY.out.grown HG3.out fun g hg => by rw [HS0.out]; exact own_base HOF.out.1 g hg)
      have HON : Hid (OwnL 13 (fun _ => exR (N + 1) w0) (w.heap.size + 1) 48 w3 (.slice vb3 (m + mm) vc3) ((E :: nodess (args.take i)) ++ nodes ex)) := Lib.hid (OwnL.app (by decide) (by rw [HM.out, HMM.out]; exact HO3.out) HOF.out.2 (fun i hi => exR_succ N _ _ _ (HSG.out.2 i hi)))
      go_roundw
      case rel => exact ⟨i + 1, by go_num, by omega, by rw [HN2.out]; exact HON.out, HUN.out⟩
      case measure => simp [intOf]; omega
    · obtain rfl : i = rn := by omega
      have HFIN : Hid (E :: nodess (args.take i) = nodes E) := Lib.hid (by rw [HNO.out, List.take_of_length_le (by rw [HRN.out]; exact Nat.le_refl _)])
      go_wp2
      go_ret
      refine ⟨_, rfl, HU0.out.trans HU.out, ?_⟩
      have h := HO.out
      rw [HFIN.out] at h
      have hm : (nodes E).length = m := by rw [← HFIN.out]; exact HM.out
      rw [hm] at h
      exact OwnL.ls (B := 160) h (by decide) (by have := HNL.out; omega)
theorem r14_All (n : Nat) : ∀ (e : Ex) (v : Value) (w0 w : World) (hv : ExAt n w0 v e) (hw : Up w0 w) (ht : tot e ≤ 1500), Calls Tryz.prog 52 #[v] w fun e' w' => ∃ u, e' = .returned u ∧ Up w w' ∧ LsAt 13 160 (fun _ => exR n w0) w' u (nodes e) := by
  induction n with
  | zero => intro e v w0 w hv; obtain ⟨_, _, h⟩ := hv; exact h.elim
  | succ N ih => exact fun e v w0 w hv hw ht => all_step N ih e v w0 w hv hw ht
end Go.Proofs.YtpccaifhcmcegaaGreat
end
