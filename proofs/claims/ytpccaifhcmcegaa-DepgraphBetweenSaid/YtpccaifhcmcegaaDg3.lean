/-
  Programs as values; Small. Printed by mkDg3.py.
-/
import Derived.Test.YtpccaifhcmcegaaDg2
namespace Go.Proofs.Ytpccaifhcmcegaa
set_option linter.unusedSimpArgs false
open Go.ChangeShapes Go.WideShapes Go.ChangeAt Go.RowKit
set_option linter.unusedVariables false
set_option maxRecDepth 100000

theorem ProgAt.up {n : Nat} {w w' : World} {v : Value} {p : Pg} (h : ProgAt n w v p) (u : Up w w') : ProgAt n w' v p :=
  let ⟨v0, v1, v2, v3, v4, e, h⟩ := h
  ⟨v0, v1, v2, v3, v4, e, progR_up n _ _ _ _ h u⟩
/-- A program's five slices. -/
theorem ProgAt.open {n : Nat} {w : World} {v : Value} {p : Pg} (h : ProgAt n w v p) : ∃ (sa : Option Addr) (sc : Nat) (ca : Option Addr) (cc : Nat) (pa : Option Addr) (pc : Nat) (da : Option Addr) (dc : Nat) (oa : Option Addr) (oc : Nat),
    v = .agg #[.slice sa p.sizes.length sc, .slice ca p.cons.length cc, .slice pa p.pars.length pc, .slice da p.defs.length dc, .slice oa p.outs.length oc] ∧
    LsAt 1 16 strR w (.slice sa p.sizes.length sc) p.sizes ∧ LsAt 3 40 conR w (.slice ca p.cons.length cc) p.cons ∧ LsAt 7 80 parR w (.slice pa p.pars.length pc) p.pars ∧ LsAt 22 272 (defR n) w (.slice da p.defs.length dc) p.defs ∧ LsAt 1 16 strR w (.slice oa p.outs.length oc) p.outs := by
  obtain ⟨v0, v1, v2, v3, v4, e, h0, h1, h2, h3, h4⟩ := h
  have h0 : LsAt 1 16 strR w v0 p.sizes := h0
  have h1 : LsAt 3 40 conR w v1 p.cons := h1
  have h2 : LsAt 7 80 parR w v2 p.pars := h2
  have h3 : LsAt 22 272 (defR n) w v3 p.defs := h3
  have h4 : LsAt 1 16 strR w v4 p.outs := h4
  obtain ⟨sa, sc, rfl, _⟩ := h0.shape
  obtain ⟨ca, cc, rfl, _⟩ := h1.shape
  obtain ⟨pa, pc, rfl, _⟩ := h2.shape
  obtain ⟨da, dc, rfl, _⟩ := h3.shape
  obtain ⟨oa, oc, rfl, _⟩ := h4.shape
  exact ⟨_, _, _, _, _, _, _, _, _, _, e, h0, h1, h2, h3, h4⟩
theorem cells22 {w : World} {g o i : Nat} {f : Nat → Value} (h : ∀ j, j < 22 → w.cell? ⟨g, o + i * 22 + j, none⟩ = some (f j)) :
    w.cell? ⟨g, o + i * 22, none⟩ = some (f 0) ∧ w.cell? ⟨g, o + i * 22 + 1, none⟩ = some (f 1) ∧ w.cell? ⟨g, o + i * 22 + 2, none⟩ = some (f 2) ∧ w.cell? ⟨g, o + i * 22 + 3, none⟩ = some (f 3) ∧ w.cell? ⟨g, o + i * 22 + 4, none⟩ = some (f 4) ∧ w.cell? ⟨g, o + i * 22 + 5, none⟩ = some (f 5) ∧ w.cell? ⟨g, o + i * 22 + 6, none⟩ = some (f 6) ∧ w.cell? ⟨g, o + i * 22 + 7, none⟩ = some (f 7) ∧ w.cell? ⟨g, o + i * 22 + 8, none⟩ = some (f 8) ∧ w.cell? ⟨g, o + i * 22 + 9, none⟩ = some (f 9) ∧ w.cell? ⟨g, o + i * 22 + 10, none⟩ = some (f 10) ∧ w.cell? ⟨g, o + i * 22 + 11, none⟩ = some (f 11) ∧ w.cell? ⟨g, o + i * 22 + 12, none⟩ = some (f 12) ∧ w.cell? ⟨g, o + i * 22 + 13, none⟩ = some (f 13) ∧ w.cell? ⟨g, o + i * 22 + 14, none⟩ = some (f 14) ∧ w.cell? ⟨g, o + i * 22 + 15, none⟩ = some (f 15) ∧ w.cell? ⟨g, o + i * 22 + 16, none⟩ = some (f 16) ∧ w.cell? ⟨g, o + i * 22 + 17, none⟩ = some (f 17) ∧ w.cell? ⟨g, o + i * 22 + 18, none⟩ = some (f 18) ∧ w.cell? ⟨g, o + i * 22 + 19, none⟩ = some (f 19) ∧ w.cell? ⟨g, o + i * 22 + 20, none⟩ = some (f 20) ∧ w.cell? ⟨g, o + i * 22 + 21, none⟩ = some (f 21) :=
  ⟨h 0 (by decide), h 1 (by decide), h 2 (by decide), h 3 (by decide), h 4 (by decide), h 5 (by decide), h 6 (by decide), h 7 (by decide), h 8 (by decide), h 9 (by decide), h 10 (by decide), h 11 (by decide), h 12 (by decide), h 13 (by decide), h 14 (by decide), h 15 (by decide), h 16 (by decide), h 17 (by decide), h 18 (by decide), h 19 (by decide), h 20 (by decide), h 21 (by decide)⟩
theorem cells7 {w : World} {g o i : Nat} {f : Nat → Value} (h : ∀ j, j < 7 → w.cell? ⟨g, o + i * 7 + j, none⟩ = some (f j)) :
    w.cell? ⟨g, o + i * 7, none⟩ = some (f 0) ∧ w.cell? ⟨g, o + i * 7 + 1, none⟩ = some (f 1) ∧ w.cell? ⟨g, o + i * 7 + 2, none⟩ = some (f 2) ∧ w.cell? ⟨g, o + i * 7 + 3, none⟩ = some (f 3) ∧ w.cell? ⟨g, o + i * 7 + 4, none⟩ = some (f 4) ∧ w.cell? ⟨g, o + i * 7 + 5, none⟩ = some (f 5) ∧ w.cell? ⟨g, o + i * 7 + 6, none⟩ = some (f 6) :=
  ⟨h 0 (by decide), h 1 (by decide), h 2 (by decide), h 3 (by decide), h 4 (by decide), h 5 (by decide), h 6 (by decide)⟩
/-- A definition's cells. -/
theorem LsAt.df {N : Nat} {w : World} {a : Option Addr} {n c : Nat} {l : List Df} (h : LsAt 22 272 (defR N) w (.slice a n c) l) (i : Nat) (hi : i < l.length) :
    ∃ (g o : Nat) (f : Nat → Value) (ma : Option Addr) (mc : Nat) (ra : Option Addr) (rc : Nat), a = some ⟨g, o, none⟩ ∧ g < w.heap.size ∧ (∀ j, j < 22 → w.cell? ⟨g, o + i * 22 + j, none⟩ = some (f j)) ∧ f 0 = .string l[i].nm ∧ l[i].nm.size ≤ maxLen ∧ f 6 = .slice ma l[i].dims.length mc ∧ f 7 = .slice ra l[i].red.length rc ∧ defR N w f l[i] ∧
      LsAt 3 48 axR w (.slice ma l[i].dims.length mc) l[i].dims ∧ LsAt 3 48 axR w (.slice ra l[i].red.length rc) l[i].red ∧ ExAt N w (.agg #[f 9, f 10, f 11, f 12, f 13, f 14, f 15, f 16, f 17, f 18, f 19, f 20, f 21]) l[i].body := by
  obtain ⟨g, o, f, h1, h2, h3, h4⟩ := h.elem i hi
  obtain ⟨⟨n0, n1⟩, _, hd, hr, _, hb⟩ := id h4
  obtain ⟨ma, mc, e1, _⟩ := hd.shape
  obtain ⟨ra, rc, e2, _⟩ := hr.shape
  exact ⟨g, o, f, ma, mc, ra, rc, h1, h2, h3, n0, n1, e1, e2, h4, e1 ▸ hd, e2 ▸ hr, ⟨fun j => f (9 + j), rfl, hb⟩⟩
theorem LsAt.pr {w : World} {a : Option Addr} {n c : Nat} {l : List Par} (h : LsAt 7 80 parR w (.slice a n c) l) (i : Nat) (hi : i < l.length) :
    ∃ (g o : Nat) (f : Nat → Value) (ma : Option Addr) (mc : Nat), a = some ⟨g, o, none⟩ ∧ g < w.heap.size ∧ (∀ j, j < 7 → w.cell? ⟨g, o + i * 7 + j, none⟩ = some (f j)) ∧ f 0 = .string l[i].1 ∧ l[i].1.size ≤ maxLen ∧ f 6 = .slice ma l[i].2.2.length mc ∧ parR w f l[i] ∧ LsAt 2 32 linR w (.slice ma l[i].2.2.length mc) l[i].2.2 := by
  obtain ⟨g, o, f, h1, h2, h3, h4⟩ := h.elem i hi
  obtain ⟨⟨n0, n1⟩, _, hd⟩ := id h4
  obtain ⟨ma, mc, e1, _⟩ := hd.shape
  exact ⟨g, o, f, ma, mc, h1, h2, h3, n0, n1, e1, h4, e1 ▸ hd⟩

def defW (d : Df) : Nat := d.dims.length + d.red.length + tot d.body
/-- What Small grants. -/
structure SmallP (p : Pg) : Prop where
  pars : p.pars.length ≤ 40
  defs : p.defs.length ≤ 40
  outs : p.outs.length ≤ 40
  sizes : p.sizes.length ≤ 80
  cons : p.cons.length ≤ 80
  sum : (p.defs.map defW).sum + (p.pars.map fun x => x.2.2.length).sum ≤ 1500

def SmallQ (p : Pg) (w : World) (e : Ending) (w' : World) : Prop := ∃ b : Bool, e = .returned (.bool b) ∧ Up w w' ∧ (b = true → SmallP p)
set_option maxHeartbeats 8000000 in
theorem law_Small (N : Nat) (p : Pg) (v : Value) (w : World) (hv : ProgAt N w v p) :
    Calls Try.prog 9 #[v] w fun e w' => SmallQ p w e w' := by
  obtain ⟨sa, sc, ca, cc, pa, pc, da, dc, oa, oc, rfl, hs, hcn, hp, hd, ho⟩ := hv.open
  obtain ⟨sizes, cons, pars, defs, outs⟩ := p
  dsimp only at hs hcn hp hd ho ⊢
  have HSM := Lib.hid (fun h1 h2 h3 h4 h5 h6 => SmallP.mk (p := ⟨sizes, cons, pars, defs, outs⟩) h1 h2 h3 h4 h5 h6)
  dsimp only at HSM
  obtain ⟨sn, hsn⟩ : ∃ q, sizes.length = q := ⟨_, rfl⟩
  obtain ⟨cn, hcnn⟩ : ∃ q, cons.length = q := ⟨_, rfl⟩
  obtain ⟨pn, hpn⟩ : ∃ q, pars.length = q := ⟨_, rfl⟩
  obtain ⟨dn, hdn⟩ : ∃ q, defs.length = q := ⟨_, rfl⟩
  obtain ⟨on_, hon⟩ : ∃ q, outs.length = q := ⟨_, rfl⟩
  rw [hsn] at hs HSM ⊢
  rw [hcnn] at hcn HSM ⊢
  rw [hpn] at hp HSM ⊢
  rw [hdn] at hd HSM ⊢
  rw [hon] at ho HSM ⊢
  have HP := Lib.hid hp
  have HD := Lib.hid hd
  have HPN := Lib.hid hpn
  have HDN := Lib.hid hdn
  clear hs hcn hp hd ho hsn hcnn hpn hdn hon hv
  have HU0 : Hid (Up w (w.alloc (.cells #[.slice sa sn sc, .slice ca cn cc, .slice pa pn pc, .slice da dn dc, .slice oa on_ oc] 27))) := Lib.hid ((Up.refl w).alloc _)
  have HB0 := Lib.hid (BoxC.new w 27 #[.slice sa sn sc, .slice ca cn cc, .slice pa pn pc, .slice da dn dc, .slice oa on_ oc])
  have hcase : (40 < pn) ∨ (pn ≤ 40 ∧ 40 < dn) ∨ (pn ≤ 40 ∧ dn ≤ 40 ∧ 40 < on_) ∨ (pn ≤ 40 ∧ dn ≤ 40 ∧ on_ ≤ 40 ∧ 80 < sn) ∨ (pn ≤ 40 ∧ dn ≤ 40 ∧ on_ ≤ 40 ∧ sn ≤ 80 ∧ 80 < cn) ∨ (pn ≤ 40 ∧ dn ≤ 40 ∧ on_ ≤ 40 ∧ sn ≤ 80 ∧ cn ≤ 80) := by omega
  rcases hcase with h | ⟨h1, h⟩ | ⟨h1, h2, h⟩ | ⟨h1, h2, h3, h⟩ | ⟨h1, h2, h3, h4, h⟩ | ⟨h1, h2, h3, h4, h5⟩
  · have i0 : (40 : Int) < pn := by omega
    clear h
    go_enter Try.func9, Try.ntmps9
    go_wp2
    go_ret
    exact ⟨false, rfl, HU0.out, fun h => by cases h⟩
  · have i0 : ¬ (40 : Int) < pn := by omega
    have i1 : (40 : Int) < dn := by omega
    clear h1 h
    go_enter Try.func9, Try.ntmps9
    go_wp2
    go_ret
    exact ⟨false, rfl, HU0.out, fun h => by cases h⟩
  · have i0 : ¬ (40 : Int) < pn := by omega
    have i1 : ¬ (40 : Int) < dn := by omega
    have i2 : (40 : Int) < on_ := by omega
    clear h1 h2 h
    go_enter Try.func9, Try.ntmps9
    go_wp2
    go_ret
    exact ⟨false, rfl, HU0.out, fun h => by cases h⟩
  · have i0 : ¬ (40 : Int) < pn := by omega
    have i1 : ¬ (40 : Int) < dn := by omega
    have i2 : ¬ (40 : Int) < on_ := by omega
    have i3 : (80 : Int) < sn := by omega
    clear h1 h2 h3 h
    go_enter Try.func9, Try.ntmps9
    go_wp2
    go_ret
    exact ⟨false, rfl, HU0.out, fun h => by cases h⟩
  · have i0 : ¬ (40 : Int) < pn := by omega
    have i1 : ¬ (40 : Int) < dn := by omega
    have i2 : ¬ (40 : Int) < on_ := by omega
    have i3 : ¬ (80 : Int) < sn := by omega
    have i4 : (80 : Int) < cn := by omega
    clear h1 h2 h3 h4 h
    go_enter Try.func9, Try.ntmps9
    go_wp2
    go_ret
    exact ⟨false, rfl, HU0.out, fun h => by cases h⟩
  · have i0 : ¬ (40 : Int) < pn := by omega
    have i1 : ¬ (40 : Int) < dn := by omega
    have i2 : ¬ (40 : Int) < on_ := by omega
    have i3 : ¬ (80 : Int) < sn := by omega
    have i4 : ¬ (80 : Int) < cn := by omega
    replace HSM := Lib.hid (HSM.out h1 h2 h3 h4 h5)
    have hdI : (dn : Int) ≤ 40 := by omega
    have hpI : (pn : Int) ≤ 40 := by omega
    have HDL := Lib.hid h2
    have HPL := Lib.hid h1
    clear h1 h2 h3 h4 h5
    go_enter Try.func9, Try.ntmps9
    go_wp2
    clear i0 i1 i2 i3 i4
    go_loopw [3, 4] (fun nv iv wr => ∃ (q i : Nat), nv = .int .i64 q ∧ iv = .int .i64 i ∧ i ≤ dn ∧ q ≤ 2000000000000000 ∧ (q ≤ 1500 → q = ((defs.take i).map defW).sum) ∧ Up w wr ∧ BoxC wr w.heap.size 27 #[.slice sa sn sc, .slice ca cn cc, .slice pa pn pc, .slice da dn dc, .slice oa on_ oc]) (fun _ iv _ => dn - (intOf iv).toNat)
    case atStart => exact ⟨0, 0, rfl, rfl, by omega, by omega, fun _ => by simp, HU0.out, HB0.out⟩
    case round =>
      rename World => wr
      obtain ⟨q, i, rfl, rfl, hi, hq, hqt, hup, hbx⟩ := hrel
      have HU := Lib.hid hup
      have HB := Lib.hid hbx
      have HQ := Lib.hid hqt
      have b2 : wr.cell? ⟨w.heap.size, 2, none⟩ = some (.slice pa pn pc) := cell_of_row _ _ _ _ _ _ hbx
      have b3 : wr.cell? ⟨w.heap.size, 3, none⟩ = some (.slice da dn dc) := cell_of_row _ _ _ _ _ _ hbx
      have bs : w.heap.size < wr.heap.size := hbx.lt
      have hqI : (q : Int) ≤ 2000000000000000 := by omega
      clear hup hbx hqt HU0 HB0
      by_cases hc : i < dn ∧ q ≤ 1500
      · obtain ⟨hlt, hle⟩ := hc
        have hltI : (i : Int) < dn := by omega
        have hleI : (q : Int) ≤ 1500 := by omega
        have hi1 : i < defs.length := by rw [HDN.out]; exact hlt
        obtain ⟨g, o, f, ma, mc, ra, rc, rfl, hg, hf, f0, f0s, f6, f7, fd, hM, hR, hE⟩ := HD.out.df i hi1
        have bM := hM.bytes
        have bR := hR.bytes
        have HW := Lib.hid (sum_take defW hi1)
        obtain ⟨d, hx⟩ : ∃ d, defs[i] = d := ⟨_, rfl⟩
        rw [hx] at HW f6 f7 hM hR bM bR hE f0 f0s fd
        clear hx f0 f0s fd
        obtain ⟨mn, hmn⟩ : ∃ q, d.dims.length = q := ⟨_, rfl⟩
        obtain ⟨rn, hrn⟩ : ∃ q, d.red.length = q := ⟨_, rfl⟩
        have HW2 : Hid (((defs.take (i + 1)).map defW).sum = ((defs.take i).map defW).sum + (mn + rn + tot d.body)) := Lib.hid (by rw [HW.out, ← hmn, ← hrn]; rfl)
        rw [hmn] at f6 bM
        rw [hrn] at f7 bR
        have c6 : wr.cell? ⟨g, o + i * 22 + 6, none⟩ = some (.slice ma mn mc) := f6 ▸ cell_up' HU.out hg (hf 6 (by decide))
        have c7 : wr.cell? ⟨g, o + i * 22 + 7, none⟩ = some (.slice ra rn rc) := f7 ▸ cell_up' HU.out hg (hf 7 (by decide))
        have HCB := Lib.hid (fun y (hy : Up w y) j (hj : j < 22) => cell_up' hy hg (hf j hj))
        have HEB := Lib.hid (fun y (hy : Up w y) => base_Weigh N d.body _ 1500 (by decide) y (hE.up hy))
        have hg0 := Lib.hid hg
        have hg' := Nat.lt_of_lt_of_le hg HU.out.size
        have hmI : (mn : Int) ≤ 140737488351232 := by omega
        have hrI : (rn : Int) ≤ 140737488351232 := by omega
        clear hM hR bM bR hmn hrn HW hi1 f6 f7 hE hf hg
        go_upto_region 7 with fail
        refine wp_region_ext (by kernel_rfl) (by kernel_rfl) ?_
        repeat (go_big_quiet_step (fail))
        refine wpQuiet_nil ?_
        intro z hz
        have HUZ := Lib.hid (HU.out.trans hz)
        have HBZ := Lib.hid (HB.out.up hz)
        have z3 : z.cell? ⟨w.heap.size, 3, none⟩ = some (.slice (some ⟨g, o, none⟩) dn dc) := cell_of_row _ _ _ _ _ _ HBZ.out
        have zs : w.heap.size < z.heap.size := HBZ.out.lt
        have zg := Nat.lt_of_lt_of_le hg0.out HUZ.out.size
        have e9 := HCB.out z HUZ.out 9 (by decide)
        have e10 := HCB.out z HUZ.out 10 (by decide)
        have e11 := HCB.out z HUZ.out 11 (by decide)
        have e12 := HCB.out z HUZ.out 12 (by decide)
        have e13 := HCB.out z HUZ.out 13 (by decide)
        have e14 := HCB.out z HUZ.out 14 (by decide)
        have e15 := HCB.out z HUZ.out 15 (by decide)
        have e16 := HCB.out z HUZ.out 16 (by decide)
        have e17 := HCB.out z HUZ.out 17 (by decide)
        have e18 := HCB.out z HUZ.out 18 (by decide)
        have e19 := HCB.out z HUZ.out 19 (by decide)
        have e20 := HCB.out z HUZ.out 20 (by decide)
        have e21 := HCB.out z HUZ.out 21 (by decide)
        clear hz c6 c7 b2 b3 bs hg'
        go_wp2_with (go_at_call 28; refine (HEB.out _ HUZ.out).mono ?_; rintro e' y ⟨r, rfl, hy, hr, hrt⟩; have HUR := Lib.hid (HUZ.out.trans hy); have HBR := Lib.hid (HBZ.out.up hy); have HRT := Lib.hid hrt; have hrI2 : (r : Int) ≤ 422212465067484 := (by omega); clear hy hrt)
        go_roundw
        case rel => exact ⟨q + (mn + rn) + r, i + 1, by go_num, by go_num, by omega, by omega, fun h => by have h1 := HQ.out (by omega); have h2 := HRT.out (by omega); have h3 := HW2.out; omega, HUR.out, HBR.out⟩
        case measure => simp [intOf]; omega
      · have HQ3 : Hid (q ≤ 1500 → q = (defs.map defW).sum) := Lib.hid (fun h => by
          have h1 := HQ.out h
          have h2 : i = dn := by omega
          rw [List.take_of_length_le (by rw [HDN.out]; omega)] at h1
          exact h1)
        have hcc : ¬ (i : Int) < dn ∨ ¬ (q : Int) ≤ 1500 := by omega
        clear hc
        by_cases hi2 : (i : Int) < dn
        all_goals
          first
            | (have hq3 : ¬ (q : Int) ≤ 1500 := by omega)
            | skip
          clear hcc
          go_wp2
          go_loopw [3, 5] (fun nv iv y => ∃ (q2 k : Nat), nv = .int .i64 q2 ∧ iv = .int .i64 k ∧ k ≤ pn ∧ q2 ≤ 3000000000000000 ∧ (q2 ≤ 1500 → q2 = (defs.map defW).sum + ((pars.take k).map fun x => x.2.2.length).sum) ∧ Up w y ∧ BoxC y w.heap.size 27 #[.slice sa sn sc, .slice ca cn cc, .slice pa pn pc, .slice da dn dc, .slice oa on_ oc]) (fun _ kv _ => pn - (intOf kv).toNat)
          case atStart => exact ⟨q, 0, rfl, rfl, by omega, by omega, fun h => by rw [HQ3.out h]; simp, HU.out, HB.out⟩
          case round =>
            rename World => y
            obtain ⟨q2, k, rfl, rfl, hk, hq2, hqt2, hup, hbx⟩ := hrel
            have HUY := Lib.hid hup
            have HBY := Lib.hid hbx
            have HQ2 := Lib.hid hqt2
            have y2 : y.cell? ⟨w.heap.size, 2, none⟩ = some (.slice pa pn pc) := cell_of_row _ _ _ _ _ _ hbx
            have ys : w.heap.size < y.heap.size := hbx.lt
            have hq2I : (q2 : Int) ≤ 3000000000000000 := by omega
            clear hup hbx hqt2
            by_cases hc2 : k < pn ∧ q2 ≤ 1500
            · obtain ⟨hlt2, hle2⟩ := hc2
              have hlt2I : (k : Int) < pn := by omega
              have hle2I : (q2 : Int) ≤ 1500 := by omega
              have hk1 : k < pars.length := by rw [HPN.out]; exact hlt2
              obtain ⟨g, o, f, ma, mc, rfl, hg, hf, f0, f0s, f6, fd, hM⟩ := HP.out.pr k hk1
              have bM := hM.bytes
              have HW3 := Lib.hid (sum_take (fun x : Par => x.2.2.length) hk1)
              obtain ⟨mn, hmn⟩ : ∃ q, pars[k].2.2.length = q := ⟨_, rfl⟩
              rw [hmn] at f6 bM
              have HW4 : Hid (((pars.take (k + 1)).map fun x => x.2.2.length).sum = ((pars.take k).map fun x => x.2.2.length).sum + mn) := Lib.hid (by rw [HW3.out, hmn])
              have c6 : y.cell? ⟨g, o + k * 7 + 6, none⟩ = some (.slice ma mn mc) := f6 ▸ cell_up' HUY.out hg (hf 6 (by decide))
              have hg' := Nat.lt_of_lt_of_le hg HUY.out.size
              have hmI : (mn : Int) ≤ 140737488351232 := by omega
              clear hM bM hmn HW3 f0 f0s f6 fd hf hk1
              go_wp2
              go_roundw
              case rel => exact ⟨q2 + mn, k + 1, by go_num, by go_num, by omega, by omega, fun h => by have h1 := HQ2.out (by omega); have h3 := HW4.out; omega, HUY.out, HBY.out⟩
              case measure => simp [intOf]; omega
            · have HQ4 : Hid (q2 ≤ 1500 → SmallP ⟨sizes, cons, pars, defs, outs⟩) := Lib.hid (fun h => by
                have h1 := HQ2.out h
                have h2 : k = pn := by omega
                rw [List.take_of_length_le (by rw [HPN.out]; omega)] at h1
                exact HSM.out (by omega))
              have hcc : ¬ (k : Int) < pn ∨ ¬ (q2 : Int) ≤ 1500 := by omega
              clear hc2
              by_cases hk2 : (k : Int) < pn
              · have hq4 : ¬ (q2 : Int) ≤ 1500 := by omega
                clear hcc
                go_wp2
                go_ret
                exact ⟨false, rfl, HUY.out, fun h => by cases h⟩
              · clear hcc
                by_cases hq5 : (q2 : Int) ≤ 1500
                · go_wp2
                  go_ret
                  exact ⟨true, rfl, HUY.out, fun _ => HQ4.out (by omega)⟩
                · go_wp2
                  go_ret
                  exact ⟨false, rfl, HUY.out, fun h => by cases h⟩
end Go.Proofs.Ytpccaifhcmcegaa
