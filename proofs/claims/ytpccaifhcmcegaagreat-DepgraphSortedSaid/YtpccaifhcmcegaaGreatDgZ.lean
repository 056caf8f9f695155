/-
  RemoveDead of the program. Printed by mkDgZ.py.
-/
import Derived.Test.YtpccaifhcmcegaaGreatHp
import Derived.Test.YtpccaifhcmcegaaGreatHk
namespace Go.Proofs.YtpccaifhcmcegaaGreat
set_option linter.unusedSimpArgs false
open Go.ChangeShapes Go.WideShapes Go.ChangeAt Go.RowKit
set_option linter.unusedVariables false
set_option maxRecDepth 100000

theorem Fr.prog {X : Nat → Prop} {N : Nat} {w : World} {u : Value} {p : Pg} (h : Fr X (fun y => ProgAt N y u p) w) :
    ∃ (sa : Option Addr) (sc : Nat) (ca : Option Addr) (cc : Nat) (pa : Option Addr) (pc : Nat) (da : Option Addr) (dc : Nat) (oa : Option Addr) (oc : Nat),
      u = .agg #[.slice sa p.sizes.length sc, .slice ca p.cons.length cc, .slice pa p.pars.length pc, .slice da p.defs.length dc, .slice oa p.outs.length oc] ∧
      Fr X (fun y => LsAt 1 16 strR y (.slice sa p.sizes.length sc) p.sizes) w ∧ Fr X (fun y => LsAt 3 40 conR y (.slice ca p.cons.length cc) p.cons) w ∧ Fr X (fun y => LsAt 7 80 parR y (.slice pa p.pars.length pc) p.pars) w ∧ Fr X (fun y => LsAt 22 272 (defR N) y (.slice da p.defs.length dc) p.defs) w ∧ Fr X (fun y => LsAt 1 16 strR y (.slice oa p.outs.length oc) p.outs) w := by
  obtain ⟨sa, sc, ca, cc, pa, pc, da, dc, oa, oc, rfl, -⟩ := h.here.open
  have key : ∀ y, Kp X w y → LsAt 1 16 strR y (.slice sa p.sizes.length sc) p.sizes ∧ LsAt 3 40 conR y (.slice ca p.cons.length cc) p.cons ∧ LsAt 7 80 parR y (.slice pa p.pars.length pc) p.pars ∧ LsAt 22 272 (defR N) y (.slice da p.defs.length dc) p.defs ∧ LsAt 1 16 strR y (.slice oa p.outs.length oc) p.outs := fun y hy => by
    obtain ⟨sa', sc', ca', cc', pa', pc', da', dc', oa', oc', e, h1⟩ := (h y hy).open
    simp only [Value.agg.injEq, Array.mk.injEq, List.cons.injEq, Value.slice.injEq, true_and, and_true] at e
    obtain ⟨⟨rfl, rfl⟩, ⟨rfl, rfl⟩, ⟨rfl, rfl⟩, ⟨rfl, rfl⟩, rfl, rfl⟩ := e
    exact h1
  exact ⟨sa, sc, ca, cc, pa, pc, da, dc, oa, oc, rfl, fun y hy => (key y hy).1, fun y hy => (key y hy).2.1, fun y hy => (key y hy).2.2.1, fun y hy => (key y hy).2.2.2.1, fun y hy => (key y hy).2.2.2.2⟩
/-- The definitions of a list read outside X, as one fixed relation. -/
def frD (N : Nat) (X : Nat → Prop) (w0 : World) : Rel Df := fun _ f d => Fr X (fun y => defR N y f d) w0
theorem run_defsF (a b c d e : Value) (W : World) : (Instr.field 27 (.agg #[a, b, c, d, e]) 3).run Tryz.prog W = .ok d W := by kernel_rfl
theorem filterT {L : List Df} {f : Df → Bool} {i n : Nat} {d : Df} (hn : L.length = n) (hi : i < n) (hd : L[i]'(by omega) = d) (b : Bool) (hb : f d = b) : (L.take (i + 1)).filter f = if b = true then (L.take i).filter f ++ [d] else (L.take i).filter f := by
  have h := filterD_take (f := f) hn hi
  rw [hd, hb] at h
  exact h

set_option maxHeartbeats 32000000 in
theorem p_RemoveDead (N : Nat) (p : Pg) (v : Value) (w : World) (hv : ProgAt N w v p) (hb : ∀ d ∈ p.defs, tot d.body ≤ 1500) (hsm : p.pars.length ≤ 40 ∧ p.defs.length ≤ 40) (hout : p.outs.length ≤ 40) :
    Calls Tryz.prog 18 #[v] w fun e w' => ∃ u, e = .returned u ∧ Up w w' ∧ ProgAt N w' u (rmF p) := by
  obtain ⟨sa, sc, ca, cc, pa, pc, da, dc, oa, oc, rfl, hs, hcn, hp, hd, ho⟩ := hv.open
  obtain ⟨sizes, cons, pars, defs, outs⟩ := p
  dsimp only at *
  obtain ⟨sn, hsn⟩ : ∃ q, sizes.length = q := ⟨_, rfl⟩
  obtain ⟨cn, hcnn⟩ : ∃ q, cons.length = q := ⟨_, rfl⟩
  obtain ⟨pn, hpn⟩ : ∃ q, pars.length = q := ⟨_, rfl⟩
  obtain ⟨dn, hdn⟩ : ∃ q, defs.length = q := ⟨_, rfl⟩
  obtain ⟨on_, hon⟩ : ∃ q, outs.length = q := ⟨_, rfl⟩
  rw [hsn] at hs hv ⊢
  rw [hcnn] at hcn hv ⊢
  rw [hpn] at hp hv ⊢
  rw [hdn] at hd hv ⊢
  rw [hon] at ho hv ⊢
  have hdI : (dn : Int) ≤ 140737488351232 := by have := hd.bytes; rw [hdn] at this; omega
  have hpI : (pn : Int) ≤ 140737488351232 := by have := hp.bytes; rw [hpn] at this; omega
  have HV := Lib.hid hv
  have HS := Lib.hid hs
  have HC := Lib.hid hcn
  have HP := Lib.hid hp
  have HD := Lib.hid hd
  have HO := Lib.hid ho
  have HPN := Lib.hid hpn
  have HDN := Lib.hid hdn
  have HON := Lib.hid hon
  clear hs hcn hp hd ho hsn hcnn hpn hdn hon hv
  have HSS := HS
  have HRC := Lib.hid (fun nv y (hy : Up w y) (hn : LsAt 1 16 strR y nv outs) => p_Reachable N ⟨sizes, cons, pars, defs, outs⟩ _ nv outs y (HV.out.up hy) hn hout hb hsm)
  have HCP := Lib.hid (fun y (hy : Up w y) => p_Copy N ⟨sizes, cons, pars, defs, outs⟩ _ w y HV.out hy)
  obtain ⟨R, hR⟩ : ∃ R, rchF ⟨sizes, cons, pars, defs, outs⟩ outs = R := ⟨_, rfl⟩
  have hRl : R.length ≤ 80 := by have h := rchF_len ⟨sizes, cons, pars, defs, outs⟩ outs; rw [hR] at h; dsimp only at h; omega
  have HRM : Hid (rmF ⟨sizes, cons, pars, defs, outs⟩ = ⟨sizes, cons, pars, defs.filter fun d => has R d.nm, outs⟩) := Lib.hid (by unfold rmF; rw [hR])
  rw [hR] at HRC
  obtain ⟨Q, hQ⟩ : ∃ Q, rmF ⟨sizes, cons, pars, defs, outs⟩ = Q := ⟨_, rfl⟩
  rw [hQ] at HRM ⊢
  obtain ⟨rn, hrn⟩ : ∃ q, R.length = q := ⟨_, rfl⟩
  rw [hrn] at hRl
  have HRN := Lib.hid hrn
  have hrI : (rn : Int) ≤ 80 := by omega
  clear hR hQ hrn
  have HSM : Hid (dn ≤ 40) := Lib.hid (by rw [← HDN.out]; exact hsm.2)
  have hdn40 : (dn : Int) ≤ 40 := by have := HSM.out; omega
  clear hb hsm hout
  have HU0 := Lib.hid ((((Up.refl w).alloc (.cells #[.slice sa sn sc, .slice ca cn cc, .slice pa pn pc, .slice da dn dc, .slice oa on_ oc] 27)).alloc (.cells #[.slice none 0 0, .slice none 0 0, .slice none 0 0, .slice none 0 0, .slice none 0 0] 27)).alloc (.map #[] 0))
  have HB0 := Lib.hid (((BoxC.new w 27 #[.slice sa sn sc, .slice ca cn cc, .slice pa pn pc, .slice da dn dc, .slice oa on_ oc]).up ((Up.refl _).alloc (.cells #[.slice none 0 0, .slice none 0 0, .slice none 0 0, .slice none 0 0, .slice none 0 0] 27))).up ((Up.refl _).alloc (.map #[] 0)))
  have HZ0 := Lib.hid ((BoxC.new2 w (.cells #[.slice sa sn sc, .slice ca cn cc, .slice pa pn pc, .slice da dn dc, .slice oa on_ oc] 27) 27 #[.slice none 0 0, .slice none 0 0, .slice none 0 0, .slice none 0 0, .slice none 0 0]).up ((Up.refl _).alloc (.map #[] 0)))
  have HS0 : Hid (SetAt (((w.alloc (.cells #[.slice sa sn sc, .slice ca cn cc, .slice pa pn pc, .slice da dn dc, .slice oa on_ oc] 27)).alloc (.cells #[.slice none 0 0, .slice none 0 0, .slice none 0 0, .slice none 0 0, .slice none 0 0] 27)).alloc (.map #[] 0)) (w.heap.size + 1 + 1) 0 []) := Lib.hid (by have h := SetAt.made ((w.alloc (.cells #[.slice sa sn sc, .slice ca cn cc, .slice pa pn pc, .slice da dn dc, .slice oa on_ oc] 27)).alloc (.cells #[.slice none 0 0, .slice none 0 0, .slice none 0 0, .slice none 0 0, .slice none 0 0] 27)); simp only [World.size_alloc] at h; exact h)
  have HLP := Lib.hid (run_cs (P := Tryz.prog) Tryz.underlying27 rfl prog_info (cs := #[.slice sa sn sc, .slice ca cn cc, .slice pa pn pc, .slice da dn dc, .slice oa on_ oc]) rfl HB0.out.range)
  have HO0 := Lib.hid (HO.out.up strR_up HU0.out)
  have hmm := @run_makeMap Tryz.prog
  have b4 : (((w.alloc (.cells #[.slice sa sn sc, .slice ca cn cc, .slice pa pn pc, .slice da dn dc, .slice oa on_ oc] 27)).alloc (.cells #[.slice none 0 0, .slice none 0 0, .slice none 0 0, .slice none 0 0, .slice none 0 0] 27)).alloc (.map #[] 0)).cell? ⟨w.heap.size, 4, none⟩ = some (.slice oa on_ oc) := HB0.out.five.2.2.2.2
  go_enter Tryz.func18, Tryz.ntmps18
  go_upto_region 3 with (first
    | (refine st_load HLP.out (by rfl) ?_)
    | (go_at_call 17; (with_reducible refine (HRC.out _ _ HU0.out HO0.out).mono ?_); rintro e' W1 ⟨u, rfl, hy, hu⟩; obtain ⟨ra, rc, rfl, -⟩ := hu.1.shape; have HU1 := Lib.hid (HU0.out.trans hy); have HB1 := Lib.hid (HB0.out.up hy); have HZ1 := Lib.hid (HZ0.out.up hy); have HS1 := Lib.hid (HS0.out.up hy); have HL1 := Lib.hid hu.1; have HNF := Lib.hid hu.2; have HYS := Lib.hid hy.size; clear hy hu))
  rw [HRN.out] at HL1 HNF ⊢
  have h01 : w.heap.size + 1 + 1 < W1.heap.size := HS1.out.lt
  have HNG : Hid (NewFrom (w.heap.size + 3) (.slice ra rn rc)) := Lib.hid (HNF.out.mono (by simp only [World.size_alloc]; omega))
  clear HS0 HZ0 HB0 HU0 HLP HO0 b4 HNF HYS
  go_loopw [15] (fun iv wr => ∃ i : Nat, iv = .int .i64 i ∧ i ≤ rn ∧ Up w wr ∧ SetAt wr (w.heap.size + 1 + 1) i (R.take i) ∧ LsAt 1 16 strR wr (.slice ra rn rc) R ∧ BoxC wr w.heap.size 27 #[.slice sa sn sc, .slice ca cn cc, .slice pa pn pc, .slice da dn dc, .slice oa on_ oc] ∧ BoxC wr (w.heap.size + 1) 27 #[.slice none 0 0, .slice none 0 0, .slice none 0 0, .slice none 0 0, .slice none 0 0]) (fun iv _ => rn - (intOf iv).toNat)
  case atStart => exact ⟨0, rfl, Nat.zero_le _, HU1.out, HS1.out, HL1.out, HB1.out, HZ1.out⟩
  case round =>
    rename World => wr
    obtain ⟨i, rfl, hi, hup, hst, hal, hbx, hzx⟩ := hrel
    have HU := Lib.hid hup
    have HS := Lib.hid hst
    have HA := Lib.hid hal
    have HB := Lib.hid hbx
    have HZ := Lib.hid hzx
    clear hup hst hal hbx hzx HS1 HL1 HB1 HZ1 HU1
    by_cases hlt : i < rn
    · have hltI : (i : Int) < rn := by omega
      have hi1 : i < R.length := by rw [HRN.out]; exact hlt
      obtain ⟨g, o, rfl, hg, hsz, hc⟩ := HA.out.txt i hi1
      have hc1 := hc wr (Up.refl _)
      obtain ⟨x, hx⟩ : ∃ x, R[i] = x := ⟨_, rfl⟩
      have HT : Hid (R.take (i + 1) = R.take i ++ [x]) := Lib.hid (by rw [List.take_succ_eq_append_getElem hi1, hx])
      rw [hx] at hsz hc1
      have HSZ := Lib.hid hsz
      clear hx hsz hc hi1
      have hgb : w.heap.size + 3 ≤ g := HNG.out _ _ _ rfl
      go_wp2_with (refine st_put HS.out HSZ.out (by unfold maxLen; omega) (by rfl) (by rfl) (by rfl) ?_; intro w1 h1 h2; have HS2 := Lib.hid h1; have HG2 := Lib.hid h2; clear h1 h2)
      go_roundw
      case rel =>
        refine ⟨i + 1, by go_num, by omega, HU.out.grown' HG2.out (fun k e => by cases e; omega), HS2.out.congr fun s => by rw [HT.out]; simp [or_comm], HA.out.str_kept HG2.out (fun a n c e e2 => ?_), HB.out.kept HG2.out (fun e => by have := Option.some.inj e; omega), HZ.out.kept HG2.out (fun e => by have := Option.some.inj e; omega)⟩
        have h1 := HNG.out a n c e
        have h2 := Option.some.inj e2
        omega
      case measure => simp [intOf]; omega
    · obtain rfl : rn = i := by omega
      have HTK : Hid (R.take rn = R) := Lib.hid (List.take_of_length_le (by rw [HRN.out]; exact Nat.le_refl _))
      rw [HTK.out] at HS
      have HLP := Lib.hid (run_cs (P := Tryz.prog) Tryz.underlying27 rfl prog_info (cs := #[.slice sa sn sc, .slice ca cn cc, .slice pa pn pc, .slice da dn dc, .slice oa on_ oc]) rfl HB.out.range)
      have h0r : w.heap.size + 1 + 1 < wr.heap.size := HS.out.lt
      clear HA HTK HNG h01
      go_upto_region 8 with (first
        | (refine st_load HLP.out (by rfl) ?_)
        | (go_at_call 20; (with_reducible refine (HCP.out _ HU.out).mono ?_); rintro e' W3 ⟨u, rfl, hy, hfr⟩; obtain ⟨ka, kc, la, lc, ma, mc, xa, xc, ya, yc, rfl, hf1, hf2, hf3, hf4, hf5⟩ := Fr.prog hfr; dsimp only at *; rw [HSS.out.len] at hf1 ⊢; rw [HC.out.len] at hf2 ⊢; rw [HP.out.len] at hf3 ⊢; rw [HD.out.len] at hf4 ⊢; rw [HO.out.len] at hf5 ⊢; clear hf4; have HF1 := Lib.hid hf1; have HF2 := Lib.hid hf2; have HF3 := Lib.hid hf3; have HF5 := Lib.hid hf5; have HY3 := Lib.hid hy; clear hfr hf1 hf2 hf3 hf5 hy; have HFL := Lib.hid (run_fill (P := Tryz.prog) prog_info W3 (Z := #[.slice none 0 0, .slice none 0 0, .slice none 0 0, .slice none 0 0, .slice none 0 0]) (cs := #[.slice ka sn kc, .slice la cn lc, .slice ma pn mc, .slice xa dn xc, .slice ya on_ yc]) rfl rfl (by simp [Value.oneCell'])))
        | (refine st_store HFL.out (by rfl) (by rfl) ?_))
      have HBX := Lib.hid (BoxC.new W3 27 #[.slice ka sn kc, .slice la cn lc, .slice ma pn mc, .slice xa dn xc, .slice ya on_ yc])
      have HA3 := Lib.hid ((Up.refl W3).alloc (.cells #[.slice ka sn kc, .slice la cn lc, .slice ma pn mc, .slice xa dn xc, .slice ya on_ yc] 27))
      have HU3 := Lib.hid (HU.out.trans (HY3.out.trans HA3.out))
      have HB3 := Lib.hid (HB.out.up (HY3.out.trans HA3.out))
      have HZ3 := Lib.hid (HZ.out.up (HY3.out.trans HA3.out))
      have HS3 := Lib.hid (HS.out.up (HY3.out.trans HA3.out))
      have h33 : w.heap.size + 1 + 1 < W3.heap.size := by have := HY3.out.size; omega
      obtain ⟨W4, hW⟩ : ∃ W, W3.alloc (.cells #[.slice ka sn kc, .slice la cn lc, .slice ma pn mc, .slice xa dn xc, .slice ya on_ yc] 27) = W := ⟨_, rfl⟩
      have HW4 : Hid (W3.heap.size < W4.heap.size) := Lib.hid (by rw [← hW, World.size_alloc]; omega)
      rw [hW] at HBX HA3 HU3 HB3 HZ3 HS3 ⊢
      clear hW HFL HLP
      have q3 : W4.cell? ⟨W3.heap.size, 3, none⟩ = some (.slice xa dn xc) := HBX.out.five.2.2.2.1
      have qs := HBX.out.lt
      have qf := HBX.out.frozen 3
      have hgs := set_by W4 W3.heap.size 3 (.slice none 0 0)
      have HUy := Lib.hid (HU3.out.grown' hgs (fun k e => by cases e; omega))
      have HBy := Lib.hid (HB3.out.kept hgs (fun e => by have := Option.some.inj e; omega))
      have HZy := Lib.hid (HZ3.out.kept hgs (fun e => by have := Option.some.inj e; omega))
      have HSy := Lib.hid (HS3.out.kept hgs (fun e => by have := Option.some.inj e; omega))
      have HXy := Lib.hid (show BoxC (W4.setCell ⟨W3.heap.size, 3, none⟩ (.slice none 0 0)) W3.heap.size 27 #[.slice ka sn kc, .slice la cn lc, .slice ma pn mc, .slice none 0 0, .slice ya on_ yc] from set_heap HBX.out (o := 3) (.slice none 0 0))
      have HKy := Lib.hid (Kp.after (X := fun b => b = W3.heap.size) HA3.out (Kp.of_by hgs (fun g e => (Option.some.inj e).symm)) (fun i hi e => by omega))
      have HLP := Lib.hid (run_cs (P := Tryz.prog) Tryz.underlying27 rfl prog_info (cs := #[.slice sa sn sc, .slice ca cn cc, .slice pa pn pc, .slice da dn dc, .slice oa on_ oc]) rfl HBy.out.range)
      clear hgs
      have hfd := run_defsF
      go_upto_region 10 with (first
        | (refine st_load HLP.out (by rfl) ?_)
        | (go_at_call 20; (with_reducible refine (HCP.out _ HUy.out).mono ?_); rintro e' W5 ⟨u, rfl, hy, hfr⟩; obtain ⟨ka2, kc2, la2, lc2, ma2, mc2, xa2, xc2, ya2, yc2, rfl, -, -, -, hf4, -⟩ := Fr.prog hfr; dsimp only at *; rw [HD.out.len] at hf4 ⊢; have HF4 := Lib.hid hf4; have HY5 := Lib.hid hy; clear hfr hf4 hy))
      have HU5 := Lib.hid (HUy.out.trans HY5.out)
      have HB5 := Lib.hid (HBy.out.up HY5.out)
      have HZ5 := Lib.hid (HZy.out.up HY5.out)
      have HS5 := Lib.hid (HSy.out.up HY5.out)
      have HX5 := Lib.hid (HXy.out.up HY5.out)
      have HK5 := Lib.hid (HKy.out.trans HY5.out)
      have HG5 : Hid (W4.heap.size ≤ (W4.setCell ⟨W3.heap.size, 3, none⟩ (.slice none 0 0)).heap.size) := Lib.hid (by simp [World.setCell])
      obtain ⟨Wy, hW⟩ : ∃ W, W4.setCell ⟨W3.heap.size, 3, none⟩ (.slice none 0 0) = W := ⟨_, rfl⟩
      rw [hW] at HF4 HY5 HG5
      have HQ5 : Hid (W3.heap.size < Wy.heap.size ∧ Wy.heap.size ≤ W5.heap.size) := Lib.hid ⟨by have := HG5.out; have := HW4.out; omega, HY5.out.size⟩
      clear hW HLP HB HZ HS HU HBX HA3 HU3 HB3 HZ3 HS3 HUy HBy HZy HSy HXy HKy q3 qs qf HB5 HG5 HW4
      obtain ⟨F, hFS, hFE⟩ := Fr.ls (defR_k N) (by decide) HF4.out
      rw [HDN.out] at hFS
      have HFS := Lib.hid hFS
      have HFE := Lib.hid hFE
      clear hFS hFE
      go_loopw [29] (fun iv y => ∃ (i : Nat) (ov : Value), iv = .int .i64 i ∧ i ≤ dn ∧ Kp (fun b => b = W3.heap.size ∨ W5.heap.size ≤ b) W5 y ∧ BoxC y W3.heap.size 27 #[.slice ka sn kc, .slice la cn lc, .slice ma pn mc, ov, .slice ya on_ yc] ∧ SetAt y (w.heap.size + 1 + 1) rn R ∧ OwnX 22 (defR N) (fun b => w.heap.size ≤ b ∧ b < Wy.heap.size) W5.heap.size 50 y ov ((defs.take i).filter fun d => has R d.nm)) (fun iv _ => dn - (intOf iv).toNat)
      case atStart => exact ⟨0, .slice none 0 0, rfl, Nat.zero_le _, Kp.refl _ _, HX5.out, HS5.out, OwnX.nil⟩
      case round =>
        rename World => y
        obtain ⟨i, ov, rfl, hi, hkp, hbx, hst, hrow⟩ := hrel
        have HKP := Lib.hid hkp
        have HBX := Lib.hid hbx
        have HST := Lib.hid hst
        have hq5 := HQ5.out
        have hnK : ∀ b, b < W3.heap.size → ¬ (b = W3.heap.size ∨ W5.heap.size ≤ b) := fun b hb h => by omega
        have HU := Lib.hid (hkp.after HU5.out fun b hb => hnK b (by omega))
        have HU3Y := Lib.hid (hkp.after HK5.out fun b hb => hnK b (by omega))
        have HZy := Lib.hid (show BoxC y (w.heap.size + 1) 27 #[.slice none 0 0, .slice none 0 0, .slice none 0 0, .slice none 0 0, .slice none 0 0] from (HKP.out.block _ HZ5.out.lt (hnK _ (by omega))).trans HZ5.out)
        obtain ⟨U, hU⟩ : ∃ U, ((defs.take i).filter fun d => has R d.nm) = U := ⟨_, rfl⟩
        have HUE := Lib.hid hU
        have HLN : Hid (U.length ≤ i) := Lib.hid (by rw [← hU]; have h1 := List.length_filter_le (fun d : Df => has R d.nm) (defs.take i); rw [List.length_take] at h1; omega)
        rw [hU] at hrow
        obtain ⟨va, vc, rfl⟩ := hrow.shape
        have HR := Lib.hid hrow
        obtain ⟨m, hm⟩ : ∃ m, U.length = m := ⟨_, rfl⟩
        rw [hm] at HR HLN HBX
        have HM := Lib.hid hm
        clear hkp hbx hst hrow hU hm HX5 HS5
        by_cases hlt : i < dn
        · have hltI : (i : Int) < dn := by omega
          have hi1 : i < defs.length := by rw [HDN.out]; exact hlt
          obtain ⟨es, hes, hec⟩ : ∃ es : Array Value, es.size = 22 ∧ ∀ k, k < 22 → es.getD k undef = F i k := ⟨((List.range 22).map (F i)).toArray, by simp, fun k hk => by
            have : ((List.range 22).map (F i)).toArray[k]? = some (F i k) := by simp [hk]
            rw [Array.getD_eq_getD_getElem?, this]; rfl⟩
          have hSy := ((HFS.out.wide (Up.refl _)).kp HKP.out (fun b _ e => by omega)).here
          obtain ⟨g, o, rfl, hg, hra⟩ := hSy.row4 (by decide) hlt hes hec
          have hee : Fr (fun b => w.heap.size ≤ b ∧ b < Wy.heap.size) (fun z => defR N z (fun k => es.getD k undef) defs[i]) W5 := (HFE.out i hi1).mono fun z hz => (defR_k N).congr _ _ _ _ hz fun k hk => (hec k hk).symm
          obtain ⟨d, hx⟩ : ∃ d, defs[i] = d := ⟨_, rfl⟩
          rw [hx] at hee
          obtain ⟨x, hnm⟩ : ∃ x, d.nm = x := ⟨_, rfl⟩
          have e0 : es.getD 0 undef = .string x := by rw [← hnm]; exact hee.here.1.1
          have HSZ : Hid (x.size ≤ maxLen) := Lib.hid (by rw [← hnm]; exact hee.here.1.2)
          obtain ⟨b, hb⟩ : ∃ b, has R x = b := ⟨_, rfl⟩
          have HBE := Lib.hid hb
          have HT := Lib.hid (filterT (f := fun d => has R d.nm) HDN.out hlt hx b (by show has R d.nm = b; rw [hnm]; exact hb))
          rw [HUE.out] at HT
          have HES := Lib.hid hes
          have HEE : Hid (Fr (fun b => (w.heap.size ≤ b ∧ b < Wy.heap.size) ∨ W5.heap.size ≤ b) (fun z => defR N z (fun k => es.getD k undef) d) y) := Lib.hid ((hee.wide (Up.refl _)).kp HKP.out (fun b _ e => by omega))
          have HLD := Lib.hid (run_def hes (hra y (Up.refl y)))
          have HFL := Lib.hid (run_fill (P := Tryz.prog) (k := 22) def_i y (Z := #[.string ByteArray.empty, .int .i64 0, .int .i64 0, .int .i64 0, .int .i64 0, .int .i64 0, .slice none 0 0, .slice none 0 0, .int .i64 0, .int .i64 0, .string ByteArray.empty, .int .i64 0, .int .i64 0, .int .i64 0, .int .i64 0, .int .i64 0, .int .i64 0, .int .i64 0, .int .i64 0, .slice none 0 0, .slice none 0 0, .slice none 0 0]) (cs := es) rfl hes (CsAt.one (defR_k N) ⟨hes, hee.here⟩))
          have HAY := Lib.hid ((Up.refl y).alloc (.cells es 50))
          have HBD := Lib.hid (BoxC.new y 50 es)
          have HLE := Lib.hid (run_def hes HBD.out.range)
          have n0 := HBD.out.at e0 (by rw [hes]; decide)
          have HSA := Lib.hid (HST.out.up HAY.out)
          have HXA := Lib.hid (HBX.out.up HAY.out)
          have HRA := Lib.hid (HR.out.up HAY.out)
          have HEA := Lib.hid (HEE.out.up HAY.out)
          have HWA : Hid (y.heap.size < (y.alloc (.cells es 50)).heap.size) := Lib.hid (by rw [World.size_alloc]; omega)
          have q3 : (y.alloc (.cells es 50)).cell? ⟨W3.heap.size, 3, none⟩ = some (.slice va m vc) := HXA.out.five.2.2.2.1
          have hyk := HKP.out.size
          clear hx hra hes hec hee hSy hb hnm hi1 hnK e0
          cases b
          · have HE : Hid (((defs.take (i + 1)).filter fun d => has R d.nm) = U) := Lib.hid (by rw [HT.out]; rfl)
            go_wp2_with (first
              | (refine st_load HLD.out (by rfl) ?_)
              | (refine st_store HFL.out (by rfl) (by rfl) ?_)
              | (refine st_look HSA.out HSZ.out (by rfl) (by rfl) ?_; rw [HBE.out]))
            go_roundw
            case rel => exact ⟨i + 1, _, by go_num, by omega, HKP.out.trans (Kp.of_up (X := fun b => b = W3.heap.size ∨ W5.heap.size ≤ b) HAY.out) (fun _ _ h => h) (fun _ _ h => h), HXA.out, HSA.out, by rw [HE.out]; exact HRA.out⟩
            case measure => simp [intOf]; omega
          · have HE : Hid (((defs.take (i + 1)).filter fun d => has R d.nm) = U ++ [d]) := Lib.hid (by rw [HT.out]; rfl)
            go_upto_region 13 with (first
              | (refine st_load HLD.out (by rfl) ?_)
              | (refine st_store HFL.out (by rfl) (by rfl) ?_)
              | (refine st_look HSA.out HSZ.out (by rfl) (by rfl) ?_; rw [HBE.out]))
            obtain ⟨W4', hW⟩ : ∃ W, y.alloc (.cells es 50) = W := ⟨_, rfl⟩
            rw [hW] at HAY HBD HLE HSA HXA HRA HEA HWA q3 ⊢
            clear hW HLD HFL n0
            have HB5 := Lib.hid (BoxC.new W4' 50 es)
            have HA5 := Lib.hid ((Up.refl W4').alloc (.cells es 50))
            have HR5 := Lib.hid (HRA.out.up HA5.out)
            have HX6 : Hid (Fr (fun b => (w.heap.size ≤ b ∧ b < Wy.heap.size) ∨ (Value.slice va m vc).ownBlock = some b) (fun z => defR N z (fun k => es.getD k undef) d) (W4'.alloc (.cells es 50))) := Lib.hid ((HEA.out.up HA5.out).less fun b _ e => e.imp id fun e => HRA.out.low b e)
            have HX7 := Lib.hid (HXA.out.up HA5.out)
            have hwa := HWA.out
            have qs := HXA.out.lt
            go_wp2_with (first
              | (refine st_load HLE.out (by rfl) ?_)
              | (refine st_build rowT_def (by decide) (cs := es) HES.out (by rfl) ?_)
              | (at_builtin; refine st_app1 (b := W4'.heap.size) rowT_def (defR_k N) HM.out HR5.out HES.out HB5.out HX6.out (by have := HLN.out; omega) (by decide) (by simp only [World.size_alloc]; omega) (by rfl) (by rfl) ?_; intro ua uc W6 h1 h2 h3; have HR6 := Lib.hid h1; have HG6 := Lib.hid h2; have hb4 := HX7.out.kept h2 (fun e => by have := HR5.out.low _ e.symm; omega); have HB6 := Lib.hid hb4; obtain ⟨-, -, -, q3, -⟩ := hb4.five; have qs := hb4.lt; have qf := hb4.frozen 3; clear h1 h2 h3 hb4))
            have hgs := set_by W6 W3.heap.size 3 (.slice ua (m + 1) uc)
            have HKE := Lib.hid (((HKP.out.trans (Kp.of_up (X := fun b => b = W3.heap.size ∨ W5.heap.size ≤ b) (HAY.out.trans HA5.out)) (Z := fun b => b = W3.heap.size ∨ W5.heap.size ≤ b) (fun _ _ h => h) (fun _ _ h => h)).trans (Kp.of_by (X := fun b => b = W3.heap.size ∨ W5.heap.size ≤ b) HG6.out (fun g e => .inr (HR5.out.low g e))) (Z := fun b => b = W3.heap.size ∨ W5.heap.size ≤ b) (fun _ _ h => h) (fun _ _ h => h)).trans (Kp.of_by (X := fun b => b = W3.heap.size ∨ W5.heap.size ≤ b) hgs (fun g e => .inl (Option.some.inj e).symm)) (Z := fun b => b = W3.heap.size ∨ W5.heap.size ≤ b) (fun _ _ h => h) (fun _ _ h => h))
            have HRE := Lib.hid (HR6.out.kp (A' := fun b => w.heap.size ≤ b ∧ b < Wy.heap.size) (Kp.of_by (X := fun b => b = W3.heap.size) hgs (fun g e => (Option.some.inj e).symm)) (fun b _ e => by omega) (fun g hg e => by have := HR6.out.low g hg; omega) (fun _ _ h => h))
            have HSE := Lib.hid (((HSA.out.up HA5.out).kept HG6.out (fun e => by have := HR5.out.low _ e.symm; omega)).kept hgs (fun e => by have := Option.some.inj e; omega))
            clear hgs
            go_roundw
            case rel => exact ⟨i + 1, _, by go_num, by omega, HKE.out, set_heap HB6.out _, HSE.out, by rw [HE.out]; exact HRE.out⟩
            case measure => simp [intOf]; omega
        · obtain rfl : dn = i := by omega
          have HTK : Hid (defs.take dn = defs) := Lib.hid (List.take_of_length_le (by rw [HDN.out]; exact Nat.le_refl _))
          rw [HTK.out] at HUE
          obtain ⟨e0, e1, e2, e3, e4⟩ := HBX.out.five
          have es := HBX.out.lt
          have HPT := Lib.hid (run_put (P := Tryz.prog) (k := 5) prog_info HZy.out (cs := #[.slice ka sn kc, .slice la cn lc, .slice ma pn mc, .slice va m vc, .slice ya on_ yc]) rfl rfl (by simp [Value.oneCell']))
          have hkr := setRow_by y (w.heap.size + 1) #[.slice ka sn kc, .slice la cn lc, .slice ma pn mc, .slice va m vc, .slice ya on_ yc]
          have HRB := Lib.hid (HZy.out.row #[.slice ka sn kc, .slice la cn lc, .slice ma pn mc, .slice va m vc, .slice ya on_ yc])
          have HUF := Lib.hid (HU.out.grown' hkr (fun k e => by cases e; exact Nat.le_succ _))
          have hk' : Kp (fun b => b = w.heap.size + 1) y (y.setRow (w.heap.size + 1) #[.slice ka sn kc, .slice la cn lc, .slice ma pn mc, .slice va m vc, .slice ya on_ yc]) := Kp.of_by hkr (fun g e => (Option.some.inj e).symm)
          have hd := ((HR.out.ls (B := 272) (fun b h => by have := h.2; omega) (by decide) (by have := HLN.out; have := HM.out; omega)).kp hk' (fun b _ e => by omega)).here
          have HPG := Lib.hid (ProgAt.mk (N := N) (p := ⟨sizes, cons, pars, U, outs⟩) ((HF1.out.up HU3Y.out).kp hk' (fun b _ e => by omega)).here ((HF2.out.up HU3Y.out).kp hk' (fun b _ e => by omega)).here ((HF3.out.up HU3Y.out).kp hk' (fun b _ e => by omega)).here hd ((HF5.out.up HU3Y.out).kp hk' (fun b _ e => by omega)).here)
          clear hkr hk' hd hnK
          go_wp2_with (refine st_store HPT.out (by rfl) (by rfl) ?_)
          obtain ⟨f0, f1, f2, f3, f4⟩ := HRB.out.five
          refine bodyPost_ret (v := .agg #[.slice ka sn kc, .slice la cn lc, .slice ma pn mc, .slice va m vc, .slice ya on_ yc]) (by simp [results, Tryz.results18, go_sem, f0, f1, f2, f3, f4]) rfl ⟨_, rfl, HUF.out, ?_⟩
          rw [HRM.out, HUE.out]
          exact HPG.out
end Go.Proofs.YtpccaifhcmcegaaGreat

