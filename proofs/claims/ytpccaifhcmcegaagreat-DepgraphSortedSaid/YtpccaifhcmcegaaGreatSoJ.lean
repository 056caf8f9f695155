/-
  The reference 17: read. Printed by mkSo.py.
-/
import Derived.Test.YtpccaifhcmcegaaGreatHv
namespace Go.Proofs.YtpccaifhcmcegaaGreat
set_option linter.unusedSimpArgs false
open Go.ChangeShapes Go.WideShapes Go.ChangeAt Go.RowKit
set_option linter.unusedVariables false
set_option maxRecDepth 100000

/-- What the check of a read grants. -/
def ReadP (p : Pg) (nm : ByteArray) (ix : List Ix) : Prop := findB p nm = true ∧ ∀ x ∈ ix, nonE x.2.1 = true → findB p x.2.1 = true
theorem prog_u : ∃ d, Tryz.prog.underlying 27 = some d ∧ d.isRow = true := ⟨_, Tryz.underlying27, rfl⟩
theorem prog_load {w : World} {g : Nat} {cs : Array Value} (hs : cs.size = 5) (hb : BoxC w g 27 cs) : (Instr.loadAt 27 (.pointer (some ⟨g, 0, none⟩))).run Tryz.prog w = .ok (.agg cs) w :=
  let ⟨_, h1, h2⟩ := prog_u; run_cs (P := Tryz.prog) h1 h2 prog_info hs hb.range
/-- A return of no type, and an error. -/
theorem ret_zero {P : Prop} {w y : World} (hu : Up w y) {g : Nat} (hg : w.heap.size ≤ g) {f : Int} (hf : f ≠ 0) : TypQ P w (.returned (.tuple #[typV (0, 0, 0, 0, 0), .int .i64 f])) (y.setRow g (typC (0, 0, 0, 0, 0))) :=
  ⟨(0, 0, 0, 0, 0), f, rfl, hu.row hg _, fun h => absurd h hf⟩
set_option maxHeartbeats 16000000 in
theorem r17_read (N n : Nat) (w : World) (pv vv v : Value) (p : Pg) (vs : List ByteArray) (e : Ex) (hp : ProgAt N w pv p) (hb : ∀ d ∈ p.defs, d.dims.length ≤ 1500) (hvv : LsAt 1 16 strR w vv vs) (hv : ExAt (n + 1) w v e) :
    Calls Tryz.prog 79 #[pv, vv, v] w fun e' w' => TypQ (ReadP p (nmE e) (ixE e)) w e' w' := by
  obtain ⟨op, nm, A, d, t0, t1, t2, t3, t4, K, la, lc, xa, xc, ra, rc, ms, ix, args, rfl, rfl, hnm, hL, hX, hR⟩ := hv.open
  obtain ⟨ln, hln⟩ : ∃ q, ms.length = q := ⟨_, rfl⟩
  obtain ⟨xn, hxn⟩ : ∃ q, ix.length = q := ⟨_, rfl⟩
  obtain ⟨rn, hrn⟩ : ∃ q, args.length = q := ⟨_, rfl⟩
  have hlnI : (ln : Int) ≤ 140737488351232 := by have := hL.bytes; omega
  have hxnI : (xn : Int) ≤ 140737488351232 := by have := hX.bytes; omega
  have hrnI : (rn : Int) ≤ 140737488351232 := by have := hR.bytes; omega
  rw [hln] at hL
  rw [hxn] at hX
  rw [hrn] at hR
  rw [hln, hxn, hrn]
  have HL := Lib.hid hL
  have HX := Lib.hid hX
  have HR := Lib.hid hR
  have HLN := Lib.hid hln
  have HXN := Lib.hid hxn
  have HRN := Lib.hid hrn
  have HNM := Lib.hid hnm
  have HU := Lib.hid ((Up.refl w).alloc (.cells #[.int .i64 op, .string nm, .int .i64 A, .int .i64 d, .int .i64 t0, .int .i64 t1, .int .i64 t2, .int .i64 t3, .int .i64 t4, .int .i64 K, .slice la ln lc, .slice xa xn xc, .slice ra rn rc] 48))
  have HB := Lib.hid (BoxC.new w 48 #[.int .i64 op, .string nm, .int .i64 A, .int .i64 d, .int .i64 t0, .int .i64 t1, .int .i64 t2, .int .i64 t3, .int .i64 t4, .int .i64 K, .slice la ln lc, .slice xa xn xc, .slice ra rn rc])
  clear hL hX hR hln hxn hrn hnm

  clear hv HU HB
  show Calls _ _ _ _ fun e' w' => TypQ (ReadP p nm ix) w e' w'
  have HFD0 := Lib.hid (fun s y (hy : Up w y) => r17_Find N y pv p s (hp.up hy) hb (findB p s) rfl)
  have HFO0 := Lib.hid (fun lv l y (hy : Up w y) (hl : LsAt 2 32 linR y lv l) => r17_forms N y pv vv lv p vs l (hp.up hy) (hvv.up strR_up hy) hl _ rfl)
  have HKN := Lib.hid (fun lv sv (x : LinT) (ss : List ByteArray) y (hy : Up w y) (hl : AtV 2 linR y lv x) (hs : LsAt 1 16 strR y sv ss) => r17_known y lv vv sv x vs ss hl (hvv.up strR_up hy) hs _ rfl)
  obtain ⟨FB, hFB⟩ : ∃ F : ByteArray → Bool, findB p = F := ⟨_, rfl⟩
  unfold ReadP
  rw [hFB] at HFD0 ⊢
  clear hFB
  obtain ⟨sa, sc, ca, cc, pa, pc, da, dc, oa, oc, rfl, hs, hcn, hpp, hd, ho⟩ := hp.open
  obtain ⟨sizes, cons, pars, defs, outs⟩ := p
  dsimp only at *
  obtain ⟨sn, hsn⟩ : ∃ q, sizes.length = q := ⟨_, rfl⟩
  obtain ⟨cn, hcnn⟩ : ∃ q, cons.length = q := ⟨_, rfl⟩
  obtain ⟨pn, hpn⟩ : ∃ q, pars.length = q := ⟨_, rfl⟩
  obtain ⟨dn, hdn⟩ : ∃ q, defs.length = q := ⟨_, rfl⟩
  obtain ⟨on_, hon⟩ : ∃ q, outs.length = q := ⟨_, rfl⟩
  have hsnI : (sn : Int) ≤ 140737488351232 := by have := hs.bytes; omega
  have hcnI : (cn : Int) ≤ 140737488351232 := by have := hcn.bytes; omega
  have hpnI : (pn : Int) ≤ 140737488351232 := by have := hpp.bytes; omega
  have hdnI : (dn : Int) ≤ 140737488351232 := by have := hd.bytes; omega
  have honI : (on_ : Int) ≤ 140737488351232 := by have := ho.bytes; omega
  rw [hsn] at hs hp
  rw [hcnn] at hcn hp
  rw [hpn] at hpp hp
  rw [hdn] at hd hp
  rw [hon] at ho hp
  rw [hsn, hcnn, hpn, hdn, hon]
  have HPG := Lib.hid hp
  have HS := Lib.hid hs
  have HC := Lib.hid hcn
  have HP := Lib.hid hpp
  have HD := Lib.hid hd
  have HO := Lib.hid ho
  have HSN := Lib.hid hsn
  have HCN := Lib.hid hcnn
  have HPN := Lib.hid hpn
  have HDN := Lib.hid hdn
  have HON := Lib.hid hon
  clear hs hcn hpp hd ho hsn hcnn hpn hdn hon hp

  rw [HSN.out, HCN.out, HPN.out, HDN.out, HON.out] at HFD0 HFO0
  have HFD := Lib.hid HFD0.out
  have HFO := Lib.hid HFO0.out
  clear HFD0 HFO0 hb hvv
  have HU := Lib.hid ((((Up.refl w).alloc (.cells #[.slice sa sn sc, .slice ca cn cc, .slice pa pn pc, .slice da dn dc, .slice oa on_ oc] 27)).alloc (.cells #[.int .i64 op, .string nm, .int .i64 A, .int .i64 d, .int .i64 t0, .int .i64 t1, .int .i64 t2, .int .i64 t3, .int .i64 t4, .int .i64 K, .slice la ln lc, .slice xa xn xc, .slice ra rn rc] 48)).alloc (.cells #[.int .i64 0, .int .i64 0, .int .i64 0, .int .i64 0, .int .i64 0] 38))
  have HBP := Lib.hid (((BoxC.new w 27 #[.slice sa sn sc, .slice ca cn cc, .slice pa pn pc, .slice da dn dc, .slice oa on_ oc]).up ((Up.refl _).alloc (.cells #[.int .i64 op, .string nm, .int .i64 A, .int .i64 d, .int .i64 t0, .int .i64 t1, .int .i64 t2, .int .i64 t3, .int .i64 t4, .int .i64 K, .slice la ln lc, .slice xa xn xc, .slice ra rn rc] 48))).up ((Up.refl _).alloc (.cells #[.int .i64 0, .int .i64 0, .int .i64 0, .int .i64 0, .int .i64 0] 38)))
  have HBE := Lib.hid ((BoxC.new2 w (.cells #[.slice sa sn sc, .slice ca cn cc, .slice pa pn pc, .slice da dn dc, .slice oa on_ oc] 27) 48 #[.int .i64 op, .string nm, .int .i64 A, .int .i64 d, .int .i64 t0, .int .i64 t1, .int .i64 t2, .int .i64 t3, .int .i64 t4, .int .i64 K, .slice la ln lc, .slice xa xn xc, .slice ra rn rc]).up ((Up.refl _).alloc (.cells #[.int .i64 0, .int .i64 0, .int .i64 0, .int .i64 0, .int .i64 0] 38)))
  have HBT := Lib.hid (BoxC.new3 w (.cells #[.slice sa sn sc, .slice ca cn cc, .slice pa pn pc, .slice da dn dc, .slice oa on_ oc] 27) (.cells #[.int .i64 op, .string nm, .int .i64 A, .int .i64 d, .int .i64 t0, .int .i64 t1, .int .i64 t2, .int .i64 t3, .int .i64 t4, .int .i64 K, .slice la ln lc, .slice xa xn xc, .slice ra rn rc] 48) 38 #[.int .i64 0, .int .i64 0, .int .i64 0, .int .i64 0, .int .i64 0])
  have HLP := Lib.hid (prog_load rfl HBP.out)
  have hg1 : w.heap.size ≤ w.heap.size + 2 := by omega
  have HG2 := Lib.hid hg1
  clear hg1
  go_enter Tryz.func79, Tryz.ntmps79
  go_wp2_with (refine st_load HLP.out (by rfl) ?_)
  refine (HFD.out nm _ HU.out).mono ?_
  rintro e' y ⟨t, fa, fn, fc, rfl, hy⟩
  have HUY := Lib.hid (HU.out.trans (hy.alloc (.cells (typC t) 38)))
  have HPY := Lib.hid (HBP.out.up (hy.alloc (.cells (typC t) 38)))
  have HEY := Lib.hid (HBE.out.up (hy.alloc (.cells (typC t) 38)))
  have HTY := Lib.hid (HBT.out.up (hy.alloc (.cells (typC t) 38)))
  have H8Y := Lib.hid (BoxC.new y 38 (typC t))
  obtain ⟨g8, h8⟩ : ∃ g, y.heap.size = g := ⟨_, rfl⟩
  rw [h8] at H8Y
  have H8 := Lib.hid h8
  have HFL := Lib.hid (run_fill (P := Tryz.prog) typ_i y (Z := #[.int .i64 0, .int .i64 0, .int .i64 0, .int .i64 0, .int .i64 0]) (cs := typC t) rfl rfl (typC_one t))
  have HPT := Lib.hid (put_typ HTY.out rfl (0, 0, 0, 0, 0))
  have HLR := Lib.hid (run_typV (cs := typC (0, 0, 0, 0, 0)) rfl (HTY.out.row (typC (0, 0, 0, 0, 0))).range)
  obtain ⟨q0, hq0⟩ : ∃ q, FB nm = q := ⟨_, rfl⟩
  have HQ0 := Lib.hid hq0
  rw [hq0]
  clear hq0 hy h8 HU HBP HBE HBT HLP
  cases q0
  · go_wp2_with (first | (refine st_store HFL.out (by rfl) (by rfl) ?_) | (refine st_store HPT.out (by rfl) (by rfl) ?_))
    refine bodyPost_ret ?_ rfl (ret_zero HUY.out HG2.out (f := 9) (by decide))
    exact results_c2 (by rfl) (by rfl) (by rfl) HLR.out
  have e11 : (y.alloc (.cells (typC t) 38)).cell? ⟨w.heap.size + 1, 11, none⟩ = some (.slice xa xn xc) := cell_of_row _ _ _ _ _ _ HEY.out
  have esz := HEY.out.lt
  by_cases hfx : fn = xn
  case neg =>
    have q1 : ((fn : Int) == xn) = false := by simp; omega
    have q2 : ((fn : Int) != xn) = true := by rw [bne, q1]; rfl
    go_wp2_with (first | (refine st_store HFL.out (by rfl) (by rfl) ?_) | (refine st_store HPT.out (by rfl) (by rfl) ?_))
    refine bodyPost_ret ?_ rfl (ret_zero HUY.out HG2.out (f := 11) (by decide))
    exact results_c2 (by rfl) (by rfl) (by rfl) HLR.out
  case pos =>
  have q1 : ((fn : Int) == xn) = true := by simp; omega
  have q2 : ((fn : Int) != xn) = false := by rw [bne, q1]; rfl
  clear hfx
  go_wp2_with (refine st_store HFL.out (by rfl) (by rfl) ?_)
  rw [H8.out]
  clear HFL HPT HLR e11 esz q1 q2 H8
  generalize y.alloc (.cells (typC t) 38) = W1 at *
  go_loopw [11] (fun iv y => ∃ i : Nat, iv = .int .i64 i ∧ i ≤ xn ∧ (∀ x ∈ ix.take i, nonE x.2.1 = true → FB x.2.1 = true) ∧ Up w y ∧ BoxC y w.heap.size 27 #[.slice sa sn sc, .slice ca cn cc, .slice pa pn pc, .slice da dn dc, .slice oa on_ oc] ∧ BoxC y (w.heap.size + 1) 48 #[.int .i64 op, .string nm, .int .i64 A, .int .i64 d, .int .i64 t0, .int .i64 t1, .int .i64 t2, .int .i64 t3, .int .i64 t4, .int .i64 K, .slice la ln lc, .slice xa xn xc, .slice ra rn rc] ∧ BoxC y (w.heap.size + 2) 38 #[.int .i64 0, .int .i64 0, .int .i64 0, .int .i64 0, .int .i64 0] ∧ BoxC y g8 38 (typC t)) (fun iv _ => xn - (intOf iv).toNat)
  case atStart => exact ⟨0, rfl, Nat.zero_le _, by simp, HUY.out, HPY.out, HEY.out, HTY.out, H8Y.out⟩
  case round =>
    clear HUY HPY HEY HTY H8Y
    rename World => y
    obtain ⟨i, rfl, hi, hQ, hup, hb1, hb2, hb3, hb4⟩ := hrel
    have HU := Lib.hid hup
    have HQ := Lib.hid hQ
    have HBP := Lib.hid hb1
    have HBE := Lib.hid hb2
    have HBT := Lib.hid hb3
    have HB8 := Lib.hid hb4
    have e11 : y.cell? ⟨w.heap.size + 1, 11, none⟩ = some (.slice xa xn xc) := cell_of_row _ _ _ _ _ _ hb2
    have esz := hb2.lt
    clear hup hQ hb1 hb2 hb3 hb4
    by_cases hlt : i < xn
    · have hltI : (i : Int) < xn := by omega
      have hi1 : i < ix.length := by rw [HXN.out]; exact hlt
      obtain ⟨g, o, ya, yc, ta, tc, rfl, hg, c0, c1, c2, c3, hlz, hat, hsz⟩ := HX.out.ix4 i hi1
      have HQT : Hid (∀ (h : nonE ix[i].2.1 = true → FB ix[i].2.1 = true), ∀ x ∈ ix.take (i + 1), nonE x.2.1 = true → FB x.2.1 = true) := Lib.hid (fun h x hx => by
        rw [List.take_succ_eq_append_getElem hi1] at hx
        rcases List.mem_append.1 hx with hx | hx
        · exact HQ.out x hx
        · rw [List.mem_singleton.1 hx]; exact h)
      generalize ix[i] = x at *
      obtain ⟨⟨K2, zl⟩, s, tl⟩ := x
      dsimp only at c0 c1 c2 c3 hlz hat hsz HQT
      obtain ⟨zn, hzn⟩ : ∃ q, zl.length = q := ⟨_, rfl⟩
      obtain ⟨tn, htn⟩ : ∃ q, tl.length = q := ⟨_, rfl⟩
      rw [hzn] at c1 hlz
      rw [htn] at c3 hat
      replace c0 := cell_up' HU.out hg c0
      replace c1 := cell_up' HU.out hg c1
      replace c2 := cell_up' HU.out hg c2
      replace c3 := cell_up' HU.out hg c3
      have gs := Nat.lt_of_lt_of_le hg HU.out.size
      have HLZ := Lib.hid hlz
      have HAT := Lib.hid hat
      have HZN := Lib.hid hzn
      have HTN := Lib.hid htn
      clear hi1 hg hlz hat hsz hzn htn
      have HA := Lib.hid ((Up.refl y).alloc (.cells #[.int .i64 K2, .slice ya zn yc, .string s, .slice ta tn tc] 81))
      have HUZ := Lib.hid (HU.out.trans HA.out)
      have HPZ := Lib.hid (HBP.out.up HA.out)
      have HEZ := Lib.hid (HBE.out.up HA.out)
      have HTZ := Lib.hid (HBT.out.up HA.out)
      have H8Z := Lib.hid (HB8.out.up HA.out)
      have HIZ := Lib.hid (BoxC.new y 81 #[.int .i64 K2, .slice ya zn yc, .string s, .slice ta tn tc])
      have HSE := Lib.hid (emp_eq s)
      obtain ⟨qe, hqe⟩ : ∃ q, (s.toList == ([] : List UInt8)) = q := ⟨_, rfl⟩
      have HQE : Hid ((!qe) = nonE s) := Lib.hid (by rw [← hqe, HSE.out, Bool.not_not])
      clear HSE
      have hqn : (s.toList != ([] : List UInt8)) = !qe := by rw [bne, hqe]
      cases qe
      · replace HQE : Hid (nonE s = true) := Lib.hid HQE.out.symm
        have hqn2 : (s.toList != ([] : List UInt8)) = true := hqn
        clear hqn
        have HLP := Lib.hid (prog_load rfl HPZ.out)
        go_wp2_with (refine st_load HLP.out (by rfl) ?_)
        refine (HFD.out s _ HUZ.out).mono ?_
        rintro e' z ⟨u, fa2, fn2, fc2, rfl, hz⟩
        have HB := Lib.hid (hz.alloc (.cells (typC u) 38))
        have HU3 := Lib.hid (HUZ.out.trans HB.out)
        have HP3 := Lib.hid (HPZ.out.up HB.out)
        have HE3 := Lib.hid (HEZ.out.up HB.out)
        have HT3 := Lib.hid (HTZ.out.up HB.out)
        have H83 := Lib.hid (H8Z.out.up HB.out)
        have HI3 := Lib.hid (HIZ.out.up HB.out)
        have HFL := Lib.hid (run_fill (P := Tryz.prog) typ_i z (Z := #[.int .i64 0, .int .i64 0, .int .i64 0, .int .i64 0, .int .i64 0]) (cs := typC u) rfl rfl (typC_one u))
        obtain ⟨q3, hq3⟩ : ∃ q, FB s = q := ⟨_, rfl⟩
        have HQ3 := Lib.hid hq3
        rw [hq3]
        clear hz hq3 c0 c1 c2 c3 gs e11 esz HLP HA HB HUZ HPZ HEZ HTZ H8Z HIZ hqe hqn2
        obtain ⟨gi, hgi⟩ : ∃ q, y.heap.size = q := ⟨_, rfl⟩
        rw [hgi] at HI3 ⊢
        clear hgi
        cases q3
        · have HPT := Lib.hid (put_typ HT3.out rfl (0, 0, 0, 0, 0))
          have HLR := Lib.hid (run_typV (cs := typC (0, 0, 0, 0, 0)) rfl (HT3.out.row (typC (0, 0, 0, 0, 0))).range)
          go_wp2_with (first | (refine st_store HPT.out (by rfl) (by rfl) ?_) | (refine st_store HFL.out (by rfl) (by rfl) ?_))
          refine bodyPost_ret ?_ rfl (ret_zero HU3.out HG2.out (f := 9) (by decide))
          exact results_c2 (by rfl) (by rfl) (by rfl) HLR.out
        · have i3 : (z.alloc (.cells (typC u) 38)).cell? ⟨gi, 3, none⟩ = some (.slice ta tn tc) := cell_of_row _ _ _ _ _ _ HI3.out
          have isz := HI3.out.lt
          obtain ⟨k0, k1, k2, k3, k4⟩ := u
          by_cases hk : k0 = 3
          case neg =>
            have q1 : (k0 == 3) = false := by simpa using hk
            have q2 : (k0 != 3) = true := by rw [bne, q1]; rfl
            clear hk
            have HPT := Lib.hid (put_typ HT3.out rfl (0, 0, 0, 0, 0))
            have HLR := Lib.hid (run_typV (cs := typC (0, 0, 0, 0, 0)) rfl (HT3.out.row (typC (0, 0, 0, 0, 0))).range)
            go_wp2_with (first | (refine st_store HPT.out (by rfl) (by rfl) ?_) | (refine st_store HFL.out (by rfl) (by rfl) ?_))
            refine bodyPost_ret ?_ rfl (ret_zero HU3.out HG2.out (f := 10) (by decide))
            exact results_c2 (by rfl) (by rfl) (by rfl) HLR.out
          case pos =>
          subst hk
          by_cases hfx : fn2 = tn
          case neg =>
            have q1 : ((fn2 : Int) == tn) = false := by simp; omega
            have q2 : ((fn2 : Int) != tn) = true := by rw [bne, q1]; rfl
            clear hfx
            have HPT := Lib.hid (put_typ HT3.out rfl (0, 0, 0, 0, 0))
            have HLR := Lib.hid (run_typV (cs := typC (0, 0, 0, 0, 0)) rfl (HT3.out.row (typC (0, 0, 0, 0, 0))).range)
            go_wp2_with (first | (refine st_store HPT.out (by rfl) (by rfl) ?_) | (refine st_store HFL.out (by rfl) (by rfl) ?_))
            refine bodyPost_ret ?_ rfl (ret_zero HU3.out HG2.out (f := 11) (by decide))
            exact results_c2 (by rfl) (by rfl) (by rfl) HLR.out
          case pos =>
          have q1 : ((fn2 : Int) == tn) = true := by simp; omega
          have q2 : ((fn2 : Int) != tn) = false := by rw [bne, q1]; rfl
          clear hfx
          have HLP := Lib.hid (prog_load rfl HP3.out)
          go_wp2_with (first | (refine st_store HFL.out (by rfl) (by rfl) ?_) | (refine st_load HLP.out (by rfl) ?_))
          have hat3 : LsAt 2 32 linR (z.alloc (.cells (typC (3, k1, k2, k3, k4)) 38)) (.slice ta tn tc) tl := HAT.out.up linR_up HU3.out
          refine (HFO.out (.slice ta tn tc) tl _ HU3.out hat3).mono ?_
          rintro e' z2 ⟨rfl, hz⟩
          have HU4 := Lib.hid (HU3.out.trans hz)
          have HP4 := Lib.hid (HP3.out.up hz)
          have HE4 := Lib.hid (HE3.out.up hz)
          have HT4 := Lib.hid (HT3.out.up hz)
          have H84 := Lib.hid (H83.out.up hz)
          obtain ⟨q5, hq5⟩ : ∃ q, formsB tl vs sizes = q := ⟨_, rfl⟩
          rw [hq5]
          clear hat3 hz hq5 HFL HLP i3 isz q1 q2 HU3 HP3 HE3 HT3 H83 HI3
          cases q5
          · simp only [Bool.false_eq_true, if_false]
            have HPT := Lib.hid (put_typ HT4.out rfl (0, 0, 0, 0, 0))
            have HLR := Lib.hid (run_typV (cs := typC (0, 0, 0, 0, 0)) rfl (HT4.out.row (typC (0, 0, 0, 0, 0))).range)
            go_wp2_with (first | (refine st_store HPT.out (by rfl) (by rfl) ?_))
            refine bodyPost_ret ?_ rfl (ret_zero HU4.out HG2.out (f := 9) (by decide))
            exact results_c2 (by rfl) (by rfl) (by rfl) HLR.out
          · simp only [if_true]
            go_wp2
            go_roundw
            case rel => exact ⟨i + 1, by go_num, by omega, HQT.out (fun _ => HQ3.out), HU4.out, HP4.out, HE4.out, HT4.out, H84.out⟩
            case measure => simp [intOf]; omega
      · replace HQE : Hid (nonE s = false) := Lib.hid HQE.out.symm
        have hqn2 : (s.toList != ([] : List UInt8)) = false := hqn
        clear hqn
        have p0 : (y.alloc (.cells #[.int .i64 K2, .slice ya zn yc, .string s, .slice ta tn tc] 81)).cell? ⟨w.heap.size, 0, none⟩ = some (.slice sa sn sc) := cell_of_row _ _ _ _ _ _ HPZ.out
        have psz := HPZ.out.lt
        go_wp2_with fail
        refine (HKN.out (.agg #[.int .i64 K2, .slice ya zn yc]) (.slice sa sn sc) (K2, zl) sizes _ HUZ.out ⟨_, rfl, rfl, rfl, HLZ.out.up monR_up HUZ.out⟩ (HS.out.up strR_up HUZ.out)).mono ?_
        rintro e' z2 ⟨rfl, hz⟩
        have HU4 := Lib.hid (HUZ.out.trans hz)
        have HP4 := Lib.hid (HPZ.out.up hz)
        have HE4 := Lib.hid (HEZ.out.up hz)
        have HT4 := Lib.hid (HTZ.out.up hz)
        have H84 := Lib.hid (H8Z.out.up hz)
        dsimp only
        obtain ⟨q5, hq5⟩ : ∃ q, knownB zl vs sizes = q := ⟨_, rfl⟩
        rw [hq5]
        clear hz hq5 c0 c1 c2 c3 gs e11 esz p0 psz HA HUZ HPZ HEZ HTZ H8Z HIZ hqe hqn2
        cases q5
        · have HPT := Lib.hid (put_typ HT4.out rfl (0, 0, 0, 0, 0))
          have HLR := Lib.hid (run_typV (cs := typC (0, 0, 0, 0, 0)) rfl (HT4.out.row (typC (0, 0, 0, 0, 0))).range)
          go_wp2_with (first | (refine st_store HPT.out (by rfl) (by rfl) ?_))
          refine bodyPost_ret ?_ rfl (ret_zero HU4.out HG2.out (f := 9) (by decide))
          exact results_c2 (by rfl) (by rfl) (by rfl) HLR.out
        · go_wp2
          go_roundw
          case rel => exact ⟨i + 1, by go_num, by omega, HQT.out (fun h => by rw [HQE.out] at h; cases h), HU4.out, HP4.out, HE4.out, HT4.out, H84.out⟩
          case measure => simp [intOf]; omega
    · have hltI : ¬ (i : Int) < xn := by omega
      have HQF : Hid (∀ x ∈ ix, nonE x.2.1 = true → FB x.2.1 = true) := Lib.hid (fun x hx => HQ.out x (by rw [List.take_of_length_le (by rw [HXN.out]; omega)]; exact hx))
      have HL8 := Lib.hid (run_typ (cs := typC t) rfl HB8.out.range)
      have HPT := Lib.hid (put_typ HBT.out rfl t)
      have HLR := Lib.hid (run_typV (cs := typC t) rfl (HBT.out.row (typC t)).range)
      go_wp2_with (first | (refine st_store HPT.out (by rfl) (by rfl) ?_) | (refine st_load HL8.out (by rfl) ?_))
      refine bodyPost_ret (v := .tuple #[typV t, .int .i64 0]) ?_ rfl ⟨t, 0, rfl, HU.out.row HG2.out _, fun _ => ⟨HQ0.out, fun a b c d h h2 => HQF.out ((a, b), c, d) h h2⟩⟩
      exact results_c2 (by rfl) (by rfl) (by rfl) HLR.out
end Go.Proofs.YtpccaifhcmcegaaGreat
