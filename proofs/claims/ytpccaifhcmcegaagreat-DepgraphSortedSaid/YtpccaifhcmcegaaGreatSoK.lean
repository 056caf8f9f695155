/-
  The reference 17: node. Printed by mkSoK.py.
-/
import Derived.Test.YtpccaifhcmcegaaGreatSoJ
import Derived.Test.YtpccaifhcmcegaaGreatSoG
import Derived.Test.YtpccaifhcmcegaaGreatHn
namespace Go.Proofs.YtpccaifhcmcegaaGreat
set_option linter.unusedSimpArgs false
open Go.ChangeShapes Go.WideShapes Go.ChangeAt Go.RowKit
set_option linter.unusedVariables false
set_option maxRecDepth 100000

theorem rowT_typ : RowT 128 38 5 40 := rowT_of (z := .agg #[.int .i64 0, .int .i64 0, .int .i64 0, .int .i64 0, .int .i64 0]) Tryz.underlying128 (by kernel_rfl) rfl (by decide)
/-- The cells of a type, in any world. -/
def typQ (f : Nat → Value) (t : Typ) : Prop := ∀ w, typR w f t
theorem typQ_one : ∀ (f : Nat → Value) x, typQ f x → ∀ j, j < 5 → (f j).oneCell' = true := fun f x h j hj => typR_one (h default) j hj
theorem typQ_C (t : Typ) : typQ (fun j => (typC t).getD j undef) t := fun _ => ⟨rfl, rfl, rfl, rfl, rfl⟩
theorem run_neq_ty (a b c d e a2 b2 c2 d2 e2 : Int) : ∃ q : Bool, ∀ w : World, (binOp .neq 38 (.agg #[.int .i64 a, .int .i64 b, .int .i64 c, .int .i64 d, .int .i64 e]) (.agg #[.int .i64 a2, .int .i64 b2, .int .i64 c2, .int .i64 d2, .int .i64 e2])).run Tryz.prog w = .ok (.bool q) w := by
  refine ⟨!(decide (a = a2 ∧ b = b2 ∧ c = c2 ∧ d = d2 ∧ e = e2)), fun w => ?_⟩
  rw [run_neq_struct]
  go_simp
  (repeat' split) <;> simp_all
/-- A type of a list of the call's own: its load. -/
theorem own_typ {base : Nat} {w : World} {v : Value} {L : List Typ} {n : Nat} (hn : L.length = n) (h0 : 0 < n) (hm : n ≤ 1000) (h : OwnR 5 typQ base 38 w v L) :
    ∃ (g o c : Nat), v = .slice (some ⟨g, o, none⟩) n c ∧ g < w.heap.size ∧ ∀ k, k < n → ∃ t : Typ, ∀ y, Up w y → (Instr.loadAt 38 (.pointer (some ⟨g, o + k * 5, none⟩))).run Tryz.prog y = .ok (typV t) y := by
  have hl := OwnL.ls (B := 40) h (by decide) (by omega)
  obtain ⟨a, c, e⟩ := h.shape
  rw [e, hn] at hl
  obtain ⟨g, o, f, e2, hg, -, -⟩ := hl.elem 0 (by omega)
  refine ⟨g, o, c, by rw [e, e2, hn], hg, fun k hk => ?_⟩
  obtain ⟨g', o', f', e3, hg', hf, ht⟩ := hl.elem k (by omega)
  rw [e2] at e3
  cases e3
  exact ⟨L[k], fun y hy => run_typ (cs := typC L[k]) rfl (typR_range (ht w) (fun j hj => cell_up' hy hg' (hf j hj)))⟩
/-- All names that an expression reads are found. -/
def ReadsP (p : Pg) (e : Ex) : Prop := ∀ x ∈ nodes e, ∀ s ∈ nm1 x, findB p s = true

set_option maxHeartbeats 32000000 in
theorem node_step (N n : Nat) (w0 : World) (pv vv : Value) (p : Pg) (vs : List ByteArray) (hp : ProgAt N w0 pv p) (hb : ∀ d ∈ p.defs, d.dims.length ≤ 1500) (hvv : LsAt 1 16 strR w0 vv vs)
    (ih : ∀ (e : Ex) (v : Value) (w : World) (hw : Up w0 w) (hv : ExAt n w v e) (hN : ∀ x ∈ nodes e, NodeP x), Calls Tryz.prog 64 #[pv, vv, v] w fun e' w' => TypQ (ReadsP p e) w e' w')
    (e : Ex) (v : Value) (w : World) (hw : Up w0 w) (hv : ExAt (n + 1) w v e) (hN : ∀ x ∈ nodes e, NodeP x) : Calls Tryz.prog 64 #[pv, vv, v] w fun e' w' => TypQ (ReadsP p e) w e' w' := by
  have HRE := Lib.hid (fun y (hy : Up w y) => r17_read N n y pv vv v p vs e (hp.up (hw.trans hy)) hb (hvv.up strR_up (hw.trans hy)) (hv.up hy))
  have HFO := Lib.hid (fun lv l y (hy : Up w y) (hl : LsAt 2 32 linR y lv l) => r17_forms N y pv vv lv p vs l (hp.up (hw.trans hy)) (hvv.up strR_up (hw.trans hy)) hl _ rfl)
  have HIH := Lib.hid ih
  have HW := Lib.hid hw
  have HNN := Lib.hid hN
  clear ih hw hN
  obtain ⟨op, nm, A, d, t0, t1, t2, t3, t4, K, la, lc, xa, xc, ra, rc, ms, ix, args, rfl, rfl, hnm, hL, hX, hR⟩ := hv.open
  obtain ⟨ln, hln⟩ : ∃ q, ms.length = q := ⟨_, rfl⟩
  obtain ⟨xn, hxn⟩ : ∃ q, ix.length = q := ⟨_, rfl⟩
  obtain ⟨rn, hrn⟩ : ∃ q, args.length = q := ⟨_, rfl⟩
  have hlnI : (ln : Int) ≤ 140737488351232 := by have := hL.bytes; omega
  have hxnI : (xn : Int) ≤ 140737488351232 := by have := hX.bytes; omega
  have hrnI : (rn : Int) ≤ 140737488351232 := by have := hR.bytes; omega
  rw [hln] at hL
  rw [hxn] at hX
  rw [hrn] at hR
  rw [hln, hxn, hrn]
  have HL := Lib.hid hL
  have HX := Lib.hid hX
  have HR := Lib.hid hR
  have HLN := Lib.hid hln
  have HXN := Lib.hid hxn
  have HRN := Lib.hid hrn
  have HNM := Lib.hid hnm
  have HU := Lib.hid ((Up.refl w).alloc (.cells #[.int .i64 op, .string nm, .int .i64 A, .int .i64 d, .int .i64 t0, .int .i64 t1, .int .i64 t2, .int .i64 t3, .int .i64 t4, .int .i64 K, .slice la ln lc, .slice xa xn xc, .slice ra rn rc] 48))
  have HB := Lib.hid (BoxC.new w 48 #[.int .i64 op, .string nm, .int .i64 A, .int .i64 d, .int .i64 t0, .int .i64 t1, .int .i64 t2, .int .i64 t3, .int .i64 t4, .int .i64 K, .slice la ln lc, .slice xa xn xc, .slice ra rn rc])
  clear hL hX hR hln hxn hrn hnm

  clear hv HU HB
  rw [HLN.out, HXN.out, HRN.out] at HRE
  have HNE : Hid (NodeP (.mk op nm A d (t0, t1, t2, t3, t4) (K, ms) ix args)) := Lib.hid (HNN.out _ (by rw [nodes]; exact List.mem_cons_self))
  have HNA : Hid (∀ i (hi : i < args.length), ∀ x ∈ nodes args[i], NodeP x) := Lib.hid (fun i hi x hx => HNN.out x (by
    rw [nodes]
    refine List.mem_cons_of_mem _ ?_
    have : args = args.take i ++ args[i] :: args.drop (i + 1) := by rw [← List.drop_eq_getElem_cons hi, List.take_append_drop]
    rw [this, nodess_app, nodess]
    exact List.mem_append_right _ (List.mem_append_left _ hx)))
  have HAR : Hid ((rn : Int) = argsN op) := Lib.hid (by rw [← HRN.out]; exact HNE.out.2)
  have HOP : Hid (1 ≤ op ∧ op ≤ 18) := Lib.hid ⟨HNE.out.1.1, HNE.out.1.2.1⟩
  have HRD : Hid (∀ (h : ∀ x ∈ nodess args, ∀ s ∈ nm1 x, findB p s = true) (h3 : op = 3 → ReadP p nm ix), ReadsP p (.mk op nm A d (t0, t1, t2, t3, t4) (K, ms) ix args)) := Lib.hid (fun h h3 x hx => by
    rw [nodes] at hx
    rcases List.mem_cons.1 hx with rfl | hx
    · intro s hs
      unfold nm1 at hs
      by_cases e3 : op = 3
      · rw [show opE (.mk op nm A d (t0, t1, t2, t3, t4) (K, ms) ix args) = 3 from e3, if_pos rfl] at hs
        rcases List.mem_append.1 hs with hs | hs
        · rw [List.mem_singleton.1 hs]; exact (h3 e3).1
        · obtain ⟨hs1, hs2⟩ := List.mem_filter.1 hs
          obtain ⟨y, hy, rfl⟩ := List.mem_map.1 hs1
          exact (h3 e3).2 y hy hs2
      · rw [if_neg (show ¬ opE (.mk op nm A d (t0, t1, t2, t3, t4) (K, ms) ix args) = 3 from e3), show ixE (.mk op nm A d (t0, t1, t2, t3, t4) (K, ms) ix args) = [] from HNE.out.1.2.2 e3] at hs
        simp at hs
    · exact h x hx)
  have HRE2 : Hid (∀ y, Up w y → Calls Tryz.prog 79 #[pv, vv, .agg #[.int .i64 op, .string nm, .int .i64 A, .int .i64 d, .int .i64 t0, .int .i64 t1, .int .i64 t2, .int .i64 t3, .int .i64 t4, .int .i64 K, .slice la ln lc, .slice xa xn xc, .slice ra rn rc]] y fun e' w' => TypQ (ReadP p nm ix) y e' w') := Lib.hid HRE.out
  clear HRE HNE HNN
  generalize Ex.mk op nm A d (t0, t1, t2, t3, t4) (K, ms) ix args = E at *
  obtain ⟨PR, hPR⟩ : ∃ P : Ex → Prop, ReadsP p = P := ⟨_, rfl⟩
  have HPR : Hid (∀ e, (PR e) = ∀ x ∈ nodes e, ∀ s ∈ nm1 x, findB p s = true) := Lib.hid (fun e => by rw [← hPR]; rfl)
  rw [hPR] at HRD ⊢
  have HIH2 : Hid (∀ (e : Ex) (v : Value) (w : World) (hw : Up w0 w) (hv : ExAt n w v e) (hN : ∀ x ∈ nodes e, NodeP x), Calls Tryz.prog 64 #[pv, vv, v] w fun e' w' => TypQ (PR e) w e' w') := Lib.hid (by rw [← hPR]; exact HIH.out)
  clear HIH hPR
  obtain ⟨FP, hFP⟩ : ∃ P : List LinT → Bool, (fun l => formsB l vs p.sizes) = P := ⟨_, rfl⟩
  have HFO2 : Hid (∀ lv l y, Up w y → LsAt 2 32 linR y lv l → Calls Tryz.prog 78 #[pv, vv, lv] y fun e' w' => e' = .returned (.int .i64 (if FP l then 0 else 9)) ∧ Up y w') := Lib.hid (by rw [← hFP]; exact HFO.out)
  clear HFO hFP
  obtain ⟨FR, hFR⟩ : ∃ P : Prop, ReadP p nm ix = P := ⟨_, rfl⟩
  rw [hFR] at HRD HRE2
  obtain ⟨FA, hFA⟩ : ∃ P : List Ex → Prop, (fun l => ∀ x ∈ nodess l, ∀ s ∈ nm1 x, findB p s = true) = P := ⟨_, rfl⟩
  have HRD2 : Hid (FA args → (op = 3 → FR) → PR E) := Lib.hid (by rw [← hFA]; exact HRD.out)
  have HF0 : Hid (FA []) := Lib.hid (by rw [← hFA]; simp [nodess])
  have HFS : Hid (∀ i (hi : i < args.length), FA (args.take i) → PR args[i] → FA (args.take (i + 1))) := Lib.hid (fun i hi h1 h2 => by
    rw [← hFA] at h1 ⊢
    rw [HPR.out] at h2
    intro x hx
    rw [nodess_take hi] at hx
    rcases List.mem_append.1 hx with hx | hx
    · exact h1 x hx
    · exact h2 x hx)
  clear HRD HPR hFA hFR
  clear hb hvv
  obtain ⟨sa, sc, ca, cc, pa, pc, da, dc, oa, oc, rfl, hs, hcn, hpp, hd, ho⟩ := hp.open
  obtain ⟨sizes, cons, pars, defs, outs⟩ := p
  dsimp only at *
  obtain ⟨sn, hsn⟩ : ∃ q, sizes.length = q := ⟨_, rfl⟩
  obtain ⟨cn, hcnn⟩ : ∃ q, cons.length = q := ⟨_, rfl⟩
  obtain ⟨pn, hpn⟩ : ∃ q, pars.length = q := ⟨_, rfl⟩
  obtain ⟨dn, hdn⟩ : ∃ q, defs.length = q := ⟨_, rfl⟩
  obtain ⟨on_, hon⟩ : ∃ q, outs.length = q := ⟨_, rfl⟩
  have hsnI : (sn : Int) ≤ 140737488351232 := by have := hs.bytes; omega
  have hcnI : (cn : Int) ≤ 140737488351232 := by have := hcn.bytes; omega
  have hpnI : (pn : Int) ≤ 140737488351232 := by have := hpp.bytes; omega
  have hdnI : (dn : Int) ≤ 140737488351232 := by have := hd.bytes; omega
  have honI : (on_ : Int) ≤ 140737488351232 := by have := ho.bytes; omega
  rw [hsn] at hs hp
  rw [hcnn] at hcn hp
  rw [hpn] at hpp hp
  rw [hdn] at hd hp
  rw [hon] at ho hp
  rw [hsn, hcnn, hpn, hdn, hon]
  have HPG := Lib.hid hp
  have HS := Lib.hid hs
  have HC := Lib.hid hcn
  have HP := Lib.hid hpp
  have HD := Lib.hid hd
  have HO := Lib.hid ho
  have HSN := Lib.hid hsn
  have HCN := Lib.hid hcnn
  have HPN := Lib.hid hpn
  have HDN := Lib.hid hdn
  have HON := Lib.hid hon
  clear hs hcn hpp hd ho hsn hcnn hpn hdn hon hp

  rw [HSN.out, HCN.out, HPN.out, HDN.out, HON.out] at HIH2 HFO2 HRE2
  clear HPG HS HC HP HD HO HSN HCN HPN HDN HON
  have HU := Lib.hid ((((Up.refl w).alloc (.cells #[.slice sa sn sc, .slice ca cn cc, .slice pa pn pc, .slice da dn dc, .slice oa on_ oc] 27)).alloc (.cells #[.int .i64 op, .string nm, .int .i64 A, .int .i64 d, .int .i64 t0, .int .i64 t1, .int .i64 t2, .int .i64 t3, .int .i64 t4, .int .i64 K, .slice la ln lc, .slice xa xn xc, .slice ra rn rc] 48)).alloc (.cells #[.int .i64 0, .int .i64 0, .int .i64 0, .int .i64 0, .int .i64 0] 38))
  have HBP := Lib.hid (((BoxC.new w 27 #[.slice sa sn sc, .slice ca cn cc, .slice pa pn pc, .slice da dn dc, .slice oa on_ oc]).up ((Up.refl _).alloc (.cells #[.int .i64 op, .string nm, .int .i64 A, .int .i64 d, .int .i64 t0, .int .i64 t1, .int .i64 t2, .int .i64 t3, .int .i64 t4, .int .i64 K, .slice la ln lc, .slice xa xn xc, .slice ra rn rc] 48))).up ((Up.refl _).alloc (.cells #[.int .i64 0, .int .i64 0, .int .i64 0, .int .i64 0, .int .i64 0] 38)))
  have HBE := Lib.hid ((BoxC.new2 w (.cells #[.slice sa sn sc, .slice ca cn cc, .slice pa pn pc, .slice da dn dc, .slice oa on_ oc] 27) 48 #[.int .i64 op, .string nm, .int .i64 A, .int .i64 d, .int .i64 t0, .int .i64 t1, .int .i64 t2, .int .i64 t3, .int .i64 t4, .int .i64 K, .slice la ln lc, .slice xa xn xc, .slice ra rn rc]).up ((Up.refl _).alloc (.cells #[.int .i64 0, .int .i64 0, .int .i64 0, .int .i64 0, .int .i64 0] 38)))
  have HBT := Lib.hid (BoxC.new3 w (.cells #[.slice sa sn sc, .slice ca cn cc, .slice pa pn pc, .slice da dn dc, .slice oa on_ oc] 27) (.cells #[.int .i64 op, .string nm, .int .i64 A, .int .i64 d, .int .i64 t0, .int .i64 t1, .int .i64 t2, .int .i64 t3, .int .i64 t4, .int .i64 K, .slice la ln lc, .slice xa xn xc, .slice ra rn rc] 48) 38 #[.int .i64 0, .int .i64 0, .int .i64 0, .int .i64 0, .int .i64 0])
  have hg1 : w.heap.size ≤ w.heap.size + 2 := by omega
  have HG2 := Lib.hid hg1
  clear hg1
  have HR20 : Hid (rn ≤ 3) := Lib.hid (by have := HAR.out; unfold argsN at this; (repeat' split at this) <;> omega)
  go_enter Tryz.func64, Tryz.ntmps64
  go_wp2
  go_loopw [8, 9] (fun lv iv y => ∃ (i : Nat) (L : List Typ), iv = .int .i64 i ∧ i ≤ rn ∧ L.length = i ∧ FA (args.take i) ∧ Up w y ∧ BoxC y w.heap.size 27 #[.slice sa sn sc, .slice ca cn cc, .slice pa pn pc, .slice da dn dc, .slice oa on_ oc] ∧ BoxC y (w.heap.size + 1) 48 #[.int .i64 op, .string nm, .int .i64 A, .int .i64 d, .int .i64 t0, .int .i64 t1, .int .i64 t2, .int .i64 t3, .int .i64 t4, .int .i64 K, .slice la ln lc, .slice xa xn xc, .slice ra rn rc] ∧ BoxC y (w.heap.size + 2) 38 #[.int .i64 0, .int .i64 0, .int .i64 0, .int .i64 0, .int .i64 0] ∧ OwnR 5 typQ (w.heap.size + 3) 38 y lv L) (fun _ iv _ => rn - (intOf iv).toNat)
  case atStart => exact ⟨0, [], rfl, Nat.zero_le _, rfl, HF0.out, HU.out, HBP.out, HBE.out, HBT.out, OwnL.nil⟩
  case round =>
    clear HU HBP HBE HBT HF0
    rename World => y
    obtain ⟨i, L, rfl, hi, hL, hQ, hup, hb1, hb2, hb3, how⟩ := hrel
    obtain ⟨va, vc, rfl⟩ := how.shape
    rw [hL] at how ⊢
    have HLE := Lib.hid hL
    have HU := Lib.hid hup
    have HQ := Lib.hid hQ
    have HBP := Lib.hid hb1
    have HBE := Lib.hid hb2
    have HBT := Lib.hid hb3
    have HOW := Lib.hid how
    have e12 : y.cell? ⟨w.heap.size + 1, 12, none⟩ = some (.slice ra rn rc) := cell_of_row _ _ _ _ _ _ hb2
    have esz := hb2.lt
    clear hup hQ hb1 hb2 hb3 how hL
    by_cases hlt : i < rn
    · have hltI : (i : Int) < rn := by omega
      have hi1 : i < args.length := by rw [HRN.out]; exact hlt
      obtain ⟨ga, oa2, cs, rfl, hga, hca, hra⟩ := HR.out.row (exR_k n) i hi1
      have gas := Nat.lt_of_lt_of_le hga HU.out.size
      have HLD := Lib.hid (fun z (hz : Up y z) => run_ex hca.1 (hra z (HU.out.trans hz)))
      have HLP := Lib.hid (fun z (hz : Up y z) => prog_load rfl (HBP.out.up hz))
      have HCL := Lib.hid (fun z (hz : Up y z) => HIH2.out args[i] (.agg cs) z ((HW.out.trans HU.out).trans hz) (hca.ex.up (HU.out.trans hz)) (HNA.out i hi1))
      have HFN := Lib.hid (HFS.out i hi1)
      generalize PR args[i] = PI at *
      clear hi1 hra hca hga
      go_upto_region 5 with fail
      refine wp_region_late 12 10 _ (fun _ _ v _ => ∃ (t : Typ) (f : Int), v = .tuple #[typV t, .int .i64 f] ∧ (f = 0 → PI)) (by kernel_rfl) (by kernel_rfl) rfl ?_
      simp only [List.take_succ_cons, List.take_zero, List.drop_succ_cons, List.drop_zero]
      refine wpMk_load anti_post HLP.out (by rfl) ?_
      simp only [Act.put, List.setIfInBounds_toArray, List.set_cons_succ, List.set_cons_zero]
      iterate 5 (refine wpMk_quiet anti_post (by kernel_rfl) ?_; go_big_quiet_step (fail); refine wpQuiet_nil ?_)
      refine wpMk_load anti_post HLD.out (by rfl) ?_
      simp only [Act.put, List.setIfInBounds_toArray, List.set_cons_succ, List.set_cons_zero]
      refine wpMk_enter anti_post 64 #[.agg #[.slice sa sn sc, .slice ca cn cc, .slice pa pn pc, .slice da dn dc, .slice oa on_ oc], vv, .agg cs] (fun v x y h hu => h) (by kernel_rfl) (fun x => by go_simp) (fun x hx => (HCL.out x hx).mono fun e w' ⟨t, f, h1, h2, h3⟩ => ⟨_, h1, h2, t, f, rfl, h3⟩) ?_
      rintro v ⟨y', hy', t, f, rfl, hf⟩
      simp only [Act.put, List.setIfInBounds_toArray, List.set_cons_succ, List.set_cons_zero]
      iterate 3 (refine wpMk_quiet anti_post (by kernel_rfl) ?_; go_big_quiet_step (fail); refine wpQuiet_nil ?_)
      refine wpMk_alloc anti_post #[.int .i64 0, .int .i64 0, .int .i64 0, .int .i64 0, .int .i64 0] 38 (by kernel_rfl) (fun x => by go_simp) ?_
      intro g hg
      simp only [Act.put, List.setIfInBounds_toArray, List.set_cons_succ, List.set_cons_zero]
      refine wpMk_nil ?_
      rintro z hz ⟨-, hPA⟩
      have HBG := Lib.hid (show BoxC z g 38 #[.int .i64 0, .int .i64 0, .int .i64 0, .int .i64 0, .int .i64 0] from hPA)
      have HZ := Lib.hid hz
      have HFF := Lib.hid hf
      have HGG := Lib.hid hg
      clear hPA hz hf hy' hg e12 esz gas HLD HLP HCL
      have HST := Lib.hid (put_typ HBG.out rfl t)
      refine outL_store HST.out (by rfl) (by rfl) ?_
      simp only [Act.put]
      have HUR := Lib.hid ((Up.refl y).trans (HZ.out.row (g := g) HGG.out (typC t)))
      have HB3 := Lib.hid (HBG.out.row (typC t))
      generalize z.setRow g (typC t) = z3 at *
      have HU3 := Lib.hid (HU.out.trans HUR.out)
      have HP3 := Lib.hid (HBP.out.up HUR.out)
      have HE3 := Lib.hid (HBE.out.up HUR.out)
      have HT3 := Lib.hid (HBT.out.up HUR.out)
      have HO3 := Lib.hid (OwnL.up (fun _ _ _ _ h _ => h) HOW.out HUR.out)
      clear HUR HBG HZ HST HU HBP HBE HBT HOW
      by_cases hf0 : f = 0
      · subst hf0
        have HLB := Lib.hid (run_typ (cs := typC t) rfl HB3.out.range)
        have HSL := Lib.hid (fun (W : World) => LsAt.laid (W := W) (k := 5) (B := 40) (R := fun _ => typQ) (E := 38) (cs := typC t) (x := t) rfl (by decide) (typQ_C t))
        have HLT : Hid (i < 3) := Lib.hid (by have := HR20.out; omega)
        go_wp2_with (first
          | (refine st_load HLB.out (by rfl) ?_)
          | (at_builtin; refine st_app (mm := 1) rowT_typ typQ_one HLE.out (by rfl) (H := OwnL.up (fun _ _ _ _ h _ => h) HO3.out ((Up.refl _).alloc _)) (S := HSL.out _) (by have := HLT.out; omega) (by decide) (by have := HT3.out.lt; simp only [World.size_alloc]; omega) (by rfl) (by rfl) ?_; intro ua uc w3 h1 h2 h3; have HR4 := Lib.hid h1; have HU4 := Lib.hid ((HU3.out.alloc _).grown' h2 fun k e => by have := HO3.out.base k e; omega); have HP4 := Lib.hid ((HP3.out.up ((Up.refl _).alloc _)).kept h2 (fun e => by have := HO3.out.base _ e.symm; omega)); have HE4 := Lib.hid ((HE3.out.up ((Up.refl _).alloc _)).kept h2 (fun e => by have := HO3.out.base _ e.symm; omega)); have HT4 := Lib.hid ((HT3.out.up ((Up.refl _).alloc _)).kept h2 (fun e => by have := HO3.out.base _ e.symm; omega)); clear h1 h2 h3))
        go_roundw
        case rel => exact ⟨i + 1, L ++ [t], by go_num, by omega, by rw [List.length_append, HLE.out]; rfl, HFN.out HQ.out (HFF.out rfl), HU4.out, HP4.out, HE4.out, HT4.out, HR4.out⟩
        case measure => simp [intOf]; omega
      · have e1 : (f == 0) = false := by simpa using hf0
        have e2 : (f != 0) = true := by simpa using hf0
        have HF0 := Lib.hid hf0
        have HPT := Lib.hid (put_typ HT3.out rfl (0, 0, 0, 0, 0))
        have HLR := Lib.hid (run_typV (cs := typC (0, 0, 0, 0, 0)) rfl (HT3.out.row (typC (0, 0, 0, 0, 0))).range)
        clear hf0
        go_wp2_with (refine st_store HPT.out (by rfl) (by rfl) ?_)
        refine bodyPost_ret ?_ rfl (ret_zero HU3.out HG2.out HF0.out)
        exact results_c2 (by rfl) (by rfl) (by rfl) HLR.out
    · have hltI : ¬ (i : Int) < rn := by omega
      have hir : i = rn := by omega
      have HQF : Hid (FA args) := Lib.hid (by have := HQ.out; rw [List.take_of_length_le (by rw [HRN.out]; omega)] at this; exact this)
      have HLF : Hid (L.length = rn) := Lib.hid (by rw [HLE.out]; exact hir)
      have e0 : y.cell? ⟨w.heap.size + 1, 0, none⟩ = some (.int .i64 op) := cell_of_row _ _ _ _ _ _ HBE.out
      by_cases h1 : op = 1
      · subst h1
        have HOK : Hid (PR E) := Lib.hid (HRD2.out HQF.out (fun h => absurd h (by decide)))
        have HLT := Lib.hid (run_typ (w := y) (g := w.heap.size + 1) (o := 4) (cs := typC (t0, t1, t2, t3, t4)) rfl (HBE.out.sub 4 5))
        have HPT := Lib.hid (put_typ HBT.out rfl (t0, t1, t2, t3, t4))
        have HLR := Lib.hid (run_typV (cs := typC (t0, t1, t2, t3, t4)) rfl (HBT.out.row (typC (t0, t1, t2, t3, t4))).range)
        go_wp2_with (first | (refine st_store HPT.out (by rfl) (by rfl) ?_) | (refine st_load HLT.out (by rfl) ?_))
        refine bodyPost_ret (v := .tuple #[typV (t0, t1, t2, t3, t4), .int .i64 0]) ?_ rfl ⟨(t0, t1, t2, t3, t4), 0, rfl, HU.out.row HG2.out _, fun _ => HOK.out⟩
        exact results_c2 (by rfl) (by rfl) (by rfl) HLR.out
      by_cases h12 : op = 12
      · subst h12
        have HOK : Hid (PR E) := Lib.hid (HRD2.out HQF.out (fun h => absurd h (by decide)))
        have HLT := Lib.hid (run_typ (w := y) (g := w.heap.size + 1) (o := 4) (cs := typC (t0, t1, t2, t3, t4)) rfl (HBE.out.sub 4 5))
        have HPT := Lib.hid (put_typ HBT.out rfl (t0, t1, t2, t3, t4))
        have HLR := Lib.hid (run_typV (cs := typC (t0, t1, t2, t3, t4)) rfl (HBT.out.row (typC (t0, t1, t2, t3, t4))).range)
        go_wp2_with (first | (refine st_store HPT.out (by rfl) (by rfl) ?_) | (refine st_load HLT.out (by rfl) ?_))
        refine bodyPost_ret (v := .tuple #[typV (t0, t1, t2, t3, t4), .int .i64 0]) ?_ rfl ⟨(t0, t1, t2, t3, t4), 0, rfl, HU.out.row HG2.out _, fun _ => HOK.out⟩
        exact results_c2 (by rfl) (by rfl) (by rfl) HLR.out
      by_cases h2 : op = 2
      · subst h2
        have HOK : Hid (PR E) := Lib.hid (HRD2.out HQF.out (fun h => absurd h (by decide)))
        have HLP := Lib.hid (prog_load rfl HBP.out)
        have e9 : y.cell? ⟨w.heap.size + 1, 9, none⟩ = some (.int .i64 K) := cell_of_row _ _ _ _ _ _ HBE.out
        have e10 : y.cell? ⟨w.heap.size + 1, 10, none⟩ = some (.slice la ln lc) := cell_of_row _ _ _ _ _ _ HBE.out
        go_wp2_with (refine st_load HLP.out (by rfl) ?_)
        have HA := Lib.hid (HU.out.alloc (.cells #[.int .i64 K, .slice la ln lc] 44))
        have hl1 : LsAt 2 32 linR (y.alloc (.cells #[.int .i64 K, .slice la ln lc] 44)) (.slice (some ⟨y.heap.size, 0, none⟩) 1 1) [(K, ms)] := LsAt.laid rfl (by decide) ⟨rfl, HL.out.up monR_up HA.out⟩
        refine (HFO2.out (.slice (some ⟨y.heap.size, 0, none⟩) 1 1) [(K, ms)] _ HA.out hl1).mono ?_
        rintro e' z ⟨rfl, hz⟩
        have HU9 := Lib.hid (HA.out.trans hz)
        have HT9 := Lib.hid (HBT.out.up (((Up.refl y).alloc (.cells #[.int .i64 K, .slice la ln lc] 44)).trans hz))
        obtain ⟨f, hf⟩ : ∃ f : Int, (if FP [(K, ms)] then (0 : Int) else 9) = f := ⟨_, rfl⟩
        rw [hf]
        clear hf hz hl1 HA
        have HPT := Lib.hid (put_typ HT9.out rfl (3, 0, 0, 0, 0))
        have HLR := Lib.hid (run_typV (cs := typC (3, 0, 0, 0, 0)) rfl (HT9.out.row (typC (3, 0, 0, 0, 0))).range)
        go_wp2_with (refine st_store HPT.out (by rfl) (by rfl) ?_)
        refine bodyPost_ret (v := .tuple #[typV (3, 0, 0, 0, 0), .int .i64 f]) ?_ rfl ⟨(3, 0, 0, 0, 0), f, rfl, HU9.out.row HG2.out _, fun _ => HOK.out⟩
        exact results_c2 (by rfl) (by rfl) (by rfl) HLR.out
      by_cases h3 : op = 3
      · subst h3
        have HOK : Hid (FR → PR E) := Lib.hid (fun h => HRD2.out HQF.out (fun _ => h))
        have HLP := Lib.hid (prog_load rfl HBP.out)
        have HLX := Lib.hid (run_ex (cs := #[.int .i64 3, .string nm, .int .i64 A, .int .i64 d, .int .i64 t0, .int .i64 t1, .int .i64 t2, .int .i64 t3, .int .i64 t4, .int .i64 K, .slice la ln lc, .slice xa xn xc, .slice ra rn rc]) rfl HBE.out.range)
        go_wp2_with (first | (refine st_load HLP.out (by rfl) ?_) | (refine st_load HLX.out (by rfl) ?_))
        refine (HRE2.out _ HU.out).mono ?_
        rintro e' z ⟨t, f, rfl, hz, hf⟩
        have HU9 := Lib.hid (HU.out.trans hz)
        have HT9 := Lib.hid (HBT.out.up hz)
        have HFF := Lib.hid hf
        clear hz hf
        have HPT := Lib.hid (put_typ HT9.out rfl t)
        have HLR := Lib.hid (run_typV (cs := typC t) rfl (HT9.out.row (typC t)).range)
        go_wp2_with (refine st_store HPT.out (by rfl) (by rfl) ?_)
        refine bodyPost_ret (v := .tuple #[typV t, .int .i64 f]) ?_ rfl ⟨t, f, rfl, HU9.out.row HG2.out _, fun h => HOK.out (HFF.out h)⟩
        exact results_c2 (by rfl) (by rfl) (by rfl) HLR.out
      by_cases h11 : op = 11
      · subst h11
        obtain rfl : rn = 3 := by have := HAR.out; simp [argsN] at this; omega
        subst hir
        have HOK : Hid (PR E) := Lib.hid (HRD2.out HQF.out (fun h => absurd h (by decide)))
        obtain ⟨lg, lo, lc2, hle, hlg, hlk⟩ := own_typ HLF.out (by decide) (by decide) HOW.out
        simp only [Value.slice.injEq] at hle
        obtain ⟨rfl, -, rfl⟩ := hle
        obtain ⟨⟨a0, a1, a2, a3, a4⟩, ha⟩ := hlk 1 (by decide)
        obtain ⟨⟨b0, b1, b2, b3, b4⟩, hb⟩ := hlk 2 (by decide)
        obtain ⟨q, hq⟩ := run_neq_ty a0 a1 a2 a3 a4 b0 b1 b2 b3 b4
        have HLA := Lib.hid ha
        have HLB := Lib.hid hb
        clear ha hb hlk
        go_upto_region 16 with fail
        refine wp_region_ext (by kernel_rfl) (by kernel_rfl) ?_
        iterate 2 (go_big_quiet_step (fail))
        refine wpQuiet_load (fun z hz => by obtain ⟨j, rfl⟩ := hz; exact HLA.out _ j.up) (by rfl) ?_
        simp only [Act.put, List.setIfInBounds_toArray, List.set_cons_succ, List.set_cons_zero]
        iterate 2 (go_big_quiet_step (fail))
        refine wpQuiet_load (fun z hz => by obtain ⟨j, rfl⟩ := hz; exact HLB.out _ j.up) (by rfl) ?_
        simp only [Act.put, List.setIfInBounds_toArray, List.set_cons_succ, List.set_cons_zero]
        repeat (go_big_quiet_step (fail))
        refine wpQuiet_nil ?_
        intro z hz
        have HU9 := Lib.hid (HU.out.trans hz)
        have HE9 := Lib.hid (HBE.out.up hz)
        have HT9 := Lib.hid (HBT.out.up hz)
        have HLA9 := Lib.hid (HLA.out z hz)
        have e0 : z.cell? ⟨w.heap.size + 1, 0, none⟩ = some (.int .i64 11) := cell_of_row _ _ _ _ _ _ HE9.out
        have esz := HE9.out.lt
        clear hz hq HLA HLB HOW
        cases q
        · have HPT := Lib.hid (put_typ HT9.out rfl (a0, a1, a2, a3, a4))
          have HLR := Lib.hid (run_typV (cs := typC (a0, a1, a2, a3, a4)) rfl (HT9.out.row (typC (a0, a1, a2, a3, a4))).range)
          go_wp2_with (first | (refine st_store HPT.out (by rfl) (by rfl) ?_) | (refine st_load HLA9.out (by rfl) ?_))
          refine bodyPost_ret (v := .tuple #[typV (a0, a1, a2, a3, a4), .int .i64 0]) ?_ rfl ⟨(a0, a1, a2, a3, a4), 0, rfl, HU9.out.row HG2.out _, fun _ => HOK.out⟩
          exact results_c2 (by rfl) (by rfl) (by rfl) HLR.out
        · have HPT := Lib.hid (put_typ HT9.out rfl (0, 0, 0, 0, 0))
          have HLR := Lib.hid (run_typV (cs := typC (0, 0, 0, 0, 0)) rfl (HT9.out.row (typC (0, 0, 0, 0, 0))).range)
          go_wp2_with (refine st_store HPT.out (by rfl) (by rfl) ?_)
          refine bodyPost_ret (v := .tuple #[typV (0, 0, 0, 0, 0), .int .i64 10]) ?_ rfl ⟨(0, 0, 0, 0, 0), 10, rfl, HU9.out.row HG2.out _, fun h => absurd h (by decide)⟩
          exact results_c2 (by rfl) (by rfl) (by rfl) HLR.out
      by_cases h8 : op = 8
      · subst h8
        obtain rfl : rn = 1 := by have := HAR.out; simp [argsN] at this; omega
        subst hir
        have HOK : Hid (PR E) := Lib.hid (HRD2.out HQF.out (fun h => absurd h (by decide)))
        obtain ⟨lg, lo, lc2, hle, hlg, hlk⟩ := own_typ HLF.out (by decide) (by decide) HOW.out
        simp only [Value.slice.injEq] at hle
        obtain ⟨rfl, -, rfl⟩ := hle
        obtain ⟨t, ha⟩ := hlk 0 (by decide)
        have HLA9 := Lib.hid (ha y (Up.refl y))
        clear ha hlk HOW
        have HPT := Lib.hid (put_typ HBT.out rfl t)
        have HLR := Lib.hid (run_typV (cs := typC t) rfl (HBT.out.row (typC t)).range)
        go_wp2_with (first | (refine st_store HPT.out (by rfl) (by rfl) ?_) | (refine st_load HLA9.out (by rfl) ?_))
        refine bodyPost_ret (v := .tuple #[typV t, .int .i64 0]) ?_ rfl ⟨t, 0, rfl, HU.out.row HG2.out _, fun _ => HOK.out⟩
        exact results_c2 (by rfl) (by rfl) (by rfl) HLR.out
      have HN3 := Lib.hid h3
      have e_1 : (op == 1) = false := by simpa using h1
      have e_12 : (op == 12) = false := by simpa using h12
      have e_2 : (op == 2) = false := by simpa using h2
      have e_3 : (op == 3) = false := by simpa using h3
      have e_11 : (op == 11) = false := by simpa using h11
      have e_8 : (op == 8) = false := by simpa using h8
      have HOK : Hid (PR E) := Lib.hid (HRD2.out HQF.out (fun h => absurd h HN3.out))
      have HH : Hid (op ≠ 1 ∧ op ≠ 12 ∧ op ≠ 2 ∧ op ≠ 3 ∧ op ≠ 11 ∧ op ≠ 8) := Lib.hid ⟨h1, h12, h2, h3, h11, h8⟩
      clear h1 h12 h2 h3 h11 h8
      by_cases h16 : 16 ≤ op
      · have hd : decide (16 ≤ op) = true := decide_eq_true h16
        clear h16
        have HPT := Lib.hid (put_typ HBT.out rfl (0, 0, 0, 0, 0))
        have HLR := Lib.hid (run_typV (cs := typC (0, 0, 0, 0, 0)) rfl (HBT.out.row (typC (0, 0, 0, 0, 0))).range)
        go_wp2_with (refine st_store HPT.out (by rfl) (by rfl) ?_)
        refine bodyPost_ret (v := .tuple #[typV (0, 0, 0, 0, 0), .int .i64 0]) ?_ rfl ⟨(0, 0, 0, 0, 0), 0, rfl, HU.out.row HG2.out _, fun _ => HOK.out⟩
        exact results_c2 (by rfl) (by rfl) (by rfl) HLR.out
      · have hd : decide (16 ≤ op) = false := decide_eq_false h16
        obtain rfl : rn = 2 := by
          obtain ⟨k1, k12, k2, k3, k11, k8⟩ := HH.out
          have h5 := HAR.out
          have h6 : argsN op = 2 := by unfold argsN; rw [if_neg (by omega), if_neg (by omega), if_neg (by omega)]
          rw [h6] at h5
          omega
        subst hir
        clear h16
        obtain ⟨lg, lo, lc2, hle, hlg, hlk⟩ := own_typ HLF.out (by decide) (by decide) HOW.out
        simp only [Value.slice.injEq] at hle
        obtain ⟨rfl, -, rfl⟩ := hle
        obtain ⟨⟨a0, a1, a2, a3, a4⟩, ha⟩ := hlk 0 (by decide)
        obtain ⟨⟨b0, b1, b2, b3, b4⟩, hb⟩ := hlk 1 (by decide)
        obtain ⟨q, hq⟩ := run_neq_ty a0 a1 a2 a3 a4 b0 b1 b2 b3 b4
        have HLA := Lib.hid ha
        have HLB := Lib.hid hb
        clear ha hb hlk
        go_upto_region 23 with fail
        refine wp_region_ext (by kernel_rfl) (by kernel_rfl) ?_
        iterate 2 (go_big_quiet_step (fail))
        refine wpQuiet_load (fun z hz => by obtain ⟨j, rfl⟩ := hz; exact HLA.out _ j.up) (by rfl) ?_
        simp only [Act.put, List.setIfInBounds_toArray, List.set_cons_succ, List.set_cons_zero]
        iterate 2 (go_big_quiet_step (fail))
        refine wpQuiet_load (fun z hz => by obtain ⟨j, rfl⟩ := hz; exact HLB.out _ j.up) (by rfl) ?_
        simp only [Act.put, List.setIfInBounds_toArray, List.set_cons_succ, List.set_cons_zero]
        repeat (go_big_quiet_step (fail))
        refine wpQuiet_nil ?_
        intro z hz
        have HU9 := Lib.hid (HU.out.trans hz)
        have HE9 := Lib.hid (HBE.out.up hz)
        have HT9 := Lib.hid (HBT.out.up hz)
        have HLA9 := Lib.hid (HLA.out z hz)
        have e0 : z.cell? ⟨w.heap.size + 1, 0, none⟩ = some (.int .i64 op) := cell_of_row _ _ _ _ _ _ HE9.out
        have esz := HE9.out.lt
        clear hz hq HLA HLB HOW
        cases q
        · by_cases h13 : 13 ≤ op
          · have hd3 : decide (13 ≤ op) = true := decide_eq_true h13
            clear h13
            have HPT := Lib.hid (put_typ HT9.out rfl (0, 0, 0, 0, 0))
            have HLR := Lib.hid (run_typV (cs := typC (0, 0, 0, 0, 0)) rfl (HT9.out.row (typC (0, 0, 0, 0, 0))).range)
            go_wp2_with (refine st_store HPT.out (by rfl) (by rfl) ?_)
            refine bodyPost_ret (v := .tuple #[typV (0, 0, 0, 0, 0), .int .i64 0]) ?_ rfl ⟨(0, 0, 0, 0, 0), 0, rfl, HU9.out.row HG2.out _, fun _ => HOK.out⟩
            exact results_c2 (by rfl) (by rfl) (by rfl) HLR.out
          · have hd3 : decide (13 ≤ op) = false := decide_eq_false h13
            clear h13
            have HPT := Lib.hid (put_typ HT9.out rfl (a0, a1, a2, a3, a4))
            have HLR := Lib.hid (run_typV (cs := typC (a0, a1, a2, a3, a4)) rfl (HT9.out.row (typC (a0, a1, a2, a3, a4))).range)
            go_wp2_with (first | (refine st_store HPT.out (by rfl) (by rfl) ?_) | (refine st_load HLA9.out (by rfl) ?_))
            refine bodyPost_ret (v := .tuple #[typV (a0, a1, a2, a3, a4), .int .i64 0]) ?_ rfl ⟨(a0, a1, a2, a3, a4), 0, rfl, HU9.out.row HG2.out _, fun _ => HOK.out⟩
            exact results_c2 (by rfl) (by rfl) (by rfl) HLR.out
        · have HPT := Lib.hid (put_typ HT9.out rfl (0, 0, 0, 0, 0))
          have HLR := Lib.hid (run_typV (cs := typC (0, 0, 0, 0, 0)) rfl (HT9.out.row (typC (0, 0, 0, 0, 0))).range)
          go_wp2_with (refine st_store HPT.out (by rfl) (by rfl) ?_)
          refine bodyPost_ret (v := .tuple #[typV (0, 0, 0, 0, 0), .int .i64 10]) ?_ rfl ⟨(0, 0, 0, 0, 0), 10, rfl, HU9.out.row HG2.out _, fun h => absurd h (by decide)⟩
          exact results_c2 (by rfl) (by rfl) (by rfl) HLR.out
theorem r17_node (N n : Nat) (w0 : World) (pv vv : Value) (p : Pg) (vs : List ByteArray) (hp : ProgAt N w0 pv p) (hb : ∀ d ∈ p.defs, d.dims.length ≤ 1500) (hvv : LsAt 1 16 strR w0 vv vs) :
    ∀ (e : Ex) (v : Value) (w : World) (hw : Up w0 w) (hv : ExAt n w v e) (hN : ∀ x ∈ nodes e, NodeP x), Calls Tryz.prog 64 #[pv, vv, v] w fun e' w' => TypQ (ReadsP p e) w e' w' := by
  induction n with
  | zero => intro e v w hw hv; obtain ⟨_, _, h⟩ := hv; exact h.elim
  | succ n ih => exact fun e v w hw hv hN => node_step N n w0 pv vv p vs hp hb hvv ih e v w hw hv hN
end Go.Proofs.YtpccaifhcmcegaaGreat
