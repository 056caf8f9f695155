/-
  RemoveDead of the reference 20. Printed by mkDgX.py.
-/
import Derived.Test.YtpccaifhcmcegaaDgR
import Derived.Test.YtpccaifhcmcegaaDgN
import Derived.Test.YtpccaifhcmcegaaDgY
namespace Go.Proofs.Ytpccaifhcmcegaa
set_option linter.unusedSimpArgs false
open Go.ChangeShapes Go.WideShapes Go.ChangeAt Go.RowKit
set_option linter.unusedVariables false
set_option maxRecDepth 100000

/-- The reading turned. -/
theorem LsAt.turn {α : Type} {k B : Nat} {R S : Rel α} {w : World} {v : Value} {l : List α} (h : LsAt k B R w v l) (hRS : ∀ f e, R w f e → S w f e) : LsAt k B S w v l :=
  let ⟨h1, h2, F, h3, h4⟩ := h
  ⟨h1, h2, F, h3, fun i hi => hRS _ _ (h4 i hi)⟩
theorem defQ_one {N : Nat} {w0 : World} : ∀ (f : Nat → Value) x, defR N w0 f x → ∀ j, j < 22 → (f j).oneCell' = true := fun f x h => (defR_k N).one w0 f x h
/-- A row of definitions of the call's own. -/
abbrev OwnD (N : Nat) (w0 : World) (base : Nat) (w : World) (v : Value) (l : List Df) : Prop := OwnR 22 (defR N w0) base 59 w v l
theorem OwnD.ls {N : Nat} {w0 w : World} {base : Nat} {v : Value} {l : List Df} (h : OwnD N w0 base w v l) (hl : l.length ≤ 1000000) : LsAt 22 272 (fun _ => defR N w0) w v l := OwnL.ls h (by decide) (by omega)
theorem OwnD.done {N : Nat} {w0 w : World} {base : Nat} {v : Value} {l : List Df} (h : OwnD N w0 base w v l) (hl : l.length ≤ 1000000) (u : Up w0 w) : LsAt 22 272 (defR N) w v l := (OwnD.ls h hl).turn fun _ _ h => defR_up N _ _ _ _ h u
/-- A program without its dead definitions. -/
noncomputable def rmF (p : Pg) : Pg := { p with defs := p.defs.filter fun d => has (rchF p p.outs) d.nm }
theorem filterD_take {L : List Df} {f : Df → Bool} {i n : Nat} (hn : L.length = n) (hi : i < n) : (L.take (i + 1)).filter f = if f (L[i]'(by omega)) = true then (L.take i).filter f ++ [L[i]'(by omega)] else (L.take i).filter f := by
  subst hn
  rw [List.take_succ_eq_append_getElem hi, List.filter_append]
  split
  · rename_i h; rw [List.filter_cons_of_pos h]; rfl
  · rename_i h; rw [List.filter_cons_of_neg h]; simp
theorem ProgAt.mk {N : Nat} {w : World} {v0 v1 v2 v3 v4 : Value} {p : Pg} (h0 : LsAt 1 16 strR w v0 p.sizes) (h1 : LsAt 3 40 conR w v1 p.cons) (h2 : LsAt 7 80 parR w v2 p.pars) (h3 : LsAt 22 272 (defR N) w v3 p.defs) (h4 : LsAt 1 16 strR w v4 p.outs) : ProgAt N w (.agg #[v0, v1, v2, v3, v4]) p :=
  ⟨v0, v1, v2, v3, v4, rfl, h0, h1, h2, h3, h4⟩
/-- A store into another block of the call's own leaves a row as it is. -/
theorem own_setR {α : Type} {k : Nat} {R0 : (Nat → Value) → α → Prop} {base g : Nat} {e t : TypeId} {w : World} {v : Value} {l : List α} {cs : Array Value} (h : OwnR k R0 base e w v l) (hb : BoxC w g t cs) (hg : g < base) (o : Nat) (u : Value) : OwnR k R0 base e (w.setCell ⟨g, o, none⟩ u) v l := by
  have hgr : w.grownBy (w.setCell ⟨g, o, none⟩ u) (some g) := ⟨rfl, rfl, rfl, by simp [World.setCell], fun k hk hne => Below.heap_setCell _ _ _ _ (fun e => hne (congrArg some e))⟩
  exact own_keptL h hgr fun g' hg' e => by
    have := h.base _ hg'
    cases e
    omega
theorem OwnL.lt0 {α : Type} {k : Nat} {R : Rel α} {base : Nat} {e : TypeId} {w : World} {v : Value} {l : List α} (h : OwnL k R base e w v l) : ∀ g, v.ownBlock = some g → g < w.heap.size := fun g hg => by
  obtain ⟨F, h1, _⟩ := h
  rcases h1.2 with ⟨rfl, _⟩ | ⟨g', cap, cur, rfl, _, hh, _⟩
  · cases hg
  · have e : g' = g := by simpa [Value.ownBlock] using hg
    rw [← e]
    exact (Array.getElem?_eq_some_iff.1 hh).1
theorem OwnR.from {α : Type} {k : Nat} {R0 : (Nat → Value) → α → Prop} {base B : Nat} {e : TypeId} {w : World} {v : Value} {l : List α} (h : OwnR k R0 base e w v l) (hB : B ≤ base) : OwnR k R0 B e w v l := let ⟨F, h1, h2⟩ := h; ⟨F, own_from h1 B hB, h2⟩
theorem prog_info : (Try.prog.info? 27).map (·.size) = some 5 := by kernel_rfl

set_option maxHeartbeats 16000000 in
theorem r20_RemoveDead (N : Nat) (p : Pg) (v : Value) (w : World) (hv : ProgAt N w v p) (hb : ∀ d ∈ p.defs, tot d.body ≤ 1500) (hsm : p.pars.length ≤ 40 ∧ p.defs.length ≤ 40) :
    Calls Try.prog 22 #[v] w fun e w' => ∃ u, e = .returned u ∧ Up w w' ∧ ProgAt N w' u (rmF p) := by
  obtain ⟨sa, sc, ca, cc, pa, pc, da, dc, oa, oc, rfl, hs, hcn, hp, hd, ho⟩ := hv.open
  obtain ⟨sizes, cons, pars, defs, outs⟩ := p
  dsimp only at *
  obtain ⟨sn, hsn⟩ : ∃ q, sizes.length = q := ⟨_, rfl⟩
  obtain ⟨cn, hcnn⟩ : ∃ q, cons.length = q := ⟨_, rfl⟩
  obtain ⟨pn, hpn⟩ : ∃ q, pars.length = q := ⟨_, rfl⟩
  obtain ⟨dn, hdn⟩ : ∃ q, defs.length = q := ⟨_, rfl⟩
  obtain ⟨on_, hon⟩ : ∃ q, outs.length = q := ⟨_, rfl⟩
  rw [hsn] at hs hv ⊢
  rw [hcnn] at hcn hv ⊢
  rw [hpn] at hp hv ⊢
  rw [hdn] at hd hv ⊢
  rw [hon] at ho hv ⊢
  have hdI : (dn : Int) ≤ 140737488351232 := by have := hd.bytes; rw [hdn] at this; omega
  have hpI : (pn : Int) ≤ 140737488351232 := by have := hp.bytes; rw [hpn] at this; omega
  have HV := Lib.hid hv
  have HS := Lib.hid hs
  have HC := Lib.hid hcn
  have HP := Lib.hid hp
  have HD := Lib.hid hd
  have HO := Lib.hid ho
  have HPN := Lib.hid hpn
  have HDN := Lib.hid hdn
  have HON := Lib.hid hon
  clear hs hcn hp hd ho hsn hcnn hpn hdn hon hv
  have HRC := Lib.hid (fun nv y (hy : Up w y) (hn : LsAt 1 16 strR y nv outs) => r20_Reachable N ⟨sizes, cons, pars, defs, outs⟩ _ nv outs y (HV.out.up hy) hn hb hsm)
  obtain ⟨R, hR⟩ : ∃ R, rchF ⟨sizes, cons, pars, defs, outs⟩ outs = R := ⟨_, rfl⟩
  have HRM : Hid (rmF ⟨sizes, cons, pars, defs, outs⟩ = ⟨sizes, cons, pars, defs.filter fun d => has R d.nm, outs⟩) := Lib.hid (by unfold rmF; rw [hR])
  rw [hR] at HRC
  obtain ⟨Q, hQ⟩ : ∃ Q, rmF ⟨sizes, cons, pars, defs, outs⟩ = Q := ⟨_, rfl⟩
  rw [hQ] at HRM ⊢
  clear hR hQ
  have HSM : Hid (dn ≤ 40) := Lib.hid (by rw [← HDN.out]; exact hsm.2)
  have hdn40 : (dn : Int) ≤ 40 := by have := HSM.out; omega
  clear hb hsm
  have HU0 : Hid (Up w (w.alloc (.cells #[.slice sa sn sc, .slice ca cn cc, .slice pa pn pc, .slice da dn dc, .slice oa on_ oc] 27))) := Lib.hid ((Up.refl w).alloc _)
  have HB0 := Lib.hid (BoxC.new w 27 #[.slice sa sn sc, .slice ca cn cc, .slice pa pn pc, .slice da dn dc, .slice oa on_ oc])
  have HU1 := Lib.hid (HU0.out.alloc (.cells #[.slice none 0 0, .slice none 0 0, .slice none 0 0, .slice none 0 0, .slice none 0 0] 27))
  have HB1 := Lib.hid (HB0.out.up ((Up.refl _).alloc (.cells #[.slice none 0 0, .slice none 0 0, .slice none 0 0, .slice none 0 0, .slice none 0 0] 27)))
  have HB2 := Lib.hid (BoxC.new (w.alloc (.cells #[.slice sa sn sc, .slice ca cn cc, .slice pa pn pc, .slice da dn dc, .slice oa on_ oc] 27)) 27 #[.slice none 0 0, .slice none 0 0, .slice none 0 0, .slice none 0 0, .slice none 0 0])
  rw [World.size_alloc] at HB2
  have HO1 := Lib.hid (HO.out.up strR_up HU1.out)
  go_enter Try.func22, Try.ntmps22
  go_upto_region 2 with (go_at_call 17; (with_reducible refine (HRC.out _ _ HU1.out HO1.out).mono ?_); rintro e' W1 ⟨u, rfl, hy, hu⟩; have HW1 := Lib.hid (HU1.out.trans hy); have HBP := Lib.hid (HB1.out.up hy); have HBR := Lib.hid (HB2.out.up hy); have HL1 := Lib.hid hu.1; clear hy hu)
  obtain ⟨p0, p1, p2, p3, p4⟩ := HBP.out.five
  have ps := HBP.out.lt
  have HFL := Lib.hid (run_fill (P := Try.prog) prog_info W1 (Z := #[.slice none 0 0, .slice none 0 0, .slice none 0 0, .slice none 0 0, .slice none 0 0]) (cs := #[.slice sa sn sc, .slice ca cn cc, .slice pa pn pc, .slice da dn dc, .slice oa on_ oc]) rfl rfl (by simp [Value.oneCell']))
  have HBN := Lib.hid (BoxC.new W1 27 #[.slice sa sn sc, .slice ca cn cc, .slice pa pn pc, .slice none 0 0, .slice oa on_ oc])
  go_wp2_with (refine st_store HFL.out (by rfl) (by rfl) ?_)
  clear HFL
  go_loopw [5] (fun iv wr => ∃ (i : Nat) (ov : Value), iv = .int .i64 i ∧ i ≤ dn ∧ Up W1 wr ∧ BoxC wr W1.heap.size 27 #[.slice sa sn sc, .slice ca cn cc, .slice pa pn pc, ov, .slice oa on_ oc] ∧ OwnD N w (W1.heap.size + 1) wr ov ((defs.take i).filter fun d => has R d.nm)) (fun iv _ => dn - (intOf iv).toNat)
  case atStart => exact ⟨0, .slice none 0 0, rfl, Nat.zero_le _, (Up.refl _).alloc _, HBN.out, OwnL.nil⟩
  case round =>
    rename World => wr
    obtain ⟨i, ov, rfl, hi, hup, hbx, hrow⟩ := hrel
    have HU := Lib.hid hup
    have HW := Lib.hid (HW1.out.trans hup)
    have HB := Lib.hid hbx
    clear p0 p1 p2 p3 p4 ps HBN
    have p3 : wr.cell? ⟨w.heap.size, 3, none⟩ = some (.slice da dn dc) := cell_of_row _ _ _ _ _ _ (HBP.out.up hup)
    have ps := (HBP.out.up hup).lt
    obtain ⟨U, hU⟩ : ∃ U, ((defs.take i).filter fun d => has R d.nm) = U := ⟨_, rfl⟩
    have HUE := Lib.hid hU
    have HLN : Hid (U.length ≤ 40) := Lib.hid (by rw [← hU]; have h1 := List.length_filter_le (fun d : Df => has R d.nm) (defs.take i); rw [List.length_take] at h1; have := HSM.out; omega)
    rw [hU] at hrow
    obtain ⟨va, vc, rfl⟩ := hrow.shape
    have HR := Lib.hid hrow
    obtain ⟨m, hm⟩ : ∃ m, U.length = m := ⟨_, rfl⟩
    rw [hm] at HR HLN HB hbx
    have HM := Lib.hid hm
    have q3 : wr.cell? ⟨W1.heap.size, 3, none⟩ = some (.slice va m vc) := cell_of_row _ _ _ _ _ _ hbx
    have qs := hbx.lt
    have qf := hbx.frozen
    clear hup hbx hrow hU hm
    by_cases hlt : i < dn
    · have hltI : (i : Int) < dn := by omega
      have hi1 : i < defs.length := by rw [HDN.out]; exact hlt
      obtain ⟨g, o, cs, rfl, hg, hcs, hld, -, hsz, hc⟩ := HD.out.def i hi1
      have HT := Lib.hid (filterD_take (f := fun d => has R d.nm) HDN.out hlt)
      rw [HUE.out] at HT
      obtain ⟨d, hx⟩ : ∃ d, defs[i] = d := ⟨_, rfl⟩
      have HT : Hid (((defs.take (i + 1)).filter fun d => has R d.nm) = if has R d.nm = true then U ++ [d] else U) := Lib.hid (by rw [← hx]; exact HT.out)
      rw [hx] at hcs hsz hc
      have HCS := Lib.hid hcs
      have HLD := Lib.hid hld
      obtain ⟨x, hnm⟩ : ∃ x, d.nm = x := ⟨_, rfl⟩
      rw [hnm] at HT hsz hc
      have hc1 := hc wr HW.out
      have hg' := Nat.lt_of_lt_of_le hg HW.out.size
      have HL := Lib.hid (HL1.out.up strR_up HU.out)
      obtain ⟨b1, hb1⟩ : ∃ b, has R x = b := ⟨_, rfl⟩
      have HB1' := Lib.hid hb1
      clear hx hsz hc hcs hld hnm hg hb1
      cases b1
      · have HE : Hid (((defs.take (i + 1)).filter fun d => has R d.nm) = U) := Lib.hid (by rw [HT.out, HB1'.out]; rfl)
        go_wp2_with (go_at_call 27; (with_reducible refine (base_Has x R _ _ HL.out false HB1'.out).mono ?_); rintro e' x' ⟨rfl, hx'⟩; rw [hx']; clear hx' x')
        go_roundw
        case rel => exact ⟨i + 1, _, by go_num, by omega, HU.out, HB.out, by rw [HE.out]; exact HR.out⟩
        case measure => simp [intOf]; omega
      · have HE : Hid (((defs.take (i + 1)).filter fun d => has R d.nm) = U ++ [d]) := Lib.hid (by rw [HT.out, HB1'.out]; rfl)
        go_upto_region 8 with (go_at_call 27; (with_reducible refine (base_Has x R _ _ HL.out true HB1'.out).mono ?_); rintro e' x' ⟨rfl, hx'⟩; rw [hx']; clear hx' x')
        refine wp_region_mk 8 (fun _ _ _ _ => False) (by kernel_rfl) (by kernel_rfl) ?_
        simp only [List.take_succ_cons, List.take_zero, List.drop_succ_cons, List.drop_zero]
        iterate 6 (refine wpMk_quiet anti_post (by kernel_rfl) ?_; go_big_quiet_step (fail); refine wpQuiet_nil ?_)
        refine wpMk_load anti_post (fun x hx => HLD.out x (HW.out.trans hx)) (by rfl) ?_
        simp only [Act.put, List.setIfInBounds_toArray, List.set_cons_succ, List.set_cons_zero]
        refine wpMk_build anti_post rowT_def (by decide) HCS.out.1 (by rfl) ?_
        intro bb hbb
        simp only [Act.put, List.setIfInBounds_toArray, List.set_cons_succ, List.set_cons_zero]
        refine wpMk_nil ?_
        rintro W2 hW2 ⟨-, hA⟩
        have HSL : Hid (LsAt 22 272 (fun _ => defR N w) W2 (.slice (some ⟨bb, 0, none⟩) 1 1) [d]) := Lib.hid (LsAt.blk HCS.out.1 (by decide) hA HCS.out.2)
        have HR2 := Lib.hid (OwnL.up (fun _ _ _ _ h _ => h) HR.out hW2)
        have HU2 := Lib.hid (HU.out.trans hW2)
        have HB2 := Lib.hid (HB.out.up hW2)
        clear hA hbb hW2 p3 ps q3 qs qf hc1 hg'
        go_wp2_with (at_builtin; refine st_app (mm := 1) rowT_def defQ_one HM.out (by rfl) (H := HR2.out) (S := HSL.out) (by have := HLN.out; omega) (by decide) (by have := HB2.out.lt; omega) (by rfl) (by rfl) ?_; intro ua uc w3 h1 h2 h3; have HR3 := Lib.hid h1; have HU3 := Lib.hid (HU2.out.grown' h2 fun k e => by have := HR.out.base k e; omega); have hb3 := HB2.out.kept h2 (fun e => by have := HR.out.base _ e.symm; omega); have HB3 := Lib.hid hb3; have q3 : w3.cell? ⟨W1.heap.size, 3, none⟩ = some (.slice va m vc) := (cell_of_row _ _ _ _ _ _ hb3); have qs := hb3.lt; have qf := hb3.frozen 3; clear h1 h2 h3 hb3)
        go_roundw
        case rel =>
          refine ⟨i + 1, .slice ua (m + 1) uc, by go_num, by omega, HU3.out.setCell (by show W1.heap.size ≤ W1.heap.size; exact Nat.le_refl _) _, set_heap HB3.out _, ?_⟩
          rw [HE.out]
          exact own_setR HR3.out HB3.out (Nat.lt_succ_self _) 3 _
        case measure => simp [intOf]; omega
    · obtain rfl : dn = i := by omega
      have HTK : Hid (defs.take dn = defs) := Lib.hid (List.take_of_length_le (by rw [HDN.out]; exact Nat.le_refl _))
      rw [HTK.out] at HUE
      obtain ⟨e0, e1, e2, e3, e4⟩ := HB.out.five
      have hr := HBR.out.up HU.out
      have HPT := Lib.hid (run_put (P := Try.prog) (k := 5) prog_info hr (cs := #[.slice sa sn sc, .slice ca cn cc, .slice pa pn pc, .slice va m vc, .slice oa on_ oc]) rfl rfl (by simp [Value.oneCell']))
      have HRB := Lib.hid (hr.row #[.slice sa sn sc, .slice ca cn cc, .slice pa pn pc, .slice va m vc, .slice oa on_ oc])
      clear hr q3 qf
      go_wp2_with (refine st_store HPT.out (by rfl) (by rfl) ?_)
      obtain ⟨f0, f1, f2, f3, f4⟩ := HRB.out.five
      have HUR := Lib.hid (HW.out.grown' (setRow_by wr (w.heap.size + 1) #[.slice sa sn sc, .slice ca cn cc, .slice pa pn pc, .slice va m vc, .slice oa on_ oc]) (fun k e => by cases e; exact Nat.le_succ _))
      have HSL : Hid (LsAt 22 272 (defR N) (wr.setRow (w.heap.size + 1) #[.slice sa sn sc, .slice ca cn cc, .slice pa pn pc, .slice va m vc, .slice oa on_ oc]) (.slice va m vc) U) := Lib.hid (by
        have h1 := own_keptL HR.out (setRow_by wr (w.heap.size + 1) #[.slice sa sn sc, .slice ca cn cc, .slice pa pn pc, .slice va m vc, .slice oa on_ oc]) (fun g hg e => by cases e; have := HR.out.base _ hg; have := HBR.out.lt; omega)
        exact OwnD.done h1 (by have := HLN.out; have := HM.out; omega) HUR.out)
      refine bodyPost_ret (v := .agg #[.slice sa sn sc, .slice ca cn cc, .slice pa pn pc, .slice va m vc, .slice oa on_ oc]) (by simp [results, Try.results22, go_sem, f0, f1, f2, f3, f4]) rfl ?_
      refine ⟨_, rfl, HUR.out, ?_⟩
      rw [HRM.out, HUE.out]
      exact ProgAt.mk (HS.out.up strR_up HUR.out) (HC.out.up conR_up HUR.out) (HP.out.up parR_up HUR.out) HSL.out (HO.out.up strR_up HUR.out)
end Go.Proofs.Ytpccaifhcmcegaa
