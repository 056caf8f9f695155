/-
  Joined by a program: SoH, SoI.
-/
import Derived.Test.YtpccaifhcmcegaaGreatHu
import Derived.Test.YtpccaifhcmcegaaGreatDgC4
import Derived.BigRegion
import Derived.Test.YtpccaifhcmcegaaGreatHf

section
namespace Go.Proofs.YtpccaifhcmcegaaGreat
set_option linter.unusedSimpArgs false
open Go.ChangeShapes Go.WideShapes Go.ChangeAt Go.RowKit
set_option linter.unusedVariables false
set_option maxRecDepth 100000

/-- A name is one of the parameters' or of the definitions'. -/
def findB (p : Pg) (s : ByteArray) : Bool := (p.pars.any fun x => decide (x.1 = s)) || p.defs.any fun d => decide (d.nm = s)
/-- A type, a slice of some length, and a bool. -/
def FindQ (r : Bool) (w : World) (e : Ending) (w' : World) : Prop := ∃ (t : Typ) (a : Option Addr) (n c : Nat), e = .returned (.tuple #[typV t, .slice a n c, .bool r]) ∧ Up w w'
theorem results_c3 {P : Program} {fn : Func} {tmps : Array Value} {a s s2 : Nat} {t : TypeId} {p : Addr} {v u u2 : Value} {w : World} (hr : fn.results = #[.cell a t, .tmp s, .tmp s2]) (ha : tmps.getD a undef = .pointer (some p)) (hs : tmps.getD s undef = u) (hs2 : tmps.getD s2 undef = u2) (hl : (loadVar t p).run P w = .ok v w) : (results fn tmps).run P w = .ok (.tuple #[v, u, u2]) w := by
  unfold results
  rw [hr]
  rw [Array.getD_eq_getD_getElem?] at ha hs hs2
  simp [ha, hs, hs2, hl, asAddr, Sem.run_bind, Sem.run_pure]
theorem typ_u : ∃ d, Tryz.prog.underlying 38 = some d ∧ d.isRow = true := ⟨_, Tryz.underlying38, rfl⟩
theorem typ_i : (Tryz.prog.info? 38).map (·.size) = some 5 := by kernel_rfl
theorem run_typV {w : World} {g o : Nat} {cs : Array Value} (hs : cs.size = 5) (hr : w.rangeAt g o cs.toList) : (loadVar 38 ⟨g, o, none⟩).run Tryz.prog w = .ok (.agg cs) w := by
  obtain ⟨d, h1, h2⟩ := typ_u
  have := run_loadVar_mid (P := Tryz.prog) w g o 38 cs.toList d hr h1 h2 (by rw [typ_i]; simp [hs])
  simpa using this
theorem run_typ {w : World} {g o : Nat} {cs : Array Value} (hs : cs.size = 5) (hr : w.rangeAt g o cs.toList) : (Instr.loadAt 38 (.pointer (some ⟨g, o, none⟩))).run Tryz.prog w = .ok (.agg cs) w :=
  let ⟨_, h1, h2⟩ := typ_u; run_cs h1 h2 typ_i hs hr
/-- The cells of a type. -/
abbrev typC (t : Typ) : Array Value := #[.int .i64 t.1, .int .i64 t.2.1, .int .i64 t.2.2.1, .int .i64 t.2.2.2.1, .int .i64 t.2.2.2.2]
theorem typC_one (t : Typ) : (typC t).all (·.oneCell') = true := by simp [typC, Value.oneCell']
/-- A box that takes a type. -/
theorem put_typ {w : World} {g : Nat} {t : TypeId} {Z : Array Value} (hb : BoxC w g t Z) (hz : Z.size = 5) (x : Typ) : (Instr.storeAt 38 (.pointer (some ⟨g, 0, none⟩)) (typV x)).run Tryz.prog w = .ok () (w.setRow g (typC x)) :=
  run_put (P := Tryz.prog) (k := 5) typ_i hb hz rfl (typC_one x)
theorem Up.row {a w : World} (h : Up a w) {g : Nat} (hg : a.heap.size ≤ g) (cs : Array Value) : Up a (w.setRow g cs) := h.grown' (setRow_by w g cs) (fun k e => by cases e; exact hg)
theorem BoxC.rowNe {w : World} {b g : Nat} {t : TypeId} {Z cs : Array Value} (h : BoxC w b t Z) (hne : b ≠ g) : BoxC (w.setRow g cs) b t Z := (setRow_other _ _ _ _ hne).trans h
/-- Values of one cell each. -/
def anyQ (k : Nat) (f : Nat → Value) (_ : Unit) : Prop := ∀ j, j < k → (f j).oneCell' = true
theorem anyQ_one (k : Nat) : ∀ (f : Nat → Value) x, anyQ k f x → ∀ j, j < k → (f j).oneCell' = true := fun _ _ h => h
/-- A parameter's type, as cells in a row. -/
theorem typR_range {w y : World} {g o : Nat} {f : Nat → Value} {t : Typ} (h : typR w f t) (hc : ∀ j, j < 5 → y.cell? ⟨g, o + j, none⟩ = some (f j)) : y.rangeAt g o (typC t).toList := by
  obtain ⟨h0, h1, h2, h3, h4⟩ := h
  intro j v hv
  have hj : j < 5 := by
    have := (List.getElem?_eq_some_iff.1 hv).1
    simpa using this
  rw [hc j hj]
  have hj2 : j = 0 ∨ j = 1 ∨ j = 2 ∨ j = 3 ∨ j = 4 := by omega
  rcases hj2 with rfl | rfl | rfl | rfl | rfl
  · rw [h0]; simpa using hv
  · rw [h1]; simpa using hv
  · rw [h2]; simpa using hv
  · rw [h3]; simpa using hv
  · rw [h4]; simpa using hv
theorem any_drop {α : Type} {l : List α} {f : α → Bool} {i n : Nat} (hn : l.length = n) (hi : i < n) : (l.drop i).any f = (f (l[i]'(by omega)) || (l.drop (i + 1)).any f) := by rw [drop_eq hn hi]; rfl

set_option maxHeartbeats 16000000 in
theorem r17_Find (N : Nat) (w : World) (pv : Value) (p : Pg) (s : ByteArray) (hp : ProgAt N w pv p) (hb : ∀ d ∈ p.defs, d.dims.length ≤ 1500) (r : Bool) (hr : findB p s = r) :
    Calls Tryz.prog 26 #[pv, .string s] w fun e w' => FindQ r w e w' := by
  obtain ⟨sa, sc, ca, cc, pa, pc, da, dc, oa, oc, rfl, hs, hcn, hpp, hd, ho⟩ := hp.open
  obtain ⟨sizes, cons, pars, defs, outs⟩ := p
  dsimp only at *
  obtain ⟨sn, hsn⟩ : ∃ q, sizes.length = q := ⟨_, rfl⟩
  obtain ⟨cn, hcnn⟩ : ∃ q, cons.length = q := ⟨_, rfl⟩
  obtain ⟨pn, hpn⟩ : ∃ q, pars.length = q := ⟨_, rfl⟩
  obtain ⟨dn, hdn⟩ : ∃ q, defs.length = q := ⟨_, rfl⟩
  obtain ⟨on_, hon⟩ : ∃ q, outs.length = q := ⟨_, rfl⟩
  have hsnI : (sn : Int) ≤ 140737488351232 := by have := hs.bytes; omega
  have hcnI : (cn : Int) ≤ 140737488351232 := by have := hcn.bytes; omega
  have hpnI : (pn : Int) ≤ 140737488351232 := by have := hpp.bytes; omega
  have hdnI : (dn : Int) ≤ 140737488351232 := by have := hd.bytes; omega
  have honI : (on_ : Int) ≤ 140737488351232 := by have := ho.bytes; omega
  rw [hsn] at hs hp
  rw [hcnn] at hcn hp
  rw [hpn] at hpp hp
  rw [hdn] at hd hp
  rw [hon] at ho hp
  rw [hsn, hcnn, hpn, hdn, hon]
  have HPG := Lib.hid hp
  have HS := Lib.hid hs
  have HC := Lib.hid hcn
  have HP := Lib.hid hpp
  have HD := Lib.hid hd
  have HO := Lib.hid ho
  have HSN := Lib.hid hsn
  have HCN := Lib.hid hcnn
  have HPN := Lib.hid hpn
  have HDN := Lib.hid hdn
  have HON := Lib.hid hon
  clear hs hcn hpp hd ho hsn hcnn hpn hdn hon hp

  have HDL := Lib.hid hb
  have HR0 : Hid (((pars.drop 0).any (fun x => decide (x.1 = s)) || defs.any fun d => decide (d.nm = s)) = r) := Lib.hid hr
  clear hb hr
  have HU := Lib.hid (((Up.refl w).alloc (.cells #[.slice sa sn sc, .slice ca cn cc, .slice pa pn pc, .slice da dn dc, .slice oa on_ oc] 27)).alloc (.cells #[.int .i64 0, .int .i64 0, .int .i64 0, .int .i64 0, .int .i64 0] 38))
  have HB := Lib.hid ((BoxC.new w 27 #[.slice sa sn sc, .slice ca cn cc, .slice pa pn pc, .slice da dn dc, .slice oa on_ oc]).up ((Up.refl _).alloc (.cells #[.int .i64 0, .int .i64 0, .int .i64 0, .int .i64 0, .int .i64 0] 38)))
  have HBT := Lib.hid (BoxC.new2 w (.cells #[.slice sa sn sc, .slice ca cn cc, .slice pa pn pc, .slice da dn dc, .slice oa on_ oc] 27) 38 #[.int .i64 0, .int .i64 0, .int .i64 0, .int .i64 0, .int .i64 0])
  go_enter Tryz.func26, Tryz.ntmps26
  go_wp2
  go_loopw [7] (fun iv y => ∃ i : Nat, iv = .int .i64 i ∧ i ≤ pn ∧ (((pars.drop i).any (fun x => decide (x.1 = s)) || defs.any fun d => decide (d.nm = s)) = r) ∧ Up w y ∧ BoxC y w.heap.size 27 #[.slice sa sn sc, .slice ca cn cc, .slice pa pn pc, .slice da dn dc, .slice oa on_ oc] ∧ BoxC y (w.heap.size + 1) 38 #[.int .i64 0, .int .i64 0, .int .i64 0, .int .i64 0, .int .i64 0]) (fun iv _ => pn - (intOf iv).toNat)
  case atStart => exact ⟨0, rfl, Nat.zero_le _, HR0.out, HU.out, HB.out, HBT.out⟩
  case round =>
    rename World => y
    obtain ⟨i, rfl, hi, hP, hup, hb, hbt⟩ := hrel
    have HUY := Lib.hid hup
    have HBY := Lib.hid hb
    have HTY := Lib.hid hbt
    have HPP := Lib.hid hP
    have b2 : y.cell? ⟨w.heap.size, 2, none⟩ = some (.slice pa pn pc) := cell_of_row _ _ _ _ _ _ hb
    have bs := hb.lt
    have ts := hbt.lt
    clear hup hb hbt hP HU HB HBT HR0
    by_cases hlt : i < pn
    · have hltI : (i : Int) < pn := by omega
      have hi1 : i < pars.length := by rw [HPN.out]; exact hlt
      obtain ⟨g, o, f, ma, mc, rfl, hg, hf, f0, f0s, f6, fd, hM⟩ := HP.out.pr i hi1
      have HAD := Lib.hid (any_drop (f := fun x : Par => decide (x.1 = s)) HPN.out hlt)
      obtain ⟨x, hx⟩ : ∃ x, pars[i] = x := ⟨_, rfl⟩
      rw [hx] at f0 f0s f6 fd hM
      have HAD : Hid ((pars.drop i).any (fun x => decide (x.1 = s)) = (decide (x.1 = s) || (pars.drop (i + 1)).any fun x => decide (x.1 = s))) := Lib.hid (by rw [HAD.out, hx])
      obtain ⟨nm, ⟨t0, t1, t2, t3, t4⟩, dims⟩ := x
      dsimp only at f0 f0s f6 fd hM HAD
      obtain ⟨-, ⟨g1, g2, g3, g4, g5⟩, -⟩ := fd
      obtain ⟨mn, hmn⟩ : ∃ q, dims.length = q := ⟨_, rfl⟩
      rw [hmn] at f6
      have c0 := cell_up' HUY.out hg (hf 0 (by decide))
      have c1 := cell_up' HUY.out hg (hf 1 (by decide))
      have c2 := cell_up' HUY.out hg (hf 2 (by decide))
      have c3 := cell_up' HUY.out hg (hf 3 (by decide))
      have c4 := cell_up' HUY.out hg (hf 4 (by decide))
      have c5 := cell_up' HUY.out hg (hf 5 (by decide))
      have c6 := cell_up' HUY.out hg (hf 6 (by decide))
      rw [f0, Nat.add_zero] at c0
      rw [show f 1 = _ from g1] at c1
      rw [show f 2 = _ from g2] at c2
      rw [show f 3 = _ from g3] at c3
      rw [show f 4 = _ from g4] at c4
      rw [show f 5 = _ from g5] at c5
      rw [f6] at c6
      have gs := Nat.lt_of_lt_of_le hg HUY.out.size
      have q := tl_eq nm s
      clear hi1 hx hf f0 f0s f6 g1 g2 g3 g4 g5 hmn hM hg
      by_cases e : nm = s
      · rw [decide_eq_true e] at q
        have HE : Hid (r = true) := Lib.hid (by rw [← HPP.out, HAD.out, decide_eq_true e]; rfl)
        obtain ⟨z0, z1, z2, z3, z4⟩ := HTY.out.five
        have zf := HTY.out.frozen
        clear e
        go_wp2
        go_region
        go_wp2
        refine bodyPost_ret (v := .tuple #[.agg #[.int .i64 t0, .int .i64 t1, .int .i64 t2, .int .i64 t3, .int .i64 t4], .slice ma mn mc, .bool true]) (by simp [results, Tryz.results26, go_sem, z0, z1, z2, z3, z4]) rfl ?_
        refine ⟨(t0, t1, t2, t3, t4), ma, mn, mc, by rw [HE.out], ?_⟩
        exact (((((HUY.out.setCell (p := ⟨w.heap.size + 1, 0, none⟩) (Nat.le_succ _) _).setCell (p := ⟨w.heap.size + 1, 1, none⟩) (Nat.le_succ _) _).setCell (p := ⟨w.heap.size + 1, 2, none⟩) (Nat.le_succ _) _).setCell (p := ⟨w.heap.size + 1, 3, none⟩) (Nat.le_succ _) _).setCell (p := ⟨w.heap.size + 1, 4, none⟩) (Nat.le_succ _) _).drewN 1
      · rw [decide_eq_false e] at q
        have HE : Hid (((pars.drop (i + 1)).any (fun x => decide (x.1 = s)) || defs.any fun d => decide (d.nm = s)) = r) := Lib.hid (by rw [← HPP.out, HAD.out, decide_eq_false e]; rfl)
        clear e c1 c2 c3 c4 c5 c6
        go_wp2
        go_roundw
        case rel => exact ⟨i + 1, by go_num, by omega, HE.out, HUY.out, HBY.out, HTY.out⟩
        case measure => simp [intOf]; omega
    · obtain rfl : pn = i := by omega
      have HPQ : Hid (((defs.drop 0).any fun d => decide (d.nm = s)) = r) := Lib.hid (by
        have e : pars.drop pn = [] := List.drop_of_length_le (by rw [HPN.out]; exact Nat.le_refl _)
        rw [← HPP.out, e]; rfl)
      have HV := Lib.hid HUY.out
      have HBV := Lib.hid HBY.out
      have HTV := Lib.hid HTY.out
      clear HUY HBY HTY HPP
      go_wp2
      clear b2 bs ts
      go_loopw [8] (fun iv y => ∃ i : Nat, iv = .int .i64 i ∧ i ≤ dn ∧ (((defs.drop i).any fun d => decide (d.nm = s)) = r) ∧ Up w y ∧ BoxC y w.heap.size 27 #[.slice sa sn sc, .slice ca cn cc, .slice pa pn pc, .slice da dn dc, .slice oa on_ oc] ∧ BoxC y (w.heap.size + 1) 38 #[.int .i64 0, .int .i64 0, .int .i64 0, .int .i64 0, .int .i64 0]) (fun iv _ => dn - (intOf iv).toNat)
      case atStart => exact ⟨0, rfl, Nat.zero_le _, HPQ.out, HV.out, HBV.out, HTV.out⟩
      case round =>
        rename World => y
        obtain ⟨i, rfl, hi, hP, hup, hb, hbt⟩ := hrel
        have HUY := Lib.hid hup
        have HBY := Lib.hid hb
        have HTY := Lib.hid hbt
        have HPP := Lib.hid hP
        have b3 : y.cell? ⟨w.heap.size, 3, none⟩ = some (.slice da dn dc) := cell_of_row _ _ _ _ _ _ hb
        have bs := hb.lt
        clear hup hb hbt hP HV HBV HTV HPQ
        by_cases hlt : i < dn
        · have hltI : (i : Int) < dn := by omega
          have hi1 : i < defs.length := by rw [HDN.out]; exact hlt
          obtain ⟨g, o, f, ma, mc, ra, rc, rfl, hg, hf, f0, f0s, f6, f7, fd, hM, hR, -⟩ := HD.out.df i hi1
          have HAD := Lib.hid (any_drop (f := fun d : Df => decide (d.nm = s)) HDN.out hlt)
          have HDM := Lib.hid (HDL.out _ (List.getElem_mem hi1))
          obtain ⟨x, hx⟩ : ∃ x, defs[i] = x := ⟨_, rfl⟩
          rw [hx] at f0 f0s f6 f7 fd hM HDM
          have HAD : Hid ((defs.drop i).any (fun d => decide (d.nm = s)) = (decide (x.nm = s) || (defs.drop (i + 1)).any fun d => decide (d.nm = s))) := Lib.hid (by rw [HAD.out, hx])
          obtain ⟨mn, hmn⟩ : ∃ q, x.dims.length = q := ⟨_, rfl⟩
          have hmnI : (mn : Int) ≤ 1500 := by have := HDM.out; omega
          rw [hmn] at f6 hM
          have HMS := Lib.hid hM
          have HMN := Lib.hid hmn
          have HTF : Hid (typR w (fun j => f (1 + j)) x.ty) := Lib.hid fd.2.1
          have HF1 := Lib.hid (fun z (hz : Up w z) j (hj : j < 5) => cell_up' hz hg (hf (1 + j) (by omega)))
          have HC6 := Lib.hid (fun z (hz : Up w z) => f6 ▸ cell_up' hz hg (hf 6 (by decide)))
          have hg0 := Lib.hid hg
          obtain ⟨nm, hnm⟩ : ∃ q, x.nm = q := ⟨_, rfl⟩
          rw [hnm] at f0 HAD
          have c0 := cell_up' HUY.out hg (hf 0 (by decide))
          rw [f0, Nat.add_zero] at c0
          have gs := Nat.lt_of_lt_of_le hg HUY.out.size
          have q := tl_eq nm s
          clear hi1 hx hf f0 f0s f6 f7 fd hM hR hmn hnm hg
          by_cases e : nm = s
          · rw [decide_eq_true e] at q
            have HE : Hid (r = true) := Lib.hid (by rw [← HPP.out, HAD.out, decide_eq_true e]; rfl)
            clear e HAD HPP
            go_wp2
            clear c0 b3 bs gs
            go_loopw [9, 10] (fun lv kv z => ∃ k : Nat, kv = .int .i64 k ∧ k ≤ mn ∧ Up w z ∧ BoxC z w.heap.size 27 #[.slice sa sn sc, .slice ca cn cc, .slice pa pn pc, .slice (some ⟨g, o, none⟩) dn dc, .slice oa on_ oc] ∧ BoxC z (w.heap.size + 1) 38 #[.int .i64 0, .int .i64 0, .int .i64 0, .int .i64 0, .int .i64 0] ∧ OwnR 2 (anyQ 2) (w.heap.size + 2) 44 z lv (List.replicate k ())) (fun _ kv _ => mn - (intOf kv).toNat)
            case atStart => exact ⟨0, rfl, Nat.zero_le _, HUY.out, HBY.out, HTY.out, OwnL.nil⟩
            case round =>
              rename World => z
              obtain ⟨k, rfl, hk, hup, hb, hbt, how⟩ := hrel
              obtain ⟨va, vc, rfl⟩ := how.shape
              have hrl : (List.replicate k ()).length = k := List.length_replicate
              rw [hrl]
              have HRL := Lib.hid hrl
              have HUZ := Lib.hid hup
              have HBZ := Lib.hid hb
              have HTZ := Lib.hid hbt
              have HOW : Hid (OwnR 2 (anyQ 2) (w.heap.size + 2) 44 z (.slice va k vc) (List.replicate k ())) := Lib.hid (by rw [hrl] at how; exact how)
              have b3 : z.cell? ⟨w.heap.size, 3, none⟩ = some (.slice (some ⟨g, o, none⟩) dn dc) := cell_of_row _ _ _ _ _ _ hb
              have bs := hb.lt
              have gs := Nat.lt_of_lt_of_le hg0.out hup.size
              have c6 := HC6.out z hup
              clear hup hb hbt how hrl HUY HBY HTY
              by_cases hlk : k < mn
              · have hlkI : (k : Int) < mn := by omega
                have hk1 : k < x.dims.length := by rw [HMN.out]; exact hlk
                obtain ⟨g2, o2, f2, rfl, hg2, hf2, -, h20, h21⟩ := HMS.out.elem k hk1
                replace h20 : f2 1 = _ := h20
                replace h21 : LsAt 2 24 monR w (f2 2) _ := h21
                generalize x.dims[k] = ax at h20 h21
                obtain ⟨an, K2, zl⟩ := ax
                dsimp only at h20 h21
                obtain ⟨za, zc, hz2, -⟩ := h21.shape
                obtain ⟨zn, hzn⟩ : ∃ q, zl.length = q := ⟨_, rfl⟩
                rw [hzn] at hz2
                have d1 := cell_up' HUZ.out hg2 (hf2 1 (by decide))
                have d2 := cell_up' HUZ.out hg2 (hf2 2 (by decide))
                rw [h20] at d1
                rw [hz2] at d2
                have gs2 := Nat.lt_of_lt_of_le hg2 HUZ.out.size
                have HSL := Lib.hid (fun (W : World) => LsAt.laid (W := W) (k := 2) (B := 32) (R := fun _ => anyQ 2) (E := 44) (cs := #[.int .i64 K2, .slice za zn zc]) (x := ()) rfl (by decide) (fun j hj => by
                  have hj2 : j = 0 ∨ j = 1 := by omega
                  rcases hj2 with rfl | rfl <;> rfl))
                have HKM : Hid (k < 1500) := Lib.hid (by omega)
                clear hk1 hg2 hf2 h20 h21 hz2 hzn
                go_wp2_with (at_builtin; refine st_app (mm := 1) rowT_lin (anyQ_one 2) HRL.out (by rfl) (H := OwnL.up (fun _ _ _ _ h _ => h) HOW.out ((Up.refl _).alloc _)) (S := HSL.out _) (by have := HKM.out; omega) (by decide) (by have := HTZ.out.lt; simp only [World.size_alloc]; omega) (by rfl) (by rfl) ?_; intro ua uc w3 h1 h2 h3; have HR3 := Lib.hid h1; have HU3 := Lib.hid ((HUZ.out.alloc _).grown' h2 fun k e => by have := HOW.out.base k e; omega); have HB3 := Lib.hid ((HBZ.out.up ((Up.refl _).alloc _)).kept h2 (fun e => by have := HOW.out.base _ e.symm; omega)); have HT3 := Lib.hid ((HTZ.out.up ((Up.refl _).alloc _)).kept h2 (fun e => by have := HOW.out.base _ e.symm; omega)); clear h1 h2 h3)
                go_roundw
                case rel => exact ⟨k + 1, by go_num, by omega, HU3.out, HB3.out, HT3.out, by rw [List.replicate_succ']; exact HR3.out⟩
                case measure => simp [intOf]; omega
              · have hlkI : ¬ (k : Int) < mn := by omega
                obtain ⟨t, ht⟩ : ∃ t, x.ty = t := ⟨_, rfl⟩
                rw [ht] at HTF
                have HLT := Lib.hid (run_typ (w := z) (g := g) (o := o + i * 22 + 1) (cs := typC t) rfl (typR_range HTF.out (fun j hj => by have := HF1.out z HUZ.out j hj; rw [show o + i * 22 + 1 + j = o + i * 22 + (1 + j) by omega]; exact this)))
                have HPT := Lib.hid (put_typ HTZ.out rfl t)
                have HLR := Lib.hid (run_typV (cs := typC t) rfl (HTZ.out.row (typC t)).range)
                have HUF := Lib.hid (HUZ.out.row (g := w.heap.size + 1) (Nat.le_succ _) (typC t))
                clear ht
                go_wp2_with (first | (refine st_load HLT.out (by rfl) ?_) | (refine st_store HPT.out (by rfl) (by rfl) ?_))
                refine bodyPost_ret (v := .tuple #[typV t, .slice va k vc, .bool true]) ?_ rfl ⟨t, va, k, vc, by rw [HE.out], HUF.out⟩
                exact results_c3 (by rfl) (by rfl) (by rfl) (by rfl) HLR.out
          · rw [decide_eq_false e] at q
            have HE : Hid (((defs.drop (i + 1)).any fun d => decide (d.nm = s)) = r) := Lib.hid (by rw [← HPP.out, HAD.out, decide_eq_false e]; rfl)
            clear e
            go_wp2
            go_roundw
            case rel => exact ⟨i + 1, by go_num, by omega, HE.out, HUY.out, HBY.out, HTY.out⟩
            case measure => simp [intOf]; omega
        · have hltI : ¬ (i : Int) < dn := by omega
          have HE : Hid (r = false) := Lib.hid (by rw [← HPP.out, List.drop_of_length_le (by rw [HDN.out]; omega)]; rfl)
          have HPT := Lib.hid (put_typ HTY.out rfl (0, 0, 0, 0, 0))
          have HLR := Lib.hid (run_typV (cs := typC (0, 0, 0, 0, 0)) rfl (HTY.out.row (typC (0, 0, 0, 0, 0))).range)
          have HUF := Lib.hid (HUY.out.row (g := w.heap.size + 1) (Nat.le_succ _) (typC (0, 0, 0, 0, 0)))
          go_wp2_with (refine st_store HPT.out (by rfl) (by rfl) ?_)
          refine bodyPost_ret (v := .tuple #[typV (0, 0, 0, 0, 0), .slice none 0 0, .bool false]) ?_ rfl ⟨(0, 0, 0, 0, 0), none, 0, 0, by rw [HE.out], HUF.out⟩
          exact results_c3 (by rfl) (by rfl) (by rfl) (by rfl) HLR.out
end Go.Proofs.YtpccaifhcmcegaaGreat
end

section
namespace Go.Proofs.YtpccaifhcmcegaaGreat
set_option linter.unusedSimpArgs false
open Go.ChangeShapes Go.WideShapes Go.ChangeAt Go.RowKit
set_option linter.unusedVariables false
set_option maxRecDepth 100000

/-- Some list of texts. -/
def NamesQ (w : World) (e : Ending) (w' : World) : Prop := ∃ (u : Value) (l : List ByteArray), e = .returned u ∧ Up w w' ∧ LsAt 1 16 strR w' u l
/-- A definition's parts, in an opaque box. -/
theorem DefAt.open {N : Nat} {w : World} {v : Value} {d : Df} (h : DefAt N w v d) : ∃ (cs : Array Value) (ma : Option Addr) (mc : Nat) (ra : Option Addr) (rc : Nat), v = .agg cs ∧ CsAt 22 (defR N) w cs d ∧ cs.size = 22 ∧ cs.getD 0 undef = .string d.nm ∧ d.nm.size ≤ maxLen ∧ cs.getD 6 undef = .slice ma d.dims.length mc ∧ cs.getD 7 undef = .slice ra d.red.length rc ∧ cs.getD 8 undef = .int .i64 d.fold ∧
    LsAt 3 48 axR w (.slice ma d.dims.length mc) d.dims ∧ LsAt 3 48 axR w (.slice ra d.red.length rc) d.red := by
  obtain ⟨cs, rfl, hc⟩ := h
  obtain ⟨hs, ⟨n0, n1⟩, _, hd, hr, hf, hb⟩ := id hc
  obtain ⟨ma, mc, e1, _⟩ := hd.shape
  obtain ⟨ra, rc, e2, _⟩ := hr.shape
  exact ⟨cs, ma, mc, ra, rc, rfl, hc, hs, n0, n1, e1, e2, hf, e1 ▸ hd, e2 ▸ hr⟩
theorem LsAt.axn {w : World} {a : Option Addr} {n c : Nat} {l : List Ax} (h : LsAt 3 48 axR w (.slice a n c) l) (i : Nat) (hi : i < l.length) :
    ∃ (g o : Nat) (s : ByteArray), a = some ⟨g, o, none⟩ ∧ g < w.heap.size ∧ s.size ≤ maxLen ∧ w.cell? ⟨g, o + i * 3, none⟩ = some (.string s) := by
  obtain ⟨g, o, f, h1, h2, h3, ⟨h4, h5⟩, _⟩ := h.elem i hi
  refine ⟨g, o, _, h1, h2, h5, ?_⟩
  rw [← Nat.add_zero (o + i * 3), h3 0 (by decide), h4]

set_option maxHeartbeats 16000000 in
theorem r17_IndexNames (N : Nat) (w : World) (v : Value) (d : Df) (hv : DefAt N w v d) (hd1 : d.dims.length ≤ 1500) (hd2 : d.red.length ≤ 1500) :
    Calls Tryz.prog 47 #[v] w fun e w' => NamesQ w e w' := by
  obtain ⟨cs, ma, mc, ra, rc, rfl, -, hs, -, -, h6, h7, -, hM, hR⟩ := hv.open
  clear hv
  obtain ⟨mn, hmn⟩ : ∃ q, d.dims.length = q := ⟨_, rfl⟩
  obtain ⟨rn, hrn⟩ : ∃ q, d.red.length = q := ⟨_, rfl⟩
  rw [hmn] at h6 hM hd1
  rw [hrn] at h7 hR hd2
  have hmI : (mn : Int) ≤ 1500 := by omega
  have hrI : (rn : Int) ≤ 1500 := by omega
  have HM := Lib.hid hM
  have HR := Lib.hid hR
  have HMN := Lib.hid hmn
  have HRN := Lib.hid hrn
  have HMB := Lib.hid hd1
  have HRB := Lib.hid hd2
  have HU := Lib.hid ((Up.refl w).alloc (.cells cs 50))
  have HB := Lib.hid (BoxC.new w 50 cs)
  have HX6 := Lib.hid (fun y (hy : BoxC y w.heap.size 50 cs) => hy.at h6 (by rw [hs]; decide))
  have HX7 := Lib.hid (fun y (hy : BoxC y w.heap.size 50 cs) => hy.at h7 (by rw [hs]; decide))
  clear hM hR hmn hrn h6 h7 hs hd1 hd2
  go_enter Tryz.func47, Tryz.ntmps47
  go_wp2
  go_loopw [3, 4] (fun ov iv y => ∃ (i : Nat) (L : List ByteArray), iv = .int .i64 i ∧ i ≤ mn ∧ L.length = i ∧ Up w y ∧ BoxC y w.heap.size 50 cs ∧ OwnS (w.heap.size + 1) y ov L) (fun _ iv _ => mn - (intOf iv).toNat)
  case atStart => exact ⟨0, [], rfl, Nat.zero_le _, rfl, HU.out, HB.out, OwnL.nil⟩
  case round =>
    rename World => y
    obtain ⟨i, L, rfl, hi, hL, hup, hb, how⟩ := hrel
    obtain ⟨va, vc, rfl⟩ := how.shape
    rw [hL] at how ⊢
    have HLN := Lib.hid hL
    have HUY := Lib.hid hup
    have HBY := Lib.hid hb
    have HOW := Lib.hid how
    have b6 := HX6.out y hb
    have bs := hb.lt
    clear hup hb how hL HU HB
    by_cases hlt : i < mn
    · have hltI : (i : Int) < mn := by omega
      have hi1 : i < d.dims.length := by rw [HMN.out]; exact hlt
      obtain ⟨g, o, s, rfl, hg, hsz, c0⟩ := HM.out.axn i hi1
      replace c0 := cell_up' HUY.out hg c0
      have gs := Nat.lt_of_lt_of_le hg HUY.out.size
      have HSZ := Lib.hid hsz
      clear hi1 hg hsz
      go_wp2_with (at_builtin; refine st_app (mm := 1) rowT_str strQ_one HLN.out (by rfl) (H := OwnL.up (fun _ _ _ _ h _ => h) HOW.out ((Up.refl _).alloc _)) (S := LsAt.one_str _ HSZ.out) (by have := HMB.out; omega) (by decide) (by have := HBY.out.lt; simp only [World.size_alloc]; omega) (by rfl) (by rfl) ?_; intro ua uc w2 h1 h2 h3; have HR2 := Lib.hid h1; have HU2 := Lib.hid ((HUY.out.alloc _).grown' h2 fun k e => by have := HOW.out.base k e; omega); have HB2 := Lib.hid ((HBY.out.up ((Up.refl _).alloc _)).kept h2 (fun e => by have := HOW.out.base _ e.symm; omega)); clear h1 h2 h3)
      go_roundw
      case rel => exact ⟨i + 1, L ++ [s], by go_num, by omega, by rw [List.length_append, HLN.out]; rfl, HU2.out, HB2.out, HR2.out⟩
      case measure => simp [intOf]; omega
    · obtain rfl : mn = i := by omega
      have HV := Lib.hid HUY.out
      have HBV := Lib.hid HBY.out
      have HOV := Lib.hid HOW.out
      have HLV := Lib.hid HLN.out
      clear HUY HBY HOW HLN
      go_wp2
      clear b6 bs
      go_loopw [3, 5] (fun ov iv y => ∃ (i : Nat) (L : List ByteArray), iv = .int .i64 i ∧ i ≤ rn ∧ L.length = mn + i ∧ Up w y ∧ BoxC y w.heap.size 50 cs ∧ OwnS (w.heap.size + 1) y ov L) (fun _ iv _ => rn - (intOf iv).toNat)
      case atStart => exact ⟨0, L, rfl, Nat.zero_le _, HLV.out, HV.out, HBV.out, HOV.out⟩
      case round =>
        rename World => y2
        obtain ⟨k, L2, rfl, hk, hL2, hup, hb, how⟩ := hrel
        obtain ⟨va2, vc2, rfl⟩ := how.shape
        rw [hL2] at how ⊢
        have HLN := Lib.hid hL2
        have HUY := Lib.hid hup
        have HBY := Lib.hid hb
        have HOW := Lib.hid how
        have b7 := HX7.out y2 hb
        have bs := hb.lt
        clear hup hb how hL2 HV HBV HOV
        by_cases hlk : k < rn
        · have hlkI : (k : Int) < rn := by omega
          have hk1 : k < d.red.length := by rw [HRN.out]; exact hlk
          obtain ⟨g, o, s, rfl, hg, hsz, c0⟩ := HR.out.axn k hk1
          replace c0 := cell_up' HUY.out hg c0
          have gs := Nat.lt_of_lt_of_le hg HUY.out.size
          have HSZ := Lib.hid hsz
          clear hk1 hg hsz
          go_wp2_with (at_builtin; refine st_app (mm := 1) rowT_str strQ_one HLN.out (by rfl) (H := OwnL.up (fun _ _ _ _ h _ => h) HOW.out ((Up.refl _).alloc _)) (S := LsAt.one_str _ HSZ.out) (by have := HMB.out; have := HRB.out; omega) (by decide) (by have := HBY.out.lt; simp only [World.size_alloc]; omega) (by rfl) (by rfl) ?_; intro ua uc w2 h1 h2 h3; have HR2 := Lib.hid h1; have HU2 := Lib.hid ((HUY.out.alloc _).grown' h2 fun k e => by have := HOW.out.base k e; omega); have HB2 := Lib.hid ((HBY.out.up ((Up.refl _).alloc _)).kept h2 (fun e => by have := HOW.out.base _ e.symm; omega)); clear h1 h2 h3)
          go_roundw
          case rel => exact ⟨k + 1, L2 ++ [s], by go_num, by omega, by rw [List.length_append, HLN.out]; rfl, HU2.out, HB2.out, HR2.out⟩
          case measure => simp [intOf]; omega
        · have hlkI : ¬ (k : Int) < rn := by omega
          have HLS := Lib.hid (OwnL.ls (B := 16) HOW.out (by decide) (by have := HMB.out; have := HRB.out; have := HLN.out; omega))
          go_wp2
          go_ret
          refine ⟨_, L2, rfl, HUY.out, ?_⟩
          have := LsAt.ofS HLS.out
          exact this

set_option maxHeartbeats 16000000 in
theorem r17_reduction (N : Nat) (w : World) (v : Value) (d : Df) (hv : DefAt N w v d) :
    Calls Tryz.prog 45 #[v] w fun e w' => ErrQ True w e w' := by
  obtain ⟨cs, ma, mc, ra, rc, rfl, -, hs, -, -, h6, h7, h8, -, -⟩ := hv.open
  clear hv
  have HU := Lib.hid ((Up.refl w).alloc (.cells cs 50))
  have hb := BoxC.new w 50 cs
  have b6 := hb.at h6 (by rw [hs]; decide)
  have b7 := hb.at h7 (by rw [hs]; decide)
  have b8 := hb.at h8 (by rw [hs]; decide)
  generalize d.dims.length = mn at *
  generalize d.red.length = rn at *
  generalize d.fold = fo at *
  clear hb h6 h7 h8 hs
  rcases (by omega : fo < 0 ∨ 5 < fo ∨ fo = 0 ∨ fo = 5 ∨ (0 ≤ fo ∧ fo ≤ 5 ∧ fo ≠ 0 ∧ fo ≠ 5)) with h | h | h | h | h
  · go_enter Tryz.func45, Tryz.ntmps45
    go_wp2
    go_ret
    exact ⟨_, rfl, HU.out, fun _ => trivial⟩
  · have h1 : decide (fo < 0) = false := decide_eq_false (by omega)
    go_enter Tryz.func45, Tryz.ntmps45
    go_wp2
    go_ret
    exact ⟨_, rfl, HU.out, fun _ => trivial⟩
  · subst h
    rcases Nat.eq_zero_or_pos rn with rfl | hr
    · go_enter Tryz.func45, Tryz.ntmps45
      go_wp2
      go_ret
      exact ⟨_, rfl, HU.out, fun _ => trivial⟩
    · have hr1 : ((rn : Int) == 0) = false := by simp; omega
      go_enter Tryz.func45, Tryz.ntmps45
      go_wp2
      go_ret
      exact ⟨_, rfl, HU.out, fun _ => trivial⟩
  · subst h
    rcases Nat.eq_zero_or_pos rn with rfl | hr
    · rcases Nat.eq_zero_or_pos mn with rfl | hm
      · go_enter Tryz.func45, Tryz.ntmps45
        go_wp2
        go_ret
        exact ⟨_, rfl, HU.out, fun _ => trivial⟩
      · have hm1 : ((mn : Int) == 0) = false := by simp; omega
        go_enter Tryz.func45, Tryz.ntmps45
        go_wp2
        go_ret
        exact ⟨_, rfl, HU.out, fun _ => trivial⟩
    · have hr1 : ((rn : Int) == 0) = false := by simp; omega
      go_enter Tryz.func45, Tryz.ntmps45
      go_wp2
      go_ret
      exact ⟨_, rfl, HU.out, fun _ => trivial⟩
  · obtain ⟨h1, h2, h3, h4⟩ := h
    have e1 : decide (fo < 0) = false := decide_eq_false (by omega)
    have e2 : decide (5 < fo) = false := decide_eq_false (by omega)
    have e3 : (fo == 0) = false := by simpa using h3
    have e4 : (fo == 5) = false := by simpa using h4
    rcases Nat.eq_zero_or_pos rn with rfl | hr
    · go_enter Tryz.func45, Tryz.ntmps45
      go_wp2
      go_ret
      exact ⟨_, rfl, HU.out, fun _ => trivial⟩
    · have hr1 : ((rn : Int) == 0) = false := by simp; omega
      go_enter Tryz.func45, Tryz.ntmps45
      go_wp2
      go_ret
      exact ⟨_, rfl, HU.out, fun _ => trivial⟩
end Go.Proofs.YtpccaifhcmcegaaGreat
end
