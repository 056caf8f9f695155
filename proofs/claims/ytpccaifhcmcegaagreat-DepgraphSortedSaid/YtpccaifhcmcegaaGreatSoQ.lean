/-
  The reference 17: Validate. Printed by mkSoQ.py.
-/
import Derived.Test.YtpccaifhcmcegaaGreatSoO
import Derived.Test.YtpccaifhcmcegaaGreatSoR
import Derived.Test.YtpccaifhcmcegaaGreatHy
namespace Go.Proofs.YtpccaifhcmcegaaGreat
set_option linter.unusedSimpArgs false
open Go.ChangeShapes Go.WideShapes Go.ChangeAt Go.RowKit
set_option linter.unusedVariables false
set_option maxRecDepth 100000

/-- A place and an error that grants P where it is none. -/
def ValQ (P : Prop) (w : World) (e : Ending) (w' : World) : Prop := ∃ i f : Int, e = .returned (.tuple #[.int .i64 i, .int .i64 f]) ∧ Up w w' ∧ (f = 0 → P)
theorem reads_found {p : Pg} {k : Nat} {e : Ex} (h : ReadsP (cutP p k) e) : ∀ s ∈ readsF e, has (p.pars.map (·.1)) s = true ∨ has ((p.defs.take k).map (·.nm)) s = true := fun s hs => by
  unfold readsF at hs
  rw [foldl_wth_mem] at hs
  have h1 : s ∈ namesE e := hs.resolve_left (by simp)
  unfold namesE at h1
  obtain ⟨x, hx, hx2⟩ := List.mem_flatMap.1 h1
  have h2 := h x hx s hx2
  unfold findB cutP at h2
  dsimp only at h2
  rw [Bool.or_eq_true, List.any_eq_true, List.any_eq_true] at h2
  rcases h2 with ⟨y, hy, e1⟩ | ⟨y, hy, e1⟩
  · exact .inl (has_mem.2 (List.mem_map.2 ⟨y, hy, of_decide_eq_true e1⟩))
  · exact .inr (has_mem.2 (List.mem_map.2 ⟨y, hy, of_decide_eq_true e1⟩))
theorem SmallP.bd {p : Pg} (h : SmallP p) : BdP p := fun d hd => by
  have h1 := sum_mem defW p.defs d hd
  have h2 := h.sum
  have h3 : defW d = d.dims.length + d.red.length + tot d.body := rfl
  omega
/-- One of two operations, by its outcome. -/
theorem stepZ_val {P : Program} {ops : Array Oper} {Q : Exit → Act → World → Prop} {md : Region.Mode} {S : World → Prop} {z i : Nat} {oi : Oper} {v : Value} {n : Nat} {l : Array Bool} {a : Act} {w w' : World} (hi : ops[i]? = some oi) (hw : Region.wanted oi (yielded ops a.tmps) = true)
    (hrun : (execOp a.eval oi).run P w = .ok (.value v) w') (hS : i ≠ z → S w') (h : AnyZ P md ops Q S z n (l.setIfInBounds i true) (a.put oi.dst v) w') : wpOp P ops Q i (fun a' w' => (i ≠ z → S w') ∧ AnyZ P md ops Q S z n (l.setIfInBounds i true) a' w') a w := by
  unfold wpOp
  simp only [hi, hw, if_true, Oper.wp, hrun, Oper.upon]
  exact .inl ⟨hS, h⟩
theorem stepZ_enter {P : Program} {ops : Array Oper} {Q : Exit → Act → World → Prop} {md : Region.Mode} {S : World → Prop} {z i : Nat} {oi : Oper} {n : Nat} {l : Array Bool} {a : Act} {w : World} {f : FuncId} {args : Array Value} (hi : ops[i]? = some oi) (hw : Region.wanted oi (yielded ops a.tmps) = true)
    (hrun : (execOp a.eval oi).run P w = .ok (.enter f args) w) (hc : Calls P f args w fun e w' => ∃ v, e = .returned v ∧ (i ≠ z → S w') ∧ AnyZ P md ops Q S z n (l.setIfInBounds i true) (a.put oi.dst v) w') : wpOp P ops Q i (fun a' w' => (i ≠ z → S w') ∧ AnyZ P md ops Q S z n (l.setIfInBounds i true) a' w') a w := by
  unfold wpOp
  simp only [hi, hw, if_true, Oper.wp, hrun]
  refine .inl ?_
  rw [Oper.upon_enter]
  exact hc.mono fun e x' ⟨v, he, h2, h3⟩ => by subst he; exact ⟨h2, h3⟩
/-- Two operations may come up. -/
theorem anyZ_two {P : Program} {ops : Array Oper} {Q : Exit → Act → World → Prop} {md : Region.Mode} {S : World → Prop} {z i j : Nat} {n : Nat} {l : Array Bool} {a : Act} {w : World} (hr : Region.ready md ops l = [i, j])
    (h1 : wpOp P ops Q i (fun a' w' => (i ≠ z → S w') ∧ AnyZ P md ops Q S z n (l.setIfInBounds i true) a' w') a w)
    (h2 : wpOp P ops Q j (fun a' w' => (j ≠ z → S w') ∧ AnyZ P md ops Q S z n (l.setIfInBounds j true) a' w') a w) : AnyZ P md ops Q S z (n + 1) l a w :=
  ⟨fun h0 => absurd (hr ▸ h0) (by simp), fun k hk => by
    rw [hr] at hk
    rcases List.mem_cons.1 hk with rfl | hk
    · exact h1
    · obtain rfl := List.mem_singleton.1 hk
      exact h2⟩
theorem exec_load {P : Program} {T : TypeId} {p V : Value} {a : Act} {w : World} (hrun : (Instr.loadAt T p).run P w = .ok V w) {dst : Option Nat} {x : Operand} {ty : TypeId} {pos : String} {af : Array Edge} (hx : a.eval x = p) :
    (execOp a.eval { dst := dst, op := .load T x, type := ty, pos := pos, after := af, guard := none }).run P w = .ok (.value V) w := by
  unfold execOp
  simp only [hx, hrun, Sem.run_bind, Sem.run_pure, Result.andThen_ok]
theorem exec_store {P : Program} {T : TypeId} {p V : Value} {a : Act} {w w' : World} (hrun : (Instr.storeAt T p V).run P w = .ok () w') {dst : Option Nat} {x y : Operand} {ty : TypeId} {pos : String} {af : Array Edge} (hx : a.eval x = p) (hy : a.eval y = V) :
    (execOp a.eval { dst := dst, op := .store T x y, type := ty, pos := pos, after := af, guard := none }).run P w = .ok .skip w' := by
  unfold execOp
  simp only [hx, hy, hrun, Sem.run_bind, Sem.run_pure, Result.andThen_ok]
set_option maxHeartbeats 32000000 in
theorem r17_Validate (N : Nat) (w : World) (pv : Value) (p : Pg) (hp : ProgAt N w pv p) (hsm : SmallP p) :
    Calls Tryz.prog 7 #[pv] w fun e w' => ValQ (∀ k (hk : k < p.defs.length), defOk p k p.defs[k]) w e w' := by
  have HSZ := Lib.hid (fun y (hy : Up w y) => r17_sizes N y pv p (hp.up hy) hsm.pars hsm.defs hsm.outs hsm.cons)
  have HDF := Lib.hid (fun y (hy : Up w y) k (hk : k < p.defs.length) tv tk (htk : LsAt 1 16 strR y tv tk) => r17_def N y pv tv p k tk (hp.up hy) hsm.bd (by have := hsm.sizes; omega) hk htk)
  have HFD := Lib.hid (fun s y (hy : Up w y) => r17_Find N y pv p s (hp.up hy) (fun d hd => (hsm.bd d hd).1) _ rfl)
  obtain ⟨FB, hFB⟩ : ∃ F : ByteArray → Bool, findB p = F := ⟨_, rfl⟩
  rw [hFB] at HFD
  obtain ⟨GO, hGO⟩ : ∃ G : Prop, (∀ k (hk : k < p.defs.length), defOk p k p.defs[k]) = G := ⟨_, rfl⟩
  rw [hGO]
  have HGO : Hid ((∀ k (hk : k < p.defs.length), defOk p k p.defs[k]) → GO) := Lib.hid (fun h => hGO ▸ h)
  have HOKD : Hid (∀ k (hk : k < p.defs.length), has (p.sizes ++ p.pars.map (·.1) ++ (p.defs.take k).map (·.nm)) p.defs[k].nm = false ∧ ReadsP (cutP p k) p.defs[k].body → defOk p k p.defs[k]) := Lib.hid (fun k hk h => ⟨h.1, reads_found h.2⟩)
  have h40p := hsm.pars
  have h40d := hsm.defs
  have h40o := hsm.outs
  have h80s := hsm.sizes
  clear hFB hGO hsm
  have HRDP : Hid (∀ k e, ReadsP (cutP p k) e = ReadsP (cutP p k) e) := Lib.hid (fun _ _ => rfl)
  clear HRDP
  obtain ⟨RD, hRD⟩ : ∃ R : Nat → Ex → Prop, (fun k e => ReadsP (cutP p k) e) = R := ⟨_, rfl⟩
  have HDF2 : Hid (∀ v', v' = pv → ∀ y, Up w y → ∀ k (hk : k < p.defs.length) tv tk, LsAt 1 16 strR y tv tk → Calls Tryz.prog 25 #[v', .int .i64 k, tv] y fun e w' => ErrQ (has tk p.defs[k].nm = false ∧ RD k p.defs[k].body) y e w') := Lib.hid (by rintro v' rfl; rw [← hRD]; exact HDF.out)
  have HOKE : Hid (∀ k (hk : k < p.defs.length), has (p.sizes ++ p.pars.map (·.1) ++ (p.defs.take k).map (·.nm)) p.defs[k].nm = false ∧ RD k p.defs[k].body → defOk p k p.defs[k]) := Lib.hid (by rw [← hRD]; exact HOKD.out)
  clear hRD HDF HOKD
  obtain ⟨DO, hDO⟩ : ∃ D : Nat → Df → Prop, defOk p = D := ⟨_, rfl⟩
  rw [hDO] at HOKE HGO
  clear hDO
  obtain ⟨sa, sc, ca, cc, pa, pc, da, dc, oa, oc, rfl, hs, hcn, hpp, hd, ho⟩ := hp.open
  obtain ⟨sizes, cons, pars, defs, outs⟩ := p
  dsimp only at *
  obtain ⟨sn, hsn⟩ : ∃ q, sizes.length = q := ⟨_, rfl⟩
  obtain ⟨cn, hcnn⟩ : ∃ q, cons.length = q := ⟨_, rfl⟩
  obtain ⟨pn, hpn⟩ : ∃ q, pars.length = q := ⟨_, rfl⟩
  obtain ⟨dn, hdn⟩ : ∃ q, defs.length = q := ⟨_, rfl⟩
  obtain ⟨on_, hon⟩ : ∃ q, outs.length = q := ⟨_, rfl⟩
  have hsnI : (sn : Int) ≤ 140737488351232 := by have := hs.bytes; omega
  have hcnI : (cn : Int) ≤ 140737488351232 := by have := hcn.bytes; omega
  have hpnI : (pn : Int) ≤ 140737488351232 := by have := hpp.bytes; omega
  have hdnI : (dn : Int) ≤ 140737488351232 := by have := hd.bytes; omega
  have honI : (on_ : Int) ≤ 140737488351232 := by have := ho.bytes; omega
  rw [hsn] at hs hp
  rw [hcnn] at hcn hp
  rw [hpn] at hpp hp
  rw [hdn] at hd hp
  rw [hon] at ho hp
  rw [hsn, hcnn, hpn, hdn, hon]
  have HPG := Lib.hid hp
  have HS := Lib.hid hs
  have HC := Lib.hid hcn
  have HP := Lib.hid hpp
  have HD := Lib.hid hd
  have HO := Lib.hid ho
  have HSN := Lib.hid hsn
  have HCN := Lib.hid hcnn
  have HPN := Lib.hid hpn
  have HDN := Lib.hid hdn
  have HON := Lib.hid hon
  clear hs hcn hpp hd ho hsn hcnn hpn hdn hon hp

  rw [HSN.out, HCN.out, HPN.out, HDN.out, HON.out] at HSZ HFD
  have HDF := Lib.hid (HDF2.out (.agg #[.slice sa sn sc, .slice ca cn cc, .slice pa pn pc, .slice da dn dc, .slice oa on_ oc]) (by rw [HSN.out, HCN.out, HPN.out, HDN.out, HON.out]))
  clear HDF2
  rw [HPN.out] at h40p
  rw [HDN.out] at h40d
  rw [HON.out] at h40o
  rw [HSN.out] at h80s
  have H40P := Lib.hid h40p
  have H40D := Lib.hid h40d
  have H40O := Lib.hid h40o
  have H80S := Lib.hid h80s
  have hp40I : (pn : Int) ≤ 40 := by omega
  have hd40I : (dn : Int) ≤ 40 := by omega
  have ho40I : (on_ : Int) ≤ 40 := by omega
  clear h40p h40d h40o h80s
  have HU := Lib.hid ((Up.refl w).alloc (.cells #[.slice sa sn sc, .slice ca cn cc, .slice pa pn pc, .slice da dn dc, .slice oa on_ oc] 27))
  have HB := Lib.hid (BoxC.new w 27 #[.slice sa sn sc, .slice ca cn cc, .slice pa pn pc, .slice da dn dc, .slice oa on_ oc])
  have HLP := Lib.hid (fun y (hy : BoxC y w.heap.size 27 #[.slice sa sn sc, .slice ca cn cc, .slice pa pn pc, .slice da dn dc, .slice oa on_ oc]) => prog_load rfl hy)
  have HL0 := Lib.hid (HLP.out _ HB.out)
  go_enter Tryz.func7, Tryz.ntmps7
  go_wp2_with (refine st_load HL0.out (by rfl) ?_)
  refine (HSZ.out _ HU.out).mono ?_
  rintro e y ⟨f, rfl, hy, -⟩
  have HU1 := Lib.hid (HU.out.trans hy)
  have HB1 := Lib.hid (HB.out.up hy)
  clear hy HL0 HU HB HSZ
  by_cases hf0 : f = 0
  case neg =>
    have e1 : (f == 0) = false := by simpa using hf0
    have e2 : (f != 0) = true := by simpa using hf0
    have HF0 := Lib.hid hf0
    clear hf0
    go_wp2
    go_ret2
    exact ⟨_, f, rfl, HU1.out, fun h => absurd h HF0.out⟩
  case pos =>
  subst hf0
  go_wp2
  go_loopw [5] (fun iv y => ∃ i : Nat, iv = .int .i64 i ∧ i ≤ cn ∧ Up w y ∧ BoxC y w.heap.size 27 #[.slice sa sn sc, .slice ca cn cc, .slice pa pn pc, .slice da dn dc, .slice oa on_ oc]) (fun iv _ => cn - (intOf iv).toNat)
  case atStart => exact ⟨0, rfl, Nat.zero_le _, HU1.out, HB1.out⟩
  case round =>
    clear HU1 HB1
    rename World => y
    obtain ⟨i, rfl, hi, hup, hb⟩ := hrel
    have HUY := Lib.hid hup
    have HBY := Lib.hid hb
    have b1 : y.cell? ⟨w.heap.size, 1, none⟩ = some (.slice ca cn cc) := cell_of_row _ _ _ _ _ _ hb
    have b0 : y.cell? ⟨w.heap.size, 0, none⟩ = some (.slice sa sn sc) := cell_of_row _ _ _ _ _ _ hb
    have bs := hb.lt
    clear hup hb
    by_cases hlt : i < cn
    · have hltI : (i : Int) < cn := by omega
      have hi1 : i < cons.length := by rw [HCN.out]; exact hlt
      obtain ⟨g, o, fx, rfl, hg, hf, ⟨k0, k1⟩, -⟩ := HC.out.elem i hi1
      generalize cons[i] = cx at k0 k1
      obtain ⟨⟨K, zl⟩, eq⟩ := cx
      dsimp only at k0 k1
      obtain ⟨za, zc, hz2, -⟩ := k1.shape
      obtain ⟨zn, hzn⟩ : ∃ q, zl.length = q := ⟨_, rfl⟩
      rw [hz2] at k1
      rw [hzn] at hz2 k1
      have c0 := cell_up' HUY.out hg (hf 0 (by decide))
      have c1 := cell_up' HUY.out hg (hf 1 (by decide))
      rw [k0, Nat.add_zero] at c0
      rw [hz2] at c1
      have gs := Nat.lt_of_lt_of_le hg HUY.out.size
      have HKL := Lib.hid k1
      have HFO := Lib.hid (fun z (hz : Up w z) => r17_form z (.agg #[.int .i64 K, .slice za zn zc]) (.slice sa sn sc) (K, zl) sizes ⟨_, rfl, rfl, rfl, HKL.out.up monR_up hz⟩ (HS.out.up strR_up hz) _ rfl)
      dsimp only at HFO
      obtain ⟨f, hf1⟩ : ∃ q, formE zl sizes = q := ⟨_, rfl⟩
      rw [hf1] at HFO
      clear hi1 hf k0 k1 hz2 hzn hf1 hg
      go_upto_region 7 with fail
      refine wp_region_ext (by kernel_rfl) (by kernel_rfl) ?_
      repeat (go_big_quiet_step ((go_at_call 23; exact Calls.ext_of (HFO.out _ (HUY.out.trans (Ext.up _))))))
      refine wpQuiet_nil ?_
      intro z hz
      have HUZ := Lib.hid (HUY.out.trans hz)
      have HBZ := Lib.hid (HBY.out.up hz)
      clear hz c0 c1 gs b0 b1 bs HFO
      by_cases hf0 : f = 0
      · subst hf0
        go_wp2
        go_roundw
        case rel => exact ⟨i + 1, by go_num, by omega, HUZ.out, HBZ.out⟩
        case measure => simp [intOf]; omega
      · have e1 : (f == 0) = false := by simpa using hf0
        have e2 : (f != 0) = true := by simpa using hf0
        have HF0 := Lib.hid hf0
        clear hf0
        go_wp2
        go_ret2
        exact ⟨_, f, rfl, HUZ.out, fun h => absurd h HF0.out⟩
    · have hltI : ¬ (i : Int) < cn := by omega
      have HE0 := Lib.hid (own_empty (α := ByteArray) (k := 1) (R0 := strQ) (base := y.heap.size) (heap_alloc_new y (.cells #[] 9)) (Nat.le_refl _))
      have HS0 : Hid (LsAt 1 16 (fun _ => strQ) (y.alloc (.cells #[] 9)) (.slice sa sn sc) sizes) := Lib.hid (HS.out.up strR_up (HUY.out.alloc _))
      have HBS := Lib.hid bs
      go_wp2_with (at_builtin; refine st_app (n := 0) (mm := sn) rowT_str strQ_one (by rfl) HSN.out (H := HE0.out) (S := HS0.out) (by have := H80S.out; omega) (by decide) (by simp) (by rfl) (by rfl) ?_; intro ua uc w2 h1 h2 h3; have HR2 := Lib.hid h1; have HU2 := Lib.hid ((HUY.out.alloc (.cells #[] 9)).grown' h2 fun k e => by have := HE0.out.base k e; have := HUY.out.size; omega); have HB2 := Lib.hid ((HBY.out.up ((Up.refl y).alloc (.cells #[] 9))).kept h2 (fun e => by have := HE0.out.base _ e.symm; have := HBS.out; omega)); have HW2 : Hid (y.heap.size ≤ w2.heap.size) := Lib.hid (by have := h2.size; simp only [World.size_alloc] at this; omega); clear h1 h2 h3)
      rw [Nat.zero_add, List.nil_append] at HR2
      obtain ⟨B, hB⟩ : ∃ B, y.heap.size = B := ⟨_, rfl⟩
      rw [hB] at HR2 HBS HW2
      clear hB HE0 HS0 HUY HBY b1 b0 bs
      go_loopw [7, 8, 9] (fun tv av iv y => ∃ i : Nat, iv = .int .i64 i ∧ av = .int .i64 (2 + i) ∧ i ≤ pn ∧ Up w y ∧ BoxC y w.heap.size 27 #[.slice sa sn sc, .slice ca cn cc, .slice pa pn pc, .slice da dn dc, .slice oa on_ oc] ∧ B ≤ y.heap.size ∧ OwnS B y tv (sizes ++ (pars.take i).map (·.1))) (fun _ _ iv _ => pn - (intOf iv).toNat)
      case atStart => exact ⟨0, rfl, rfl, Nat.zero_le _, HU2.out, HB2.out, HW2.out, by simpa using HR2.out⟩
      case round =>
        clear HU2 HB2 HW2 HR2
        rename World => y
        obtain ⟨i, rfl, rfl, hi, hup, hb, hbw, how⟩ := hrel
        obtain ⟨va, vc, rfl⟩ := how.shape
        have HUY := Lib.hid hup
        have HBY := Lib.hid hb
        have HBW := Lib.hid hbw
        obtain ⟨T, hT⟩ : ∃ T, sizes ++ (pars.take i).map (·.1) = T := ⟨_, rfl⟩
        have HT := Lib.hid hT
        have HTL : Hid (T.length = sn + i) := Lib.hid (by rw [← hT, List.length_append, List.length_map, List.length_take, HSN.out, HPN.out]; omega)
        rw [hT] at how ⊢
        rw [HTL.out] at how ⊢
        have HOW := Lib.hid how
        have HTS : Hid (LsAt 1 16 strR y (.slice va (sn + i) vc) T) := Lib.hid (LsAt.ofS (by have h := OwnL.ls (B := 16) how (by decide) (by rw [HTL.out]; have := H80S.out; have := H40P.out; omega); exact h))
        have b2 : y.cell? ⟨w.heap.size, 2, none⟩ = some (.slice pa pn pc) := cell_of_row _ _ _ _ _ _ hb
        have b0 : y.cell? ⟨w.heap.size, 0, none⟩ = some (.slice sa sn sc) := cell_of_row _ _ _ _ _ _ hb
        have bs := hb.lt
        clear hup hb hbw how hT
        by_cases hlt : i < pn
        · have hltI : (i : Int) < pn := by omega
          have hi1 : i < pars.length := by rw [HPN.out]; exact hlt
          obtain ⟨g, o, cs, rfl, hg, hca, hra⟩ := HP.out.row parR_k i hi1
          have HTN : Hid (sizes ++ (pars.take (i + 1)).map (·.1) = T ++ [pars[i].1]) := Lib.hid (by rw [← HT.out, List.take_succ_eq_append_getElem hi1, List.map_append, List.append_assoc]; rfl)
          generalize pars[i] = px at hca HTN
          have gs := Nat.lt_of_lt_of_le hg HUY.out.size
          have HGS := Lib.hid gs
          have HLD := Lib.hid (fun z (hz : Up y z) => run_par hca.1 (hra z (HUY.out.trans hz)))
          have HPA := Lib.hid (fun z (hz : Up y z) => r17_param z (.agg cs) (.slice sa sn sc) (.slice va (sn + i) vc) px sizes T ⟨cs, rfl, hca.up parR_k (HUY.out.trans hz)⟩ (HS.out.up strR_up (HUY.out.trans hz)) (HTS.out.up strR_up hz))
          obtain ⟨nm, hnm⟩ : ∃ q, px.1 = q := ⟨_, rfl⟩
          have h0 : cs.getD 0 undef = .string px.1 := hca.2.1.1
          have HSX := Lib.hid hca.2.1.2
          rw [hnm] at h0 HTN HSX
          have HC0 := Lib.hid (fun z (hz : Up y z) => (show z.cell? ⟨g, o + i * 7, none⟩ = some (.string nm) from by
            have := hra z (HUY.out.trans hz) 0 (.string nm) (by rw [← h0, Array.getElem?_toList, Array.getD_eq_getD_getElem?, Array.getElem?_eq_getElem (by rw [hca.1]; decide)]; rfl)
            exact this))
          clear hi1 hra hca hg hnm h0
          go_upto_region 15 with fail
          refine wp_region_mk_all (fun _ _ v _ => ∃ f : Int, v = .int .i64 f) (by kernel_rfl) (by kernel_rfl) ?_
          try simp only [Act.put]
          iterate 4 (refine wpMk_quiet anti_post (by kernel_rfl) ?_; go_big_quiet_step (fail); refine wpQuiet_nil ?_)
          refine wpMk_load anti_post HLD.out (by rfl) ?_
          simp only [Act.put, List.setIfInBounds_toArray, List.set_cons_succ, List.set_cons_zero]
          iterate 3 (refine wpMk_quiet anti_post (by kernel_rfl) ?_; go_big_quiet_step (fail); refine wpQuiet_nil ?_)
          refine wpMk_enter anti_post 24 #[.agg cs, .slice sa sn sc, .slice va (sn + i) vc] (fun v x y h hu => h) (by kernel_rfl) (fun x => by go_simp) (fun x hx => (HPA.out x hx).mono fun e w' ⟨f, h1, h2, h3⟩ => ⟨_, h1, h2, f, rfl⟩) ?_
          rintro v ⟨y', hy', f, rfl⟩
          simp only [Act.put, List.setIfInBounds_toArray, List.set_cons_succ, List.set_cons_zero]
          iterate 1 (refine wpMk_quiet anti_post (by kernel_rfl) ?_; go_big_quiet_step (fail); refine wpQuiet_nil ?_)
          refine wpMk_nil ?_
          rintro z hz -
          have HYZ := Lib.hid hz
          have HUZ := Lib.hid (HUY.out.trans hz)
          have HBZ := Lib.hid (HBY.out.up hz)
          have HWZ := Lib.hid (Nat.le_trans HBW.out hz.size)
          clear hz hy' b0 b2 bs gs HLD HPA
          by_cases hf0 : f = 0
          case neg =>
            have e1 : (f == 0) = false := by simpa using hf0
            have e2 : (f != 0) = true := by simpa using hf0
            have HF0 := Lib.hid hf0
            clear hf0
            go_wp2
            go_ret2
            exact ⟨_, f, rfl, HUZ.out, fun h => absurd h HF0.out⟩
          case pos =>
          subst hf0
          have c0 := HC0.out z HYZ.out
          have gs := Nat.lt_of_lt_of_le HGS.out HYZ.out.size
          have b2 : z.cell? ⟨w.heap.size, 2, none⟩ = some (.slice (some ⟨g, o, none⟩) pn pc) := cell_of_row _ _ _ _ _ _ HBZ.out
          have bs := HBZ.out.lt
          have HBB : Hid (w.heap.size < B) := HBS
          go_wp2_with (at_builtin; refine st_app (mm := 1) rowT_str strQ_one HTL.out (by rfl) (H := OwnL.up (fun _ _ _ _ h _ => h) HOW.out (HYZ.out.alloc _)) (S := LsAt.one_str _ HSX.out) (by have := H80S.out; have := H40P.out; omega) (by decide) (by have := HWZ.out; simp only [World.size_alloc]; omega) (by rfl) (by rfl) ?_; intro ua uc w3 h1 h2 h3; have HR3 := Lib.hid h1; have HU3 := Lib.hid ((HUZ.out.alloc _).grown' h2 fun k e => by have := HOW.out.base k e; have := HBB.out; omega); have HB3 := Lib.hid ((HBZ.out.up ((Up.refl _).alloc _)).kept h2 (fun e => by have := HOW.out.base _ e.symm; have := HBB.out; omega)); have HW3 : Hid (B ≤ w3.heap.size) := Lib.hid (by have := h2.size; simp only [World.size_alloc] at this; have := HWZ.out; omega); clear h1 h2 h3)
          go_roundw
          case rel => exact ⟨i + 1, by go_num, by go_num, by omega, HU3.out, HB3.out, HW3.out, by rw [HTN.out]; exact HR3.out⟩
          case measure => simp [intOf]; omega
        · have hltI : ¬ (i : Int) < pn := by omega
          obtain rfl : pn = i := by omega
          have HTF : Hid (T = sizes ++ pars.map (·.1)) := Lib.hid (by rw [← HT.out, List.take_of_length_le (by rw [HPN.out]; exact Nat.le_refl _)])
          have HUV := Lib.hid HUY.out
          have HBV := Lib.hid HBY.out
          have HWV := Lib.hid HBW.out
          have HOV := Lib.hid HOW.out
          clear HT HUY HBY HBW HOW HTS
          go_wp2
          clear b0 b2 bs
          have HOV2 : Hid (OwnS B y (.slice va (sn + pn) vc) (sizes ++ pars.map (·.1) ++ (defs.take 0).map (·.nm))) := Lib.hid (by rw [List.take_zero, List.map_nil, List.append_nil, ← HTF.out]; exact HOV.out)
          clear HOV HTF HTL
          go_loopw [7, 8, 11] (fun tv av iv y => ∃ i : Nat, iv = .int .i64 i ∧ av = .int .i64 (2 + pn + i) ∧ i ≤ dn ∧ (∀ k (hk : k < defs.length), k < i → DO k defs[k]) ∧ Up w y ∧ BoxC y w.heap.size 27 #[.slice sa sn sc, .slice ca cn cc, .slice pa pn pc, .slice da dn dc, .slice oa on_ oc] ∧ B ≤ y.heap.size ∧ OwnS B y tv (sizes ++ pars.map (·.1) ++ (defs.take i).map (·.nm))) (fun _ _ iv _ => dn - (intOf iv).toNat)
          case atStart => exact ⟨0, rfl, by simp, Nat.zero_le _, fun k _ h => absurd h (Nat.not_lt_zero _), HUV.out, HBV.out, HWV.out, HOV2.out⟩
          case round =>
            clear HUV HBV HWV HOV2
            rename World => y
            obtain ⟨i, rfl, rfl, hi, hD, hup, hb, hbw, how⟩ := hrel
            obtain ⟨va, vc, rfl⟩ := how.shape
            have HUY := Lib.hid hup
            have HBY := Lib.hid hb
            have HBW := Lib.hid hbw
            have HDD := Lib.hid hD
            obtain ⟨T, hT⟩ : ∃ T, sizes ++ pars.map (·.1) ++ (defs.take i).map (·.nm) = T := ⟨_, rfl⟩
            have HT := Lib.hid hT
            have HTL : Hid (T.length = sn + pn + i) := Lib.hid (by rw [← hT, List.length_append, List.length_append, List.length_map, List.length_map, List.length_take, HSN.out, HPN.out, HDN.out]; omega)
            rw [hT] at how ⊢
            rw [HTL.out] at how ⊢
            have HOW := Lib.hid how
            have HTS : Hid (LsAt 1 16 strR y (.slice va (sn + pn + i) vc) T) := Lib.hid (LsAt.ofS (by have h := OwnL.ls (B := 16) how (by decide) (by rw [HTL.out]; have := H80S.out; have := H40P.out; have := H40D.out; omega); exact h))
            have b3 : y.cell? ⟨w.heap.size, 3, none⟩ = some (.slice da dn dc) := cell_of_row _ _ _ _ _ _ hb
            have bs := hb.lt
            clear hup hb hbw how hT hD
            by_cases hlt : i < dn
            · have hltI : (i : Int) < dn := by omega
              have hi1 : i < defs.length := by rw [HDN.out]; exact hlt
              obtain ⟨g, o, cs, rfl, hg, -, -, -, hsz, hnm⟩ := HD.out.def i hi1
              have HTN : Hid (sizes ++ pars.map (·.1) ++ (defs.take (i + 1)).map (·.nm) = T ++ [defs[i].nm]) := Lib.hid (by rw [← HT.out, List.take_succ_eq_append_getElem hi1, List.map_append, ← List.append_assoc]; rfl)
              have HDN2 : Hid (DO i defs[i] → ∀ k (hk : k < defs.length), k < i + 1 → DO k defs[k]) := Lib.hid (fun h k hk h2 => by
                by_cases e : k = i
                · subst e; exact h
                · exact HDD.out k hk (by omega))
              have HKE : Hid (has T defs[i].nm = false ∧ RD i defs[i].body → DO i defs[i]) := Lib.hid (by rw [← HT.out]; exact HOKE.out i hi1)
              have HCL := Lib.hid (HDF.out y HUY.out i hi1 (.slice va (sn + pn + i) vc) T HTS.out)
              have HLq := Lib.hid (HLP.out y HBY.out)
              have gs := Nat.lt_of_lt_of_le hg HUY.out.size
              have HGS := Lib.hid gs
              have HSX := Lib.hid hsz
              generalize RD i defs[i].body = RDi at *
              generalize DO i defs[i] = DOi at *
              obtain ⟨nm, hnm2⟩ : ∃ q, defs[i].nm = q := ⟨_, rfl⟩
              rw [hnm2] at HTN HKE HCL HSX hnm
              have HC0 := Lib.hid hnm
              clear hg hsz hnm hnm2
              go_wp2_with (refine st_load HLq.out (by rfl) ?_)
              refine HCL.out.mono ?_
              rintro e z ⟨f, rfl, hz, hf⟩
              have HYZ := Lib.hid hz
              have HUZ := Lib.hid (HUY.out.trans hz)
              have HBZ := Lib.hid (HBY.out.up hz)
              have HWZ := Lib.hid (Nat.le_trans HBW.out hz.size)
              have HFF := Lib.hid hf
              clear hz hf HCL HLq bs b3 gs
              by_cases hf0 : f = 0
              case neg =>
                have e1 : (f == 0) = false := by simpa using hf0
                have e2 : (f != 0) = true := by simpa using hf0
                have HF0 := Lib.hid hf0
                clear hf0
                go_wp2
                go_ret2
                exact ⟨_, f, rfl, HUZ.out, fun h => absurd h HF0.out⟩
              case pos =>
              subst hf0
              have HDX := Lib.hid (HDN2.out (HKE.out (HFF.out rfl)))
              have c0 := HC0.out z HUZ.out
              have gs := Nat.lt_of_lt_of_le HGS.out HYZ.out.size
              have b3 : z.cell? ⟨w.heap.size, 3, none⟩ = some (.slice (some ⟨g, o, none⟩) dn dc) := cell_of_row _ _ _ _ _ _ HBZ.out
              have bs := HBZ.out.lt
              have HBB : Hid (w.heap.size < B) := HBS
              clear HFF HKE HDN2
              go_wp2_with (at_builtin; refine st_app (mm := 1) rowT_str strQ_one HTL.out (by rfl) (H := OwnL.up (fun _ _ _ _ h _ => h) HOW.out (HYZ.out.alloc _)) (S := LsAt.one_str _ HSX.out) (by have := H80S.out; have := H40P.out; have := H40D.out; omega) (by decide) (by have := HWZ.out; simp only [World.size_alloc]; omega) (by rfl) (by rfl) ?_; intro ua uc w3 h1 h2 h3; have HR3 := Lib.hid h1; have HU3 := Lib.hid ((HUZ.out.alloc _).grown' h2 fun k e => by have := HOW.out.base k e; have := HBB.out; omega); have HB3 := Lib.hid ((HBZ.out.up ((Up.refl _).alloc _)).kept h2 (fun e => by have := HOW.out.base _ e.symm; have := HBB.out; omega)); have HW3 : Hid (B ≤ w3.heap.size) := Lib.hid (by have := h2.size; simp only [World.size_alloc] at this; have := HWZ.out; omega); clear h1 h2 h3)
              go_roundw
              case rel => exact ⟨i + 1, by go_num, by go_num, by omega, HDX.out, HU3.out, HB3.out, HW3.out, by rw [HTN.out]; exact HR3.out⟩
              case measure => simp [intOf]; omega
            · have hltI : ¬ (i : Int) < dn := by omega
              obtain rfl : dn = i := by omega
              have HFIN := Lib.hid (HGO.out (fun k hk => HDD.out k hk (by rw [HDN.out] at hk; exact hk)))
              have HUV := Lib.hid HUY.out
              have HBV := Lib.hid HBY.out
              clear HT HUY HBY HBW HOW HTS HDD
              go_wp2
              clear b3 bs
              go_loopw [8, 13] (fun av iv y => ∃ i : Nat, iv = .int .i64 i ∧ av = .int .i64 (2 + pn + dn + i) ∧ i ≤ on_ ∧ Up w y ∧ BoxC y w.heap.size 27 #[.slice sa sn sc, .slice ca cn cc, .slice pa pn pc, .slice da dn dc, .slice oa on_ oc]) (fun _ iv _ => on_ - (intOf iv).toNat)
              case atStart => exact ⟨0, rfl, by simp, Nat.zero_le _, HUV.out, HBV.out⟩
              case round =>
                clear HUV HBV
                rename World => y
                obtain ⟨i, rfl, rfl, hi, hup, hb⟩ := hrel
                have HUY := Lib.hid hup
                have HBY := Lib.hid hb
                have b4 : y.cell? ⟨w.heap.size, 4, none⟩ = some (.slice oa on_ oc) := cell_of_row _ _ _ _ _ _ hb
                have bs := hb.lt
                clear hup hb
                by_cases hlt : i < on_
                · have hltI : (i : Int) < on_ := by omega
                  have hi1 : i < outs.length := by rw [HON.out]; exact hlt
                  obtain ⟨g, o, rfl, hg, hc, hsz⟩ := HO.out.str i hi1
                  obtain ⟨s, hs⟩ : ∃ s, outs[i] = s := ⟨_, rfl⟩
                  rw [hs] at hc hsz
                  have HC0 := Lib.hid (fun z (hz : Up w z) => cell_up' hz hg hc)
                  have gs := Nat.lt_of_lt_of_le hg HUY.out.size
                  have c0 := HC0.out y HUY.out
                  have HG0 := Lib.hid hg
                  obtain ⟨qh, hqh⟩ : ∃ q, has (outs.take i) s = q := ⟨_, rfl⟩
                  have HHA : Hid (∀ x, Up w x → Calls Tryz.prog 10 #[.slice (some ⟨g, o, none⟩) i oc, .string s] x fun e w' => e = .returned (.bool qh) ∧ Up x w') := Lib.hid (fun x hx => (base_Has s (outs.take i) _ x ((HO.out.take i (by rw [HON.out]; exact hi)).up strR_up hx) qh hqh).mono fun e w' h => ⟨h.1, h.2 ▸ Up.refl _⟩)
                  have hicap : on_ ≤ oc := by
                    obtain ⟨a', c', e, h⟩ := HO.out.shape
                    simp only [Value.slice.injEq] at e
                    have := HON.out
                    omega
                  have hicI : (i : Int) ≤ oc := by omega
                  clear hicap hqh hc hsz hs hi1
                  go_upto_region 31 with fail
                  clear c0 gs b4 bs
                  refine wp_region_z (fun y => y.cell? ⟨g, o + i, none⟩ = some (.string s) ∧ BoxC y w.heap.size 27 #[.slice sa sn sc, .slice ca cn cc, .slice pa pn pc, .slice da dn dc, .slice (some ⟨g, o, none⟩) on_ oc]) 14 (by kernel_rfl) ?_
                  have hdr : Up y { y with drawn := y.drawn + 1 } := (Up.refl y).drew
                  generalize ({ y with drawn := y.drawn + 1 } : World) = xd at hdr ⊢
                  have HUX := Lib.hid (HUY.out.trans hdr)
                  have HSX : Hid (BoxC xd w.heap.size 27 #[.slice sa sn sc, .slice ca cn cc, .slice pa pn pc, .slice da dn dc, .slice (some ⟨g, o, none⟩) on_ oc]) := Lib.hid (HBY.out.up hdr)
                  have HCX := Lib.hid (fun y (hy : BoxC y w.heap.size 27 #[.slice sa sn sc, .slice ca cn cc, .slice pa pn pc, .slice da dn dc, .slice (some ⟨g, o, none⟩) on_ oc]) => (show y.cell? ⟨w.heap.size, 4, none⟩ = some (.slice (some ⟨g, o, none⟩) on_ oc) from cell_of_row _ _ _ _ _ _ hy))
                  clear hdr HUY HBY
                  refine anyZ_take (i := 0) (v := (.agg #[.slice sa sn sc, .slice ca cn cc, .slice pa pn pc, .slice da dn dc, .slice (some ⟨g, o, none⟩) on_ oc])) rfl (by kernel_rfl) (by kernel_rfl) (by kernel_rfl) (by kernel_rfl) (fun c a w h => h) (.inl ⟨by kernel_rfl, fun y hy => by exact exec_load (prog_load rfl hy.2) (by rfl)⟩) ⟨HC0.out _ HUX.out, HSX.out⟩ ?_
                  simp only [Act.put, List.getElem_toArray, List.getElem_cons_succ, List.getElem_cons_zero, List.setIfInBounds_toArray, List.set_cons_succ, List.set_cons_zero]
                  refine anyZ_take (i := 1) (v := (.pointer (some ⟨w.heap.size, 4, none⟩))) rfl (by kernel_rfl) (by kernel_rfl) (by kernel_rfl) (by kernel_rfl) (fun c a w h => h) (.inl ⟨by kernel_rfl, fun y hy => by go_simp⟩) ⟨HC0.out _ HUX.out, HSX.out⟩ ?_
                  simp only [Act.put, List.getElem_toArray, List.getElem_cons_succ, List.getElem_cons_zero, List.setIfInBounds_toArray, List.set_cons_succ, List.set_cons_zero]
                  refine anyZ_take (i := 2) (v := (.slice (some ⟨g, o, none⟩) on_ oc)) rfl (by kernel_rfl) (by kernel_rfl) (by kernel_rfl) (by kernel_rfl) (fun c a w h => h) (.inl ⟨by kernel_rfl, fun y hy => by have c := HCX.out y hy.2; go_simp⟩) ⟨HC0.out _ HUX.out, HSX.out⟩ ?_
                  simp only [Act.put, List.getElem_toArray, List.getElem_cons_succ, List.getElem_cons_zero, List.setIfInBounds_toArray, List.set_cons_succ, List.set_cons_zero]
                  refine anyZ_take (i := 3) (v := (.int .i64 i)) rfl (by kernel_rfl) (by kernel_rfl) (by kernel_rfl) (by kernel_rfl) (fun c a w h => h) (.inl ⟨by kernel_rfl, fun y hy => by go_simp⟩) ⟨HC0.out _ HUX.out, HSX.out⟩ ?_
                  simp only [Act.put, List.getElem_toArray, List.getElem_cons_succ, List.getElem_cons_zero, List.setIfInBounds_toArray, List.set_cons_succ, List.set_cons_zero]
                  refine anyZ_take (i := 4) (v := (.pointer (some ⟨g, o + i, none⟩))) rfl (by kernel_rfl) (by kernel_rfl) (by kernel_rfl) (by kernel_rfl) (fun c a w h => h) (.inl ⟨by kernel_rfl, fun y hy => by go_simp⟩) ⟨HC0.out _ HUX.out, HSX.out⟩ ?_
                  simp only [Act.put, List.getElem_toArray, List.getElem_cons_succ, List.getElem_cons_zero, List.setIfInBounds_toArray, List.set_cons_succ, List.set_cons_zero]
                  refine anyZ_take (i := 5) (v := (.string s)) rfl (by kernel_rfl) (by kernel_rfl) (by kernel_rfl) (by kernel_rfl) (fun c a w h => h) (.inl ⟨by kernel_rfl, fun y hy => by have c := hy.1; go_simp⟩) ⟨HC0.out _ HUX.out, HSX.out⟩ ?_
                  simp only [Act.put, List.getElem_toArray, List.getElem_cons_succ, List.getElem_cons_zero, List.setIfInBounds_toArray, List.set_cons_succ, List.set_cons_zero]
                  refine anyZ_two (i := 6) (j := 11) (by kernel_rfl) ?_ ?_
                  · refine stepZ_enter (i := 6) (f := 26) (args := #[.agg #[.slice sa sn sc, .slice ca cn cc, .slice pa pn pc, .slice da dn dc, .slice (some ⟨g, o, none⟩) on_ oc], .string s]) rfl (by kernel_rfl) (by go_simp) ((HFD.out s _ HUX.out).mono ?_)
                    rintro e x ⟨t, fa, fn, fc, rfl, hx⟩
                    obtain ⟨q, hq⟩ : ∃ q, FB s = q := ⟨_, rfl⟩
                    rw [hq]
                    have HUA := Lib.hid (HUX.out.trans hx)
                    have HSA := Lib.hid (HSX.out.up hx)
                    clear hq hx
                    refine ⟨_, rfl, fun _ => ⟨HC0.out _ HUA.out, HSA.out⟩, ?_⟩
                    simp only [Act.put, List.getElem_toArray, List.getElem_cons_succ, List.getElem_cons_zero, List.setIfInBounds_toArray, List.set_cons_succ, List.set_cons_zero]
                    refine anyZ_take (i := 7) (v := (.tuple #[typV t, .slice fa fn fc, .bool q])) rfl (by kernel_rfl) (by kernel_rfl) (by kernel_rfl) (by kernel_rfl) (fun c a w h => h) (.inl ⟨by kernel_rfl, fun y hy => by go_simp⟩) ⟨HC0.out _ HUA.out, HSA.out⟩ ?_
                    simp only [Act.put, List.getElem_toArray, List.getElem_cons_succ, List.getElem_cons_zero, List.setIfInBounds_toArray, List.set_cons_succ, List.set_cons_zero]
                    refine anyZ_take (i := 8) (v := (typV t)) rfl (by kernel_rfl) (by kernel_rfl) (by kernel_rfl) (by kernel_rfl) (fun c a w h => h) (.inl ⟨by kernel_rfl, fun y hy => by go_simp⟩) ⟨HC0.out _ HUA.out, HSA.out⟩ ?_
                    simp only [Act.put, List.getElem_toArray, List.getElem_cons_succ, List.getElem_cons_zero, List.setIfInBounds_toArray, List.set_cons_succ, List.set_cons_zero]
                    refine anyZ_take (i := 9) (v := (.slice fa fn fc)) rfl (by kernel_rfl) (by kernel_rfl) (by kernel_rfl) (by kernel_rfl) (fun c a w h => h) (.inl ⟨by kernel_rfl, fun y hy => by go_simp⟩) ⟨HC0.out _ HUA.out, HSA.out⟩ ?_
                    simp only [Act.put, List.getElem_toArray, List.getElem_cons_succ, List.getElem_cons_zero, List.setIfInBounds_toArray, List.set_cons_succ, List.set_cons_zero]
                    refine anyZ_take (i := 10) (v := (.bool q)) rfl (by kernel_rfl) (by kernel_rfl) (by kernel_rfl) (by kernel_rfl) (fun c a w h => h) (.inl ⟨by kernel_rfl, fun y hy => by go_simp⟩) ⟨HC0.out _ HUA.out, HSA.out⟩ ?_
                    simp only [Act.put, List.getElem_toArray, List.getElem_cons_succ, List.getElem_cons_zero, List.setIfInBounds_toArray, List.set_cons_succ, List.set_cons_zero]
                    refine anyZ_val (i := 11) (v := .pointer (some ⟨x.heap.size, 0, none⟩)) (w' := x.alloc (.cells #[.int .i64 0, .int .i64 0, .int .i64 0, .int .i64 0, .int .i64 0] 38)) rfl (by kernel_rfl) (by kernel_rfl) (by go_simp) (fun _ => ⟨HC0.out _ (HUA.out.alloc _), HSA.out.up ((Up.refl x).alloc _)⟩) ?_
                    simp only [Act.put, List.getElem_toArray, List.getElem_cons_succ, List.getElem_cons_zero, List.setIfInBounds_toArray, List.set_cons_succ, List.set_cons_zero]
                    have HFL := Lib.hid (run_fill (P := Tryz.prog) typ_i x (Z := #[.int .i64 0, .int .i64 0, .int .i64 0, .int .i64 0, .int .i64 0]) (cs := typC t) rfl rfl (typC_one t))
                    refine anyZ_skip (i := 12) (w' := x.alloc (.cells (typC t) 38)) rfl (by kernel_rfl) (by kernel_rfl) (exec_store HFL.out (by rfl) (by rfl)) (fun _ => ⟨HC0.out _ (HUA.out.alloc _), HSA.out.up ((Up.refl x).alloc _)⟩) ?_
                    simp only [Act.put, List.getElem_toArray, List.getElem_cons_succ, List.getElem_cons_zero, List.setIfInBounds_toArray, List.set_cons_succ, List.set_cons_zero]
                    have HUZ := Lib.hid (HUA.out.alloc (.cells (typC t) 38))
                    have HBZ := Lib.hid (HSA.out.up ((Up.refl x).alloc (.cells (typC t) 38)))
                    generalize x.alloc (.cells (typC t) 38) = z at *
                    clear HFL HUA HSA
                    refine anyZ_val (i := 13) (v := .slice fa fn fc) (w' := z) rfl (by kernel_rfl) (by kernel_rfl) (by go_simp) (fun _ => ⟨HC0.out _ HUZ.out, HBZ.out⟩) ?_
                    simp only [Act.put, List.getElem_toArray, List.getElem_cons_succ, List.getElem_cons_zero, List.setIfInBounds_toArray, List.set_cons_succ, List.set_cons_zero]
                    refine anyZ_val (i := 14) (v := .bool q) (w' := z) rfl (by kernel_rfl) (by kernel_rfl) (by go_simp) (fun h => absurd rfl h) ?_
                    simp only [Act.put, List.getElem_toArray, List.getElem_cons_succ, List.getElem_cons_zero, List.setIfInBounds_toArray, List.set_cons_succ, List.set_cons_zero]
                    refine anyZ_done (by kernel_rfl) ?_
                    cases q
                    · go_wp2
                      go_ret2
                      exact ⟨_, 9, rfl, HUZ.out, fun h => absurd h (by decide)⟩
                    · have c0 := HC0.out z HUZ.out
                      have gs := Nat.lt_of_lt_of_le HG0.out HUZ.out.size
                      have b4 : z.cell? ⟨w.heap.size, 4, none⟩ = some (.slice (some ⟨g, o, none⟩) on_ oc) := cell_of_row _ _ _ _ _ _ HBZ.out
                      have bs := HBZ.out.lt
                      cases qh
                      all_goals
                        go_upto_region 34 with fail
                        refine wp_region_ext (by kernel_rfl) (by kernel_rfl) ?_
                        repeat (go_big_quiet_step ((go_at_call 10; exact Calls.ext_of (HHA.out _ (HUZ.out.trans (Ext.up _))))))
                        refine wpQuiet_nil ?_
                        intro z2 hz
                        have HUZ2 := Lib.hid (HUZ.out.trans hz)
                        have HBZ2 := Lib.hid (HBZ.out.up hz)
                        clear hz gs c0 b4 bs
                        go_wp2
                        first
                          | (go_ret2; exact ⟨_, 8, rfl, HUZ2.out, fun h => absurd h (by decide)⟩)
                          | (go_roundw
                             case rel => exact ⟨i + 1, by go_num, by go_num, by omega, HUZ2.out, HBZ2.out⟩
                             case measure => simp [intOf]; omega)
                  · refine stepZ_val (i := 11) (v := .pointer (some ⟨xd.heap.size, 0, none⟩)) (w' := xd.alloc (.cells #[.int .i64 0, .int .i64 0, .int .i64 0, .int .i64 0, .int .i64 0] 38)) rfl (by kernel_rfl) (by go_simp) (fun _ => ⟨HC0.out _ (HUX.out.alloc _), HSX.out.up ((Up.refl xd).alloc _)⟩) ?_
                    simp only [Act.put, List.getElem_toArray, List.getElem_cons_succ, List.getElem_cons_zero, List.setIfInBounds_toArray, List.set_cons_succ, List.set_cons_zero]
                    have HUA := Lib.hid (HUX.out.alloc (.cells #[.int .i64 0, .int .i64 0, .int .i64 0, .int .i64 0, .int .i64 0] 38))
                    have HSA := Lib.hid (HSX.out.up ((Up.refl xd).alloc (.cells #[.int .i64 0, .int .i64 0, .int .i64 0, .int .i64 0, .int .i64 0] 38)))
                    have HBG := Lib.hid (BoxC.new xd 38 #[.int .i64 0, .int .i64 0, .int .i64 0, .int .i64 0, .int .i64 0])
                    refine anyZ_enter (i := 6) (f := 26) (args := #[.agg #[.slice sa sn sc, .slice ca cn cc, .slice pa pn pc, .slice da dn dc, .slice (some ⟨g, o, none⟩) on_ oc], .string s]) rfl (by kernel_rfl) (by kernel_rfl) (by go_simp) ((HFD.out s _ HUA.out).mono ?_)
                    rintro e x ⟨t, fa, fn, fc, rfl, hx⟩
                    obtain ⟨q, hq⟩ : ∃ q, FB s = q := ⟨_, rfl⟩
                    rw [hq]
                    have HUB := Lib.hid (HUA.out.trans hx)
                    have HSB := Lib.hid (HSA.out.up hx)
                    have HBB := Lib.hid (HBG.out.up hx)
                    clear hq hx
                    refine ⟨_, rfl, fun _ => ⟨HC0.out _ HUB.out, HSB.out⟩, ?_⟩
                    simp only [Act.put, List.getElem_toArray, List.getElem_cons_succ, List.getElem_cons_zero, List.setIfInBounds_toArray, List.set_cons_succ, List.set_cons_zero]
                    refine anyZ_take (i := 7) (v := (.tuple #[typV t, .slice fa fn fc, .bool q])) rfl (by kernel_rfl) (by kernel_rfl) (by kernel_rfl) (by kernel_rfl) (fun c a w h => h) (.inl ⟨by kernel_rfl, fun y hy => by go_simp⟩) ⟨HC0.out _ HUB.out, HSB.out⟩ ?_
                    simp only [Act.put, List.getElem_toArray, List.getElem_cons_succ, List.getElem_cons_zero, List.setIfInBounds_toArray, List.set_cons_succ, List.set_cons_zero]
                    refine anyZ_take (i := 8) (v := (typV t)) rfl (by kernel_rfl) (by kernel_rfl) (by kernel_rfl) (by kernel_rfl) (fun c a w h => h) (.inl ⟨by kernel_rfl, fun y hy => by go_simp⟩) ⟨HC0.out _ HUB.out, HSB.out⟩ ?_
                    simp only [Act.put, List.getElem_toArray, List.getElem_cons_succ, List.getElem_cons_zero, List.setIfInBounds_toArray, List.set_cons_succ, List.set_cons_zero]
                    refine anyZ_take (i := 9) (v := (.slice fa fn fc)) rfl (by kernel_rfl) (by kernel_rfl) (by kernel_rfl) (by kernel_rfl) (fun c a w h => h) (.inl ⟨by kernel_rfl, fun y hy => by go_simp⟩) ⟨HC0.out _ HUB.out, HSB.out⟩ ?_
                    simp only [Act.put, List.getElem_toArray, List.getElem_cons_succ, List.getElem_cons_zero, List.setIfInBounds_toArray, List.set_cons_succ, List.set_cons_zero]
                    refine anyZ_take (i := 10) (v := (.bool q)) rfl (by kernel_rfl) (by kernel_rfl) (by kernel_rfl) (by kernel_rfl) (fun c a w h => h) (.inl ⟨by kernel_rfl, fun y hy => by go_simp⟩) ⟨HC0.out _ HUB.out, HSB.out⟩ ?_
                    simp only [Act.put, List.getElem_toArray, List.getElem_cons_succ, List.getElem_cons_zero, List.setIfInBounds_toArray, List.set_cons_succ, List.set_cons_zero]
                    have HPT := Lib.hid (put_typ HBB.out rfl t)
                    have HUZ := Lib.hid (HUB.out.row (g := xd.heap.size) HUX.out.size (typC t))
                    have HBZ := Lib.hid (HSB.out.rowNe (g := xd.heap.size) (cs := typC t) (Nat.ne_of_lt HSX.out.lt))
                    refine anyZ_skip (i := 12) (w' := x.setRow xd.heap.size (typC t)) rfl (by kernel_rfl) (by kernel_rfl) (exec_store HPT.out (by rfl) (by rfl)) (fun _ => ⟨HC0.out _ HUZ.out, HBZ.out⟩) ?_
                    simp only [Act.put, List.getElem_toArray, List.getElem_cons_succ, List.getElem_cons_zero, List.setIfInBounds_toArray, List.set_cons_succ, List.set_cons_zero]
                    generalize x.setRow xd.heap.size (typC t) = z at *
                    clear HPT HUB HSB HBB HBG
                    refine anyZ_val (i := 13) (v := .slice fa fn fc) (w' := z) rfl (by kernel_rfl) (by kernel_rfl) (by go_simp) (fun _ => ⟨HC0.out _ HUZ.out, HBZ.out⟩) ?_
                    simp only [Act.put, List.getElem_toArray, List.getElem_cons_succ, List.getElem_cons_zero, List.setIfInBounds_toArray, List.set_cons_succ, List.set_cons_zero]
                    refine anyZ_val (i := 14) (v := .bool q) (w' := z) rfl (by kernel_rfl) (by kernel_rfl) (by go_simp) (fun h => absurd rfl h) ?_
                    simp only [Act.put, List.getElem_toArray, List.getElem_cons_succ, List.getElem_cons_zero, List.setIfInBounds_toArray, List.set_cons_succ, List.set_cons_zero]
                    refine anyZ_done (by kernel_rfl) ?_
                    cases q
                    · go_wp2
                      go_ret2
                      exact ⟨_, 9, rfl, HUZ.out, fun h => absurd h (by decide)⟩
                    · have c0 := HC0.out z HUZ.out
                      have gs := Nat.lt_of_lt_of_le HG0.out HUZ.out.size
                      have b4 : z.cell? ⟨w.heap.size, 4, none⟩ = some (.slice (some ⟨g, o, none⟩) on_ oc) := cell_of_row _ _ _ _ _ _ HBZ.out
                      have bs := HBZ.out.lt
                      cases qh
                      all_goals
                        go_upto_region 34 with fail
                        refine wp_region_ext (by kernel_rfl) (by kernel_rfl) ?_
                        repeat (go_big_quiet_step ((go_at_call 10; exact Calls.ext_of (HHA.out _ (HUZ.out.trans (Ext.up _))))))
                        refine wpQuiet_nil ?_
                        intro z2 hz
                        have HUZ2 := Lib.hid (HUZ.out.trans hz)
                        have HBZ2 := Lib.hid (HBZ.out.up hz)
                        clear hz gs c0 b4 bs
                        go_wp2
                        first
                          | (go_ret2; exact ⟨_, 8, rfl, HUZ2.out, fun h => absurd h (by decide)⟩)
                          | (go_roundw
                             case rel => exact ⟨i + 1, by go_num, by go_num, by omega, HUZ2.out, HBZ2.out⟩
                             case measure => simp [intOf]; omega)
                · have hltI : ¬ (i : Int) < on_ := by omega
                  go_wp2
                  go_ret2
                  exact ⟨0, 0, rfl, HUY.out, fun _ => HFIN.out⟩
end Go.Proofs.YtpccaifhcmcegaaGreat
