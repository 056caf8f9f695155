/-
  The reference 17: def. Printed by mkSo.py.
-/
import Derived.Test.YtpccaifhcmcegaaGreatHy

import Derived.Test.YtpccaifhcmcegaaGreatHz
import Derived.Test.YtpccaifhcmcegaaGreatHp
namespace Go.Proofs.YtpccaifhcmcegaaGreat
set_option linter.unusedSimpArgs false
open Go.ChangeShapes Go.WideShapes Go.ChangeAt Go.RowKit
set_option linter.unusedVariables false
set_option maxRecDepth 100000

/-- What a program's parts are bounded by. -/
def BdP (p : Pg) : Prop := ∀ d ∈ p.defs, d.dims.length ≤ 1500 ∧ d.red.length ≤ 1500 ∧ tot d.body ≤ 1500
/-- A program cut behind its first k definitions. -/
def cutP (p : Pg) (k : Nat) : Pg := ⟨p.sizes, [], p.pars, p.defs.take k, []⟩
theorem app_row {α : Type} {T E dst : TypeId} {k B : Nat} (hT : RowT T E k B) {R0 : (Nat → Value) → α → Prop} (h1 : ∀ f x, R0 f x → ∀ j, j < k → (f j).oneCell' = true) {base : Nat} {w : World} {v u : Value} {l m : List α} {n mm : Nat} (hn : l.length = n) (hm : m.length = mm)
    (H : OwnR k R0 base E w v l) (S : LsAt k B (fun _ => R0) w u m) (hb : (n + mm) * B ≤ 140737488355328) (hB : 1 ≤ B) (hbase : base ≤ w.heap.size) :
    ∃ (va : Option Addr) (vc : Nat) (w' : World), (Builtin.append_ #[T, T] dst #[v, u]).run Tryz.prog w = .ok (.slice va (n + mm) vc) w' ∧ OwnR k R0 base E w' (.slice va (n + mm) vc) (l ++ m) ∧ w.grownBy w' v.ownBlock := by
  obtain ⟨i, z, i0, i1, i2, i3, i4⟩ := hT.info
  subst hn hm
  obtain ⟨F, hF, hR⟩ := H
  obtain ⟨_, _, G, hG, hS⟩ := S
  have hle : l.length + m.length ≤ maxLen := by
    have h := Nat.mul_le_mul_left (l.length + m.length) hB
    have e : maxLen = 9223372036854775807 := rfl
    omega
  obtain ⟨v', w', hrun, g1, g2, g3, g4⟩ := run_append_sl (P := Tryz.prog) w base T dst E i z k B hT.sl i0 i1 i2 i3 i4 hT.pos _ l.length _ hF u m.length G hG (fun i j hi hj => h1 _ _ (hS i hi) j hj) hle hb hbase
  obtain ⟨va, vc, rfl⟩ := own_slice g1
  exact ⟨va, vc, w', hrun, OwnL.app hT.pos g1 hR hS, g2⟩
/-- A call that alone may come up. -/
theorem anyZ_enter {P : Program} {ops : Array Oper} {Q : Exit → Act → World → Prop} {md : Region.Mode} {S : World → Prop} {z i : Nat} {oi : Oper} {n : Nat} {l : Array Bool} {a : Act} {w : World} {f : FuncId} {args : Array Value} (hi : ops[i]? = some oi) (hr : Region.ready md ops l = [i]) (hw : Region.wanted oi (yielded ops a.tmps) = true)
    (hrun : (execOp a.eval oi).run P w = .ok (.enter f args) w) (hc : Calls P f args w fun e w' => ∃ v, e = .returned v ∧ (i ≠ z → S w') ∧ AnyZ P md ops Q S z n (l.setIfInBounds i true) (a.put oi.dst v) w') : AnyZ P md ops Q S z (n + 1) l a w :=
  anyZ_one hr (by
    unfold wpOp
    simp only [hi, hw, if_true, Oper.wp, hrun]
    refine .inl ?_
    rw [Oper.upon_enter]
    exact hc.mono fun e x' ⟨v, he, h2, h3⟩ => by subst he; exact ⟨h2, h3⟩)
theorem wpMd_loadG {ops : Array Oper} {md : Region.Mode} {w : World} {M : FuncId → Array Value → Value → World → Prop} {L : Act → Facts → Prop} (hL : AntiF w L) {k : Nat} {rest : List Oper} {a : Act} {S : Facts} {T : TypeId} {p V : Value} (hrun : ∀ x, Up w x → (Instr.loadAt T p).run Tryz.prog x = .ok V x) {dst : Option Nat} {y : Operand} {ty : TypeId} {pos : String} {af : Array Edge} (hy : a.eval y = p)
    (h : ∀ S', More S S' → wpMd Tryz.prog md ops M w L (k + 1) rest (a.put dst V) S') : wpMd Tryz.prog md ops M w L k ({ dst := dst, op := .load T y, type := ty, pos := pos, after := af, guard := none } :: rest) a S :=
  wpMd_any hL (fun v _ => v = V) (fun _ _ _ h _ => h) rfl (fun x hx _ => ⟨V, x, by
    unfold execOp
    simp only [hy, hrun x hx, Sem.run_bind, Sem.run_pure, Result.andThen_ok], Up.refl x, rfl⟩) (fun v ⟨_, _, hv⟩ => by
    subst hv
    exact h _ (more_upd _ _ _))
/-- What the calls of the second region say. -/
def defM (RP : Prop) (F : FuncId) (_ : Array Value) (v : Value) (x : World) : Prop := (F = 47 → ∃ l, LsAt 1 16 strR x v l) ∧ (F = 46 → ∃ (t : Typ) (f : Int), v = .tuple #[typV t, .int .i64 f] ∧ (f = 0 → RP))
theorem defM_up (RP : Prop) (F : FuncId) (args : Array Value) (v : Value) (x y : World) (h : defM RP F args v x) (u : Up x y) : defM RP F args v y := ⟨fun e => let ⟨l, hl⟩ := h.1 e; ⟨l, hl.up strR_up u⟩, h.2⟩
set_option maxHeartbeats 32000000 in
theorem r17_def (N : Nat) (w : World) (pv tv : Value) (p : Pg) (k : Nat) (tk : List ByteArray) (hp : ProgAt N w pv p) (hbd : BdP p) (hsz : p.sizes.length ≤ 3000) (hk : k < p.defs.length) (htk : LsAt 1 16 strR w tv tk) :
    Calls Tryz.prog 25 #[pv, .int .i64 k, tv] w fun e w' => ErrQ (has tk (p.defs[k]'hk).nm = false ∧ ReadsP (cutP p k) (p.defs[k]'hk).body) w e w' := by
  obtain ⟨dd, hdd⟩ : ∃ d, p.defs[k]'hk = d := ⟨_, rfl⟩
  have hdm : dd ∈ p.defs := hdd ▸ List.getElem_mem hk
  have HBD := Lib.hid (hbd dd hdm)
  have HBC : Hid (∀ d ∈ (cutP p k).defs, d.dims.length ≤ 1500) := Lib.hid (fun d hd => (hbd d (List.mem_of_mem_take hd)).1)
  rw [hdd]
  have HDD := Lib.hid hdd
  obtain ⟨CP, hCP⟩ : ∃ C, cutP p k = C := ⟨_, rfl⟩
  have HCP := Lib.hid hCP
  rw [hCP] at HBC ⊢
  obtain ⟨RP, hRP⟩ : ∃ R, ReadsP CP dd.body = R := ⟨_, rfl⟩
  rw [hRP]
  have HRP0 := Lib.hid hRP
  clear hbd hdm hdd hCP hRP
  obtain ⟨sa, sc, ca, cc, pa, pc, da, dc, oa, oc, rfl, hs, hcn, hpp, hd, ho⟩ := hp.open
  obtain ⟨sizes, cons, pars, defs, outs⟩ := p
  dsimp only at *
  obtain ⟨sn, hsn⟩ : ∃ q, sizes.length = q := ⟨_, rfl⟩
  obtain ⟨cn, hcnn⟩ : ∃ q, cons.length = q := ⟨_, rfl⟩
  obtain ⟨pn, hpn⟩ : ∃ q, pars.length = q := ⟨_, rfl⟩
  obtain ⟨dn, hdn⟩ : ∃ q, defs.length = q := ⟨_, rfl⟩
  obtain ⟨on_, hon⟩ : ∃ q, outs.length = q := ⟨_, rfl⟩
  have hsnI : (sn : Int) ≤ 140737488351232 := by have := hs.bytes; omega
  have hcnI : (cn : Int) ≤ 140737488351232 := by have := hcn.bytes; omega
  have hpnI : (pn : Int) ≤ 140737488351232 := by have := hpp.bytes; omega
  have hdnI : (dn : Int) ≤ 140737488351232 := by have := hd.bytes; omega
  have honI : (on_ : Int) ≤ 140737488351232 := by have := ho.bytes; omega
  rw [hsn] at hs hp
  rw [hcnn] at hcn hp
  rw [hpn] at hpp hp
  rw [hdn] at hd hp
  rw [hon] at ho hp
  rw [hsn, hcnn, hpn, hdn, hon]
  have HPG := Lib.hid hp
  have HS := Lib.hid hs
  have HC := Lib.hid hcn
  have HP := Lib.hid hpp
  have HD := Lib.hid hd
  have HO := Lib.hid ho
  have HSN := Lib.hid hsn
  have HCN := Lib.hid hcnn
  have HPN := Lib.hid hpn
  have HDN := Lib.hid hdn
  have HON := Lib.hid hon
  clear hs hcn hpp hd ho hsn hcnn hpn hdn hon hp

  rw [HSN.out] at hsz
  rw [HDN.out] at hk
  have hkI : (k : Int) < dn := by omega
  have HSB := Lib.hid hsz
  obtain ⟨g, o, cs, rfl, hg, hca, hld, h0, h0s, hnm⟩ := HD.out.def k (by rw [HDN.out]; exact hk)
  rw [HDD.out] at h0 h0s hca hnm
  have hdat : DefAt N w (.agg cs) dd := ⟨cs, rfl, hca⟩
  obtain ⟨cs', ma, mc, ra, rc, ecs, -, hcs, -, -, h6, h7, -, hM, hR⟩ := hdat.open
  obtain rfl : cs = cs' := by injection ecs
  obtain ⟨mn, hmn⟩ : ∃ q, dd.dims.length = q := ⟨_, rfl⟩
  obtain ⟨rn, hrn⟩ : ∃ q, dd.red.length = q := ⟨_, rfl⟩
  rw [hmn] at h6 hM
  rw [hrn] at h7 hR
  have hmnI : (mn : Int) ≤ 1500 := by have := HBD.out.1; omega
  have hrnI : (rn : Int) ≤ 1500 := by have := HBD.out.2.1; omega
  have HM := Lib.hid hM
  have HR := Lib.hid hR
  have HMN := Lib.hid hmn
  have HRN := Lib.hid hrn
  have HDA := Lib.hid hdat
  have HCA := Lib.hid hca
  have HTK := Lib.hid (fun y (hy : Up w y) => htk.up strR_up hy)
  have HNM := Lib.hid (fun y (hy : Up w y) => r17_name y dd.nm tv tk (htk.up strR_up hy) _ rfl)
  obtain ⟨fe, hfe⟩ : ∃ q, nameE dd.nm tk = q := ⟨_, rfl⟩
  have HNZ : Hid (fe = 0 → has tk dd.nm = false) := Lib.hid (fun h => nameE_zero (hfe.trans h))
  rw [hfe] at HNM
  obtain ⟨qt, hqt⟩ : ∃ q, typB dd.ty = q := ⟨_, rfl⟩
  have HTY := Lib.hid (fun y => base_Type dd.ty qt hqt y)
  have HU := Lib.hid (((Up.refl w).alloc (.cells #[.slice sa sn sc, .slice ca cn cc, .slice pa pn pc, .slice (some ⟨g, o, none⟩) dn dc, .slice oa on_ oc] 27)).alloc (.cells cs 50))
  have HBP := Lib.hid ((BoxC.new w 27 #[.slice sa sn sc, .slice ca cn cc, .slice pa pn pc, .slice (some ⟨g, o, none⟩) dn dc, .slice oa on_ oc]).up ((Up.refl _).alloc (.cells cs 50)))
  have HBE := Lib.hid (BoxC.new2 w (.cells #[.slice sa sn sc, .slice ca cn cc, .slice pa pn pc, .slice (some ⟨g, o, none⟩) dn dc, .slice oa on_ oc] 27) 50 cs)
  have HLD := Lib.hid (fun y (hy : Up w y) => hld y hy)
  have hg0 := Lib.hid hg
  have HX0 := Lib.hid (fun y (hy : BoxC y (w.heap.size + 1) 50 cs) => hy.at h0 (by rw [hcs]; decide))
  have HX6 := Lib.hid (fun y (hy : BoxC y (w.heap.size + 1) 50 cs) => hy.at h6 (by rw [hcs]; decide))
  have HX7 := Lib.hid (fun y (hy : BoxC y (w.heap.size + 1) 50 cs) => hy.at h7 (by rw [hcs]; decide))
  have HXT := Lib.hid (fun y (hy : BoxC y (w.heap.size + 1) 50 cs) => box_typ hy (o := 1) (by rw [hcs]; decide) hca.2.2.1)
  have HXD := Lib.hid (fun y (hy : BoxC y (w.heap.size + 1) 50 cs) => run_def hcs hy.range)
  have HXE := Lib.hid (fun y (hy : BoxC y (w.heap.size + 1) 50 cs) => run_ex hca.body.1 (hy.sub 9 13))
  have HL0 := Lib.hid (HLD.out _ ((Up.refl w).alloc (.cells #[.slice sa sn sc, .slice ca cn cc, .slice pa pn pc, .slice (some ⟨g, o, none⟩) dn dc, .slice oa on_ oc] 27)))
  have HFL := Lib.hid (run_fill (P := Tryz.prog) def_i (w.alloc (.cells #[.slice sa sn sc, .slice ca cn cc, .slice pa pn pc, .slice (some ⟨g, o, none⟩) dn dc, .slice oa on_ oc] 27)) (Z := #[.string ByteArray.empty, .int .i64 0, .int .i64 0, .int .i64 0, .int .i64 0, .int .i64 0, .slice none 0 0, .slice none 0 0, .int .i64 0, .int .i64 0, .string ByteArray.empty, .int .i64 0, .int .i64 0, .int .i64 0, .int .i64 0, .int .i64 0, .int .i64 0, .int .i64 0, .int .i64 0, .slice none 0 0, .slice none 0 0, .slice none 0 0]) (cs := cs) rfl hcs (CsAt.one (defR_k N) hca))
  rw [World.size_alloc] at HFL
  have c0 := HX0.out _ HBE.out
  have gs : g < (w.alloc (.cells #[.slice sa sn sc, .slice ca cn cc, .slice pa pn pc, .slice (some ⟨g, o, none⟩) dn dc, .slice oa on_ oc] 27)).heap.size := by rw [World.size_alloc]; omega
  clear hca hdat hM hR hmn hrn htk hfe hqt h0 h0s h6 h7 hcs hnm hld hg ecs hsz
  go_enter Tryz.func25, Tryz.ntmps25
  go_wp2_with (first | (refine st_load HL0.out (by rfl) ?_) | (refine st_store HFL.out (by rfl) (by rfl) ?_))
  refine (HNM.out _ HU.out).mono ?_
  rintro e y ⟨rfl, hy⟩
  have HU1 := Lib.hid (HU.out.trans hy)
  have HP1 := Lib.hid (HBP.out.up hy)
  have HE1 := Lib.hid (HBE.out.up hy)
  clear hy HU HBP HBE c0 gs HFL HL0
  by_cases hf0 : fe = 0
  case neg =>
    have e1 : (fe == 0) = false := by simpa using hf0
    have e2 : (fe != 0) = true := by simpa using hf0
    have HF0 := Lib.hid hf0
    clear hf0
    go_wp2
    go_ret
    exact ⟨fe, rfl, HU1.out, fun h => absurd h HF0.out⟩
  case pos =>
  have HOK := Lib.hid (HNZ.out hf0)
  clear HNZ HNM
  subst hf0
  have HLT := Lib.hid (HXT.out _ HE1.out)
  go_wp2_with (refine st_load HLT.out (by rfl) ?_)
  refine (HTY.out _).mono ?_
  rintro e z ⟨rfl, hy⟩
  have HU2 := Lib.hid (HU1.out.trans hy)
  have HP2 := Lib.hid (HP1.out.up hy)
  have HE2 := Lib.hid (HE1.out.up hy)
  have c6 := HX6.out _ HE2.out
  have c7 := HX7.out _ HE2.out
  have bs := HE2.out.lt
  clear hy HU1 HP1 HE1 HLT
  cases qt
  case false =>
    go_wp2
    go_ret
    exact ⟨10, rfl, HU2.out, fun h => absurd h (by decide)⟩
  case true =>
  by_cases hm6 : (6 : Int) < mn
  case pos =>
    go_wp2
    go_ret
    exact ⟨11, rfl, HU2.out, fun h => absurd h (by decide)⟩
  case neg =>
  have d6 : decide ((6 : Int) < mn) = false := decide_eq_false hm6
  by_cases hr6 : (6 : Int) < rn
  case pos =>
    have d7 : decide ((6 : Int) < rn) = true := decide_eq_true hr6
    go_wp2
    go_ret
    exact ⟨11, rfl, HU2.out, fun h => absurd h (by decide)⟩
  case neg =>
  have d7 : decide ((6 : Int) < rn) = false := decide_eq_false hr6
  go_upto_region 9 with fail
  clear c6 c7 d6 d7 hm6 hr6 bs
  refine wp_region_z (fun y => BoxC y (w.heap.size + 1) 50 cs ∧ BoxC y w.heap.size 27 #[.slice sa sn sc, .slice ca cn cc, .slice pa pn pc, .slice (some ⟨g, o, none⟩) dn dc, .slice oa on_ oc]) 10 (by kernel_rfl) ?_
  have hdr : Up z { z with drawn := z.drawn + 1 } := (Up.refl z).drew
  generalize ({ z with drawn := z.drawn + 1 } : World) = xd at hdr ⊢
  have HUD := Lib.hid (HU2.out.trans hdr)
  have HSX : Hid (BoxC xd (w.heap.size + 1) 50 cs ∧ BoxC xd w.heap.size 27 #[.slice sa sn sc, .slice ca cn cc, .slice pa pn pc, .slice (some ⟨g, o, none⟩) dn dc, .slice oa on_ oc]) := Lib.hid ⟨HE2.out.up hdr, HP2.out.up hdr⟩
  clear hdr HU2 HP2 HE2
  refine anyZ_take (i := 1) (v := (.pointer (some ⟨w.heap.size + 1, 6, none⟩))) rfl (by kernel_rfl) (by kernel_rfl) (by kernel_rfl) (by kernel_rfl) (fun c a w h => h) (.inl ⟨by kernel_rfl, fun y hy => by obtain ⟨s1, s2⟩ := hy; go_simp⟩) HSX.out ?_
  simp only [Act.put, List.getElem_toArray, List.getElem_cons_succ, List.getElem_cons_zero, List.setIfInBounds_toArray, List.set_cons_succ, List.set_cons_zero]
  refine anyZ_take (i := 2) (v := (.slice ma mn mc)) rfl (by kernel_rfl) (by kernel_rfl) (by kernel_rfl) (by kernel_rfl) (fun c a w h => h) (.inl ⟨by kernel_rfl, fun y hy => by obtain ⟨s1, s2⟩ := hy; have c := HX6.out y s1; go_simp⟩) HSX.out ?_
  simp only [Act.put, List.getElem_toArray, List.getElem_cons_succ, List.getElem_cons_zero, List.setIfInBounds_toArray, List.set_cons_succ, List.set_cons_zero]
  refine anyZ_take (i := 4) (v := (.pointer (some ⟨w.heap.size + 1, 7, none⟩))) rfl (by kernel_rfl) (by kernel_rfl) (by kernel_rfl) (by kernel_rfl) (fun c a w h => h) (.inl ⟨by kernel_rfl, fun y hy => by obtain ⟨s1, s2⟩ := hy; go_simp⟩) HSX.out ?_
  simp only [Act.put, List.getElem_toArray, List.getElem_cons_succ, List.getElem_cons_zero, List.setIfInBounds_toArray, List.set_cons_succ, List.set_cons_zero]
  refine anyZ_take (i := 5) (v := (.slice ra rn rc)) rfl (by kernel_rfl) (by kernel_rfl) (by kernel_rfl) (by kernel_rfl) (fun c a w h => h) (.inl ⟨by kernel_rfl, fun y hy => by obtain ⟨s1, s2⟩ := hy; have c := HX7.out y s1; go_simp⟩) HSX.out ?_
  simp only [Act.put, List.getElem_toArray, List.getElem_cons_succ, List.getElem_cons_zero, List.setIfInBounds_toArray, List.set_cons_succ, List.set_cons_zero]
  refine anyZ_take (i := 7) (v := (.pointer (some ⟨w.heap.size, 0, none⟩))) rfl (by kernel_rfl) (by kernel_rfl) (by kernel_rfl) (by kernel_rfl) (fun c a w h => h) (.inl ⟨by kernel_rfl, fun y hy => by obtain ⟨s1, s2⟩ := hy; go_simp⟩) HSX.out ?_
  simp only [Act.put, List.getElem_toArray, List.getElem_cons_succ, List.getElem_cons_zero, List.setIfInBounds_toArray, List.set_cons_succ, List.set_cons_zero]
  refine anyZ_take (i := 8) (v := (.slice sa sn sc)) rfl (by kernel_rfl) (by kernel_rfl) (by kernel_rfl) (by kernel_rfl) (fun c a w h => h) (.inl ⟨by kernel_rfl, fun y hy => by obtain ⟨s1, s2⟩ := hy; have c : y.cell? ⟨w.heap.size, 0, none⟩ = some (.slice sa sn sc) := cell_of_row _ _ _ _ _ _ s2; go_simp⟩) HSX.out ?_
  simp only [Act.put, List.getElem_toArray, List.getElem_cons_succ, List.getElem_cons_zero, List.setIfInBounds_toArray, List.set_cons_succ, List.set_cons_zero]
  refine anyZ_val (i := 0) (v := .slice (some ⟨xd.heap.size, 0, none⟩) 0 0) (w' := xd.alloc (.cells #[] 99)) rfl (by kernel_rfl) (by kernel_rfl) (by go_simp) (fun _ => ⟨HSX.out.1.up ((Up.refl xd).alloc _), HSX.out.2.up ((Up.refl xd).alloc _)⟩) ?_
  simp only [Act.put, List.getElem_toArray, List.getElem_cons_succ, List.getElem_cons_zero, List.setIfInBounds_toArray, List.set_cons_succ, List.set_cons_zero]
  have HUA := Lib.hid (HUD.out.alloc (.cells #[] 99))
  have HSA : Hid (BoxC (xd.alloc (.cells #[] 99)) (w.heap.size + 1) 50 cs ∧ BoxC (xd.alloc (.cells #[] 99)) w.heap.size 27 #[.slice sa sn sc, .slice ca cn cc, .slice pa pn pc, .slice (some ⟨g, o, none⟩) dn dc, .slice oa on_ oc]) := Lib.hid ⟨HSX.out.1.up ((Up.refl xd).alloc _), HSX.out.2.up ((Up.refl xd).alloc _)⟩
  have HE0 := Lib.hid (own_empty (α := Ax) (k := 3) (R0 := axR w) (base := xd.heap.size) (heap_alloc_new xd (.cells #[] 99)) (Nat.le_refl _))
  have HM0 : Hid (LsAt 3 48 (fun _ => axR w) (xd.alloc (.cells #[] 99)) (.slice ma mn mc) dd.dims) := Lib.hid (LsAt.up (fun _ _ _ _ h _ => h) (show LsAt 3 48 (fun _ => axR w) w (.slice ma mn mc) dd.dims from HM.out) HUA.out)
  have h48 : (0 + mn) * 48 ≤ 140737488355328 := by omega
  have HAPP := Lib.hid (app_row (dst := 39) rowT_ax (fun f x h => axR_k.one w f x h) (n := 0) (mm := mn) rfl HMN.out HE0.out HM0.out h48 (by decide) (by simp))
  refine HAPP.out.elim fun va h1 => h1.elim fun vc h2 => h2.elim fun y2 h3 => ?_
  have HRU := Lib.hid h3.1
  have HO1 : Hid (OwnR 3 (axR w) xd.heap.size 99 y2 (.slice va (0 + mn) vc) ([] ++ dd.dims)) := Lib.hid h3.2.1
  have HG1 := Lib.hid h3.2.2
  have HU3 := Lib.hid (HUA.out.grown' h3.2.2 fun k e => by have := HE0.out.base k e; have := HUD.out.size; omega)
  have hlx : w.heap.size + 1 < xd.heap.size := HSX.out.1.lt
  have HS3 : Hid (BoxC y2 (w.heap.size + 1) 50 cs ∧ BoxC y2 w.heap.size 27 #[.slice sa sn sc, .slice ca cn cc, .slice pa pn pc, .slice (some ⟨g, o, none⟩) dn dc, .slice oa on_ oc]) := Lib.hid ⟨HSA.out.1.kept h3.2.2 (fun e => by have := HE0.out.base _ e.symm; omega), HSA.out.2.kept h3.2.2 (fun e => by have := HE0.out.base _ e.symm; omega)⟩
  have HYS : Hid (xd.heap.size ≤ y2.heap.size) := Lib.hid (by have := HG1.out.size; simp only [World.size_alloc] at this; omega)
  clear h1 h2 h3 HAPP h48
  refine anyZ_val (i := 3) (oi := { dst := some 42, op := .call { callee := .builtin .append, args := #[.tmp 39, .tmp 41], argTypes := #[39, 39] }, type := 39, pos := "ref.go:236", after := #[{ on := 0, ground := .data }, { on := 2, ground := .data }], guard := none }) (v := .slice va (0 + mn) vc) (w' := y2) rfl (by kernel_rfl) (by kernel_rfl) (exec_app (vx := .slice (some ⟨xd.heap.size, 0, none⟩) 0 0) (vy := .slice ma mn mc) (by rfl) (by rfl) HRU.out) (fun _ => HS3.out) ?_
  simp only [Act.put, List.getElem_toArray, List.getElem_cons_succ, List.getElem_cons_zero, List.setIfInBounds_toArray, List.set_cons_succ, List.set_cons_zero]
  have HR0 : Hid (LsAt 3 48 (fun _ => axR w) y2 (.slice ra rn rc) dd.red) := Lib.hid (LsAt.up (fun _ _ _ _ h _ => h) (show LsAt 3 48 (fun _ => axR w) w (.slice ra rn rc) dd.red from HR.out) HU3.out)
  have h48 : (0 + mn + rn) * 48 ≤ 140737488355328 := by omega
  have HAPP := Lib.hid (app_row (dst := 39) rowT_ax (fun f x h => axR_k.one w f x h) (n := 0 + mn) (mm := rn) (by rw [List.nil_append, HMN.out, Nat.zero_add]) HRN.out HO1.out HR0.out h48 (by decide) HYS.out)
  refine HAPP.out.elim fun vb h1 => h1.elim fun vd h2 => h2.elim fun y3 h3 => ?_
  have HRV := Lib.hid h3.1
  have HO2 : Hid (OwnR 3 (axR w) xd.heap.size 99 y3 (.slice vb (0 + mn + rn) vd) (([] ++ dd.dims) ++ dd.red)) := Lib.hid h3.2.1
  have HU4 := Lib.hid (HU3.out.grown' h3.2.2 fun k e => by have := HO1.out.base k e; have := HUD.out.size; omega)
  have HS4 : Hid (BoxC y3 (w.heap.size + 1) 50 cs ∧ BoxC y3 w.heap.size 27 #[.slice sa sn sc, .slice ca cn cc, .slice pa pn pc, .slice (some ⟨g, o, none⟩) dn dc, .slice oa on_ oc]) := Lib.hid ⟨HS3.out.1.kept h3.2.2 (fun e => by have := HO1.out.base _ e.symm; omega), HS3.out.2.kept h3.2.2 (fun e => by have := HO1.out.base _ e.symm; omega)⟩
  clear h1 h2 h3 HAPP h48
  refine anyZ_val (i := 6) (oi := { dst := some 45, op := .call { callee := .builtin .append, args := #[.tmp 42, .tmp 44], argTypes := #[39, 39] }, type := 39, pos := "ref.go:236", after := #[{ on := 3, ground := .data }, { on := 5, ground := .data }, { on := 3, ground := .chain }], guard := none }) (v := .slice vb (0 + mn + rn) vd) (w' := y3) rfl (by kernel_rfl) (by kernel_rfl) (exec_app (vx := .slice va (0 + mn) vc) (vy := .slice ra rn rc) (by rfl) (by rfl) HRV.out) (fun _ => HS4.out) ?_
  simp only [Act.put, List.getElem_toArray, List.getElem_cons_succ, List.getElem_cons_zero, List.setIfInBounds_toArray, List.set_cons_succ, List.set_cons_zero]
  have HLX : Hid (LsAt 3 48 axR y3 (.slice vb (0 + mn + rn) vd) (([] ++ dd.dims) ++ dd.red)) := Lib.hid ((OwnL.ls (B := 48) HO2.out (by decide) (by rw [List.length_append, List.nil_append, HMN.out, HRN.out]; omega)).turn fun f x h => axR_up _ _ _ _ h HU4.out)
  have HAXC := Lib.hid (r17_axes y3 (.slice vb (0 + mn + rn) vd) (.slice sa sn sc) (([] ++ dd.dims) ++ dd.red) sizes HLX.out (HS.out.up strR_up HU4.out) (by rw [List.length_append, List.nil_append, HMN.out, HRN.out]; omega) (by rw [HSN.out]; exact HSB.out))
  refine anyZ_enter (i := 9) (f := 44) (args := #[.slice vb (0 + mn + rn) vd, .slice sa sn sc]) rfl (by kernel_rfl) (by kernel_rfl) (by go_simp) (HAXC.out.mono ?_)
  rintro e y4 ⟨fa, rfl, hy, -⟩
  have HU5 := Lib.hid (HU4.out.trans hy)
  have HE5 := Lib.hid (HS4.out.1.up hy)
  have HP5 := Lib.hid (HS4.out.2.up hy)
  refine ⟨_, rfl, fun _ => ⟨HE5.out, HP5.out⟩, ?_⟩
  clear hy HAXC HLX HO2 HRV HRU HO1 HG1 HS3 HS4 HU3 HU4 HYS HR0 HM0 HE0 HSA HUA HSX HUD hlx
  simp only [Act.put, List.getElem_toArray, List.getElem_cons_succ, List.getElem_cons_zero, List.setIfInBounds_toArray, List.set_cons_succ, List.set_cons_zero]
  refine anyZ_val (i := 10) (v := .int .i64 fa) (w' := y4) rfl (by kernel_rfl) (by kernel_rfl) (by go_simp) (fun h => absurd rfl h) ?_
  simp only [Act.put, List.getElem_toArray, List.getElem_cons_succ, List.getElem_cons_zero, List.setIfInBounds_toArray, List.set_cons_succ, List.set_cons_zero]
  refine anyZ_done (by kernel_rfl) ?_
  by_cases hf0 : fa = 0
  case neg =>
    have e1 : (fa == 0) = false := by simpa using hf0
    have e2 : (fa != 0) = true := by simpa using hf0
    have HF0 := Lib.hid hf0
    clear hf0
    go_wp2
    go_ret
    exact ⟨fa, rfl, HU5.out, fun h => absurd h HF0.out⟩
  case pos =>
  subst hf0
  have HRE := Lib.hid (fun y (hy : Up w y) => r17_reduction N y (.agg cs) dd (HDA.out.up hy))
  have HLY := Lib.hid (HXD.out _ HE5.out)
  go_wp2_with (refine st_load HLY.out (by rfl) ?_)
  refine (HRE.out _ HU5.out).mono ?_
  rintro e y6 ⟨fb, rfl, hy, -⟩
  have HU6 := Lib.hid (HU5.out.trans hy)
  have HE6 := Lib.hid (HE5.out.up hy)
  have HP6 := Lib.hid (HP5.out.up hy)
  clear hy HU5 HE5 HP5 HLY HRE
  by_cases hf0 : fb = 0
  case neg =>
    have e1 : (fb == 0) = false := by simpa using hf0
    have e2 : (fb != 0) = true := by simpa using hf0
    have HF0 := Lib.hid hf0
    clear hf0
    go_wp2
    go_ret
    exact ⟨fb, rfl, HU6.out, fun h => absurd h HF0.out⟩
  case pos =>
  subst hf0
  obtain ⟨p0, p1, p2, p3, p4⟩ := HP6.out.five
  have psz := HP6.out.lt
  have esz := HE6.out.lt
  have hkc : k ≤ dc := by
    obtain ⟨a', c', e, h⟩ := HD.out.shape
    simp only [Value.slice.injEq] at e
    have := HDN.out
    omega
  have hkcI : (k : Int) ≤ dc := by omega
  have HXDX := Lib.hid (fun x (hx : Up y6 x) => HXD.out x (HE6.out.up hx))
  have HXEX := Lib.hid (fun x (hx : Up y6 x) => HXE.out x (HE6.out.up hx))
  have HIN := Lib.hid (fun x (hx : Up y6 x) => r17_IndexNames N x (.agg cs) dd (HDA.out.up (HU6.out.trans hx)) HBD.out.1 HBD.out.2.1)
  obtain ⟨es, hes⟩ : ∃ es, cs.extract 9 (9 + 13) = es := ⟨_, rfl⟩
  have HTO : Hid (∀ x, Up y6 x → ∀ vv vs, LsAt 1 16 strR x vv vs → Calls Tryz.prog 46 #[.agg #[.slice sa sn sc, .slice none 0 0, .slice pa pn pc, .slice (some ⟨g, o, none⟩) k dc, .slice none 0 0], vv, .agg es] x fun e' w' => TypQ (ReadsP CP dd.body) x e' w') := Lib.hid (fun x hx vv vs hvv => by
    have hu := HU6.out.trans hx
    have hP : ProgAt N x (.agg #[.slice sa sn sc, .slice none 0 0, .slice pa pn pc, .slice (some ⟨g, o, none⟩) k dc, .slice none 0 0]) CP := by
      rw [← HCP.out]
      exact ProgAt.mk (HS.out.up strR_up hu) (LsAt.nil _ _ _ _) (HP.out.up parR_up hu) ((HD.out.take k (by rw [HDN.out]; omega)).up (defR_up N) hu) (LsAt.nil _ _ _ _)
    exact r17_TypeOf N N x _ vv (.agg es) CP vs dd.body hP HBC.out hvv (hes ▸ (HCA.out.body.ex.up hu)) HBD.out.2.2)
  rw [hes] at HXEX
  rw [HRP0.out] at HTO
  clear hes HXE
  go_upto_region 15 with fail
  refine wp_region_lateD 18 16 _ (defM RP) (by kernel_rfl) (by kernel_rfl) rfl ?_
  simp only [List.take_succ_cons, List.take_zero, List.drop_succ_cons, List.drop_zero, Act.put]
  iterate 9 (refine wpMd_quietG antiF_post (by kernel_rfl) ?_; intro S hm hk'; clear hm hk'; go_big_quiet_step (fail); refine wpQuiet_nil ?_)
  refine wpMd_loadG antiF_post HXDX.out (by rfl) ?_
  intro S hm
  clear hm
  simp only [Act.put, List.setIfInBounds_toArray, List.set_cons_succ, List.set_cons_zero]
  refine wpMd_enterG antiF_post 47 #[.agg cs] (defM_up _ _ _) (by kernel_rfl) (fun x => by go_simp) (fun x hx hd => (HIN.out x hx).mono fun e w' ⟨u, l, h1, h2, h3⟩ => ⟨u, h1, h2, fun _ => ⟨l, h3⟩, fun e => by cases e⟩) ?_
  rintro vv - S hm hk'
  have HF10 := Lib.hid (fun x hx => (hk' x hx).1.1 rfl)
  clear hm hk'
  simp only [Act.put, List.setIfInBounds_toArray, List.set_cons_succ, List.set_cons_zero]
  refine wpMd_quietG antiF_post (by kernel_rfl) ?_
  intro S hm hk'
  replace HF10 := Lib.hid (fun x hx => HF10.out x (hm _ x hx))
  clear hm hk'
  go_big_quiet_step (fail)
  refine wpQuiet_nil ?_
  refine wpMd_loadG antiF_post HXEX.out (by rfl) ?_
  intro S hm
  replace HF10 := Lib.hid (fun x hx => HF10.out x (hm _ x hx))
  clear hm
  simp only [Act.put, List.setIfInBounds_toArray, List.set_cons_succ, List.set_cons_zero]
  refine wpMd_enterG antiF_post 46 #[.agg #[.slice sa sn sc, .slice none 0 0, .slice pa pn pc, .slice (some ⟨g, o, none⟩) k dc, .slice none 0 0], vv, .agg es] (defM_up _ _ _) (by kernel_rfl) (fun x => by go_simp) (fun x hx hd => by
    obtain ⟨l, hl⟩ := HF10.out x (hd { on := 10, ground := Ground.data } (by simp) rfl)
    exact (HTO.out x hx vv l hl).mono fun e w' ⟨t, f, h1, h2, h3⟩ => ⟨_, h1, h2, (fun e => by cases e), fun _ => ⟨t, f, rfl, h3⟩⟩) ?_
  rintro v ⟨y', -, hM⟩ S hm hk'
  obtain ⟨t, f, rfl, hf⟩ := hM.2 rfl
  have HFF := Lib.hid hf
  clear hm hk' HF10 hM hf
  simp only [Act.put, List.setIfInBounds_toArray, List.set_cons_succ, List.set_cons_zero]
  iterate 3 (refine wpMd_quietG antiF_post (by kernel_rfl) ?_; intro S hm hk'; clear hm hk'; go_big_quiet_step (fail); refine wpQuiet_nil ?_)
  refine wpMd_allocG antiF_post #[.int .i64 0, .int .i64 0, .int .i64 0, .int .i64 0, .int .i64 0] 38 (by kernel_rfl) (fun x => by go_simp) ?_
  intro gb hgb S hm hk'
  have HBX := Lib.hid hk'
  clear hm hk'
  simp only [Act.put, List.setIfInBounds_toArray, List.set_cons_succ, List.set_cons_zero]
  refine wpMd_nil ?_
  intro z7 hz hS
  have HBG := Lib.hid (show BoxC z7 gb 38 #[.int .i64 0, .int .i64 0, .int .i64 0, .int .i64 0, .int .i64 0] from HBX.out z7 (hS _))
  have HZ := Lib.hid hz
  have HGG := Lib.hid hgb
  clear hS hz hgb HBX p0 p1 p2 p3 p4 psz esz HXDX HXEX HIN HTO
  have HST := Lib.hid (put_typ HBG.out rfl t)
  refine outL_store HST.out (by rfl) (by rfl) ?_
  simp only [Act.put]
  have HUR := Lib.hid (HZ.out.row (g := gb) HGG.out (typC t))
  have HB11 := Lib.hid (HBG.out.row (typC t))
  generalize z7.setRow gb (typC t) = z8 at *
  have HU8 := Lib.hid (HU6.out.trans HUR.out)
  have HE8 := Lib.hid (HE6.out.up HUR.out)
  clear HST HUR HBG HZ HU6 HE6 HP6
  by_cases hf0 : f = 0
  case neg =>
    have e1 : (f == 0) = false := by simpa using hf0
    have e2 : (f != 0) = true := by simpa using hf0
    have HF0 := Lib.hid hf0
    clear hf0
    go_wp2
    go_ret
    exact ⟨f, rfl, HU8.out, fun h => absurd h HF0.out⟩
  case pos =>
  subst hf0
  have HRP := Lib.hid (HFF.out rfl)
  obtain ⟨q, hq⟩ : ∃ q, ∀ W : World, (binOp .neq 38 (typV t) (typV dd.ty)).run Tryz.prog W = .ok (.bool q) W := run_neq_ty _ _ _ _ _ _ _ _ _ _
  have HLA := Lib.hid (run_typ (cs := typC t) rfl HB11.out.range)
  have HLB := Lib.hid (HXT.out _ HE8.out)
  clear HFF
  cases q
  · go_wp2_with (first | (refine st_load HLA.out (by rfl) ?_) | (refine st_load HLB.out (by rfl) ?_))
    go_ret
    exact ⟨0, rfl, HU8.out, fun _ => ⟨HOK.out, HRP.out⟩⟩
  · go_wp2_with (first | (refine st_load HLA.out (by rfl) ?_) | (refine st_load HLB.out (by rfl) ?_))
    go_ret
    exact ⟨10, rfl, HU8.out, fun h => absurd h (by decide)⟩
end Go.Proofs.YtpccaifhcmcegaaGreat
