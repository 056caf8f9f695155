/-
  Joined by a program: DgC5, DgC6.
-/
import Derived.Test.YtpccaifhcmcegaaGreatDgC4
import Derived.Test.YtpccaifhcmcegaaGreatHi

section
namespace Go.Proofs.YtpccaifhcmcegaaGreat
set_option linter.unusedSimpArgs false
open Go.ChangeShapes Go.WideShapes Go.ChangeAt Go.RowKit
set_option linter.unusedVariables false
set_option maxRecDepth 100000

set_option maxHeartbeats 8000000 in
theorem ex_Copy (n : Nat) (X : Nat → Prop) (cs : Array Value) (e : Ex) (w : World) (hcs : cs.size = 13) (hX : ∀ b, X b → b < w.heap.size) (hfr : Fr X (fun y => exR n y (fun j => cs.getD j undef) e) w) :
    Calls Tryz.prog 39 #[.agg cs] w fun r w' => ∃ ds : Array Value, r = .returned (.agg ds) ∧ ds.size = 13 ∧ Up w w' ∧ Fr X (fun y => exR n y (fun j => ds.getD j undef) e) w' := by
  have HU0 := Lib.hid (((Up.refl w).alloc (.cells cs 48)).alloc (.cells #[.int .i64 0, .string ByteArray.empty, .int .i64 0, .int .i64 0, .int .i64 0, .int .i64 0, .int .i64 0, .int .i64 0, .int .i64 0, .int .i64 0, .slice none 0 0, .slice none 0 0, .slice none 0 0] 48))
  have HLD := Lib.hid (run_ex (w := (w.alloc (.cells cs 48)).alloc (.cells #[.int .i64 0, .string ByteArray.empty, .int .i64 0, .int .i64 0, .int .i64 0, .int .i64 0, .int .i64 0, .int .i64 0, .int .i64 0, .int .i64 0, .slice none 0 0, .slice none 0 0, .slice none 0 0] 48)) hcs (((BoxC.new w 48 cs).up ((Up.refl _).alloc (.cells #[.int .i64 0, .string ByteArray.empty, .int .i64 0, .int .i64 0, .int .i64 0, .int .i64 0, .int .i64 0, .int .i64 0, .int .i64 0, .int .i64 0, .slice none 0 0, .slice none 0 0, .slice none 0 0] 48))).range))
  have HZ0 := Lib.hid (BoxC.new2 w (.cells cs 48) 48 #[.int .i64 0, .string ByteArray.empty, .int .i64 0, .int .i64 0, .int .i64 0, .int .i64 0, .int .i64 0, .int .i64 0, .int .i64 0, .int .i64 0, .slice none 0 0, .slice none 0 0, .slice none 0 0])
  have HX := Lib.hid hX
  have HCL := Lib.hid (ex_mapForms n (fun b => X b ∨ (w.heap.size ≤ b ∧ b ≤ w.heap.size + 1)) cs e ((w.alloc (.cells cs 48)).alloc (.cells #[.int .i64 0, .string ByteArray.empty, .int .i64 0, .int .i64 0, .int .i64 0, .int .i64 0, .int .i64 0, .int .i64 0, .int .i64 0, .int .i64 0, .slice none 0 0, .slice none 0 0, .slice none 0 0] 48)) hcs (fun b h => by simp only [World.size_alloc]; rcases h with h | h; have := hX b h; omega; omega) ((hfr.wide HU0.out).less fun b _ h => h.imp id fun h => h.1))
  clear hcs hX hfr
  go_enter Tryz.func39, Tryz.ntmps39
  go_wp2_with (first
    | (refine st_load HLD.out (by rfl) ?_)
    | (go_at_call 59; (with_reducible refine HCL.out.mono ?_); rintro e' W2 ⟨ds, rfl, hds, hy, hfr⟩; have HDS := Lib.hid hds; have HU2 := Lib.hid hy; have HF2 := Lib.hid hfr;
        have HFL := Lib.hid (run_fill (P := Tryz.prog) (k := 13) ex_i W2 (Z := #[.int .i64 0, .string ByteArray.empty, .int .i64 0, .int .i64 0, .int .i64 0, .int .i64 0, .int .i64 0, .int .i64 0, .int .i64 0, .int .i64 0, .slice none 0 0, .slice none 0 0, .slice none 0 0]) (cs := ds) rfl hds (CsAt.one (exR_k n) ⟨hds, hfr.here⟩));
        have HL2 := Lib.hid (run_ex (w := W2.alloc (.cells ds 48)) hds (BoxC.new W2 48 ds).range);
        have HPT := Lib.hid (run_put (P := Tryz.prog) (k := 13) ex_i ((HZ0.out.up hy).up ((Up.refl W2).alloc (.cells ds 48))) rfl hds (CsAt.one (exR_k n) ⟨hds, hfr.here⟩));
        clear hds hy hfr HLD)
    | (refine st_store HFL.out (by rfl) (by rfl) ?_)
    | (refine st_load HL2.out (by rfl) ?_)
    | (refine st_store HPT.out (by rfl) (by rfl) ?_))
  have HB := Lib.hid (((HZ0.out.up HU2.out).up ((Up.refl W2).alloc (.cells ds 48))).row ds)
  have hkr := setRow_by (W2.alloc (.cells ds 48)) (w.heap.size + 1) ds
  refine bodyPost_ret (v := .agg ds) (results_c1 (by rfl) (by rfl) (run_exV HDS.out HB.out.range)) rfl ⟨ds, rfl, HDS.out, ((HU0.out.trans HU2.out).alloc _).grown' hkr (fun k e => by cases e; exact Nat.le_succ _), ?_⟩
  exact (HF2.out.up ((Up.refl W2).alloc _)).to (Kp.of_by (X := fun b => b = w.heap.size + 1) hkr (fun g e => (Option.some.inj e).symm)) (fun b _ e => .inr (by omega)) (fun _ _ h => .inl h)
end Go.Proofs.YtpccaifhcmcegaaGreat
end

section
namespace Go.Proofs.YtpccaifhcmcegaaGreat
set_option linter.unusedSimpArgs false
open Go.ChangeShapes Go.WideShapes Go.ChangeAt Go.RowKit
set_option linter.unusedVariables false
set_option maxRecDepth 100000

theorem con_u : ∃ d, Tryz.prog.underlying 71 = some d ∧ d.isRow = true := ⟨_, Tryz.underlying71, rfl⟩
theorem con_info' : (Tryz.prog.info? 71).map (·.size) = some 3 := by kernel_rfl
theorem rowT_con : RowT 23 71 3 40 := rowT_of (z := .agg #[.int .i64 0, .slice none 0 0, .bool false]) Tryz.underlying23 (by kernel_rfl) rfl (by decide)
/-- A constraint of a list. -/
theorem LsAt.cnE {w : World} {a : Option Addr} {n c : Nat} {l : List Con} (h : LsAt 3 40 conR w (.slice a n c) l) (i : Nat) (hi : i < l.length) :
    ∃ (g o : Nat) (va : Option Addr) (vc : Nat), a = some ⟨g, o, none⟩ ∧ g < w.heap.size ∧ LsAt 2 24 monR w (.slice va l[i].1.2.length vc) l[i].1.2 ∧ ∀ y, Up w y → (Instr.loadAt 71 (.pointer (some ⟨g, o + i * 3, none⟩))).run Tryz.prog y = .ok (.agg #[.int .i64 l[i].1.1, .slice va l[i].1.2.length vc, .bool l[i].2]) y := by
  obtain ⟨g, o, cs, e, hg, hc, hr⟩ := h.row conR_k i hi
  have h0 : cs.getD 0 undef = .int .i64 l[i].1.1 := hc.2.1.1
  have h1 : LsAt 2 24 monR w (cs.getD 1 undef) l[i].1.2 := hc.2.1.2
  have h2 : cs.getD 2 undef = .bool l[i].2 := hc.2.2
  obtain ⟨va, vc, e1, _⟩ := h1.shape
  have e2 := arr3 hc.1
  rw [h0, e1, h2] at e2
  rw [e1] at h1
  obtain ⟨d, u1, u2⟩ := con_u
  exact ⟨g, o, va, vc, e, hg, h1, fun y hy => by have h3 := run_cs u1 u2 con_info' hc.1 (hr y hy); rw [e2] at h3; exact h3⟩
theorem par_u : ∃ d, Tryz.prog.underlying 55 = some d ∧ d.isRow = true := ⟨_, Tryz.underlying55, rfl⟩
theorem par_info : (Tryz.prog.info? 55).map (·.size) = some 7 := by kernel_rfl
theorem rowT_par : RowT 24 55 7 80 := rowT_of (z := .agg #[.string ByteArray.empty, .int .i64 0, .int .i64 0, .int .i64 0, .int .i64 0, .int .i64 0, .slice none 0 0]) Tryz.underlying24 (by kernel_rfl) rfl (by decide)
def FunR {α : Type} (R : Rel α) : Prop := ∀ w f x y, R w f x → R w f y → x = y
theorem ls_fun {α : Type} {k B : Nat} {R : Rel α} (hk : 0 < k) (hR : Rk k R) (hf : FunR R) {w : World} {v : Value} {l m : List α} (h : LsAt k B R w v l) (k' : LsAt k B R w v m) : l = m := by
  obtain ⟨⟨a, c, e, _⟩, _, F, hF, hf1⟩ := h
  obtain ⟨⟨a', c', e', _⟩, _, G, hG, hg1⟩ := k'
  subst e
  simp only [Value.slice.injEq] at e'
  obtain ⟨rfl, hl, rfl⟩ := e'
  refine List.ext_getElem hl fun i h1 h2 => ?_
  have hG' : SlAt w (.slice a l.length c) l.length k G := by have h5 := hG; rwa [← hl] at h5
  exact hf w (F i) _ _ (hf1 i h1) (hR.congr _ _ _ _ (hg1 i h2) fun j hj => (SlAt.agree hF hG' i j h1 hj).symm)
theorem mon_fun : FunR monR := fun w f x y ⟨⟨h1, _⟩, h2⟩ ⟨⟨k1, _⟩, k2⟩ => by
  rw [h1] at k1; rw [h2] at k2
  injection k1 with k1
  injection k2 with _ k2
  exact Prod.ext k1 k2
theorem lin_fun : FunR linR := fun w f x y ⟨h1, h2⟩ ⟨k1, k2⟩ => by
  rw [h1] at k1
  injection k1 with _ k1
  exact Prod.ext k1 (ls_fun (by decide) monR_k mon_fun h2 k2)
theorem ax_fun {w : World} {v : Value} {l m : List Ax} (h : LsAt 3 48 axR w v l) (k : LsAt 3 48 axR w v m) : l = m := ls_fun (by decide) axR_k (fun w f x y ⟨⟨h1, _⟩, h2⟩ ⟨⟨k1, _⟩, k2⟩ => by
  rw [h1] at k1
  injection k1 with k1
  exact Prod.ext k1 (lin_fun _ _ _ _ h2 k2)) h k
theorem LsAt.len {α : Type} {k B : Nat} {R : Rel α} {w : World} {a : Option Addr} {n c : Nat} {l : List α} (h : LsAt k B R w (.slice a n c) l) : l.length = n := by
  obtain ⟨⟨a', c', e, _⟩, _⟩ := h
  simp only [Value.slice.injEq] at e
  exact e.2.1.symm
theorem str_fun {w : World} {v : Value} {l m : List ByteArray} (h : LsAt 1 16 strR w v l) (k : LsAt 1 16 strR w v m) : l = m := by
  obtain ⟨⟨a, c, e, _⟩, _, F, hF, hf⟩ := h
  obtain ⟨⟨a', c', e', _⟩, _, G, hG, hg⟩ := k
  subst e
  simp only [Value.slice.injEq] at e'
  obtain ⟨rfl, hl, rfl⟩ := e'
  refine List.ext_getElem hl fun i h1 h2 => ?_
  have h3 := (hf i h1).1
  have h4 := (hg i h2).1
  rw [SlAt.agree hF (by have h5 := hG; rwa [← hl] at h5) i 0 h1 (by decide), h4] at h3
  injection h3 with h3
  exact h3.symm
theorem own_ty {w : World} {base n k : Nat} {e : TypeId} {v : Value} {xs : List Value} (h : w.ownsRow base e k v n xs) : ∀ g, v.ownBlock = some g → ∃ cs, w.heap[g]? = some (.cells cs e (0, 0)) := fun g hg => by
  rcases h.2 with ⟨rfl, _⟩ | ⟨g', cap, cur, rfl, hb, hh, _⟩
  · cases hg
  · cases hg; exact ⟨_, hh⟩
theorem clone_strM {W x : World} {v : Value} {l0 : List ByteArray} (hx : Up W x) (hv : LsAt 1 16 strR W v l0) :
    Calls Tryz.prog 35 #[v] x fun e x' => ∃ u, e = .returned u ∧ Up x x' ∧ ∀ l, LsAt 1 16 strR W v l → ∃ a c F, u = .slice a l.length c ∧ OwnF x' W.heap.size 9 1 (.slice a l.length c) l.length F ∧ ∀ i (h : i < l.length), strQ (F i) l[i] := by
  obtain ⟨h1, hb, F, hS, hE⟩ := hv.up strR_up hx
  exact (clone_str v l0.length F x hS (fun i j hi hj => strR_k.one x _ _ (hE i hi) j hj) hb).mono fun e w' ⟨a, c, he, hu, ho⟩ => ⟨_, he, hu, fun l hl => by
    obtain rfl := str_fun hv hl
    exact ⟨a, c, F, rfl, own_from ho _ hx.size, hE⟩⟩
theorem OwnF.strs {w : World} {base n : Nat} {a : Option Addr} {c : Nat} {F : Nat → Nat → Value} {l : List ByteArray} (h : OwnF w base 9 1 (.slice a n c) n F) (hn : l.length = n) (hb : n * 16 ≤ 140737488351232) (hF : ∀ i (h : i < l.length), strQ (F i) l[i]) : LsAt 1 16 strR w (.slice a n c) l := by
  subst hn
  exact ⟨⟨a, c, rfl, own_cap h⟩, hb, F, SlAt.of_own h (by omega) fun i j hi hj => flat_get F _ _ _ _ hi hj, hF⟩

set_option maxHeartbeats 32000000 in
theorem p_Copy (N : Nat) (p : Pg) (v : Value) (w s0 : World) (hv : ProgAt N w v p) (hs0 : Up w s0) :
    Calls Tryz.prog 20 #[v] s0 fun e w' => ∃ u, e = .returned u ∧ Up s0 w' ∧ Fr (fun b => w.heap.size ≤ b ∧ b < s0.heap.size) (fun y => ProgAt N y u p) w' := by
  have hws := hs0.size
  obtain ⟨sa, sc, ca, cc, pa, pc, da, dc, oa, oc, rfl, hs, hcn, hp, hd, ho⟩ := hv.open
  obtain ⟨sizes, cons, pars, defs, outs⟩ := p
  dsimp only at *
  obtain ⟨sn, hsn⟩ : ∃ q, sizes.length = q := ⟨_, rfl⟩
  obtain ⟨cn, hcnn⟩ : ∃ q, cons.length = q := ⟨_, rfl⟩
  obtain ⟨pn, hpn⟩ : ∃ q, pars.length = q := ⟨_, rfl⟩
  obtain ⟨dn, hdn⟩ : ∃ q, defs.length = q := ⟨_, rfl⟩
  obtain ⟨on_, hon⟩ : ∃ q, outs.length = q := ⟨_, rfl⟩
  rw [hsn] at hs hv ⊢
  rw [hcnn] at hcn hv ⊢
  rw [hpn] at hp hv ⊢
  rw [hdn] at hd hv ⊢
  rw [hon] at ho hv ⊢
  have hdI : (dn : Int) ≤ 140737488351232 := by have := hd.bytes; rw [hdn] at this; omega
  have hpI : (pn : Int) ≤ 140737488351232 := by have := hp.bytes; rw [hpn] at this; omega
  have HV := Lib.hid hv
  have HS := Lib.hid hs
  have HC := Lib.hid hcn
  have HP := Lib.hid hp
  have HD := Lib.hid hd
  have HO := Lib.hid ho
  have HPN := Lib.hid hpn
  have HDN := Lib.hid hdn
  have HON := Lib.hid hon
  clear hs hcn hp hd ho hsn hcnn hpn hdn hon hv
  have hcI : (cn : Int) ≤ 140737488351232 := by have := HC.out.bytes; rw [HC.out.len] at this; omega
  have HU0 : Hid (Up s0 (s0.alloc (.cells #[.slice sa sn sc, .slice ca cn cc, .slice pa pn pc, .slice da dn dc, .slice oa on_ oc] 27))) := Lib.hid ((Up.refl s0).alloc _)
  have HB0 := Lib.hid (BoxC.new s0 27 #[.slice sa sn sc, .slice ca cn cc, .slice pa pn pc, .slice da dn dc, .slice oa on_ oc])
  have HU1 := Lib.hid (HU0.out.alloc (.cells #[.slice none 0 0, .slice none 0 0, .slice none 0 0, .slice none 0 0, .slice none 0 0] 27))
  have HB1 := Lib.hid (HB0.out.up ((Up.refl _).alloc (.cells #[.slice none 0 0, .slice none 0 0, .slice none 0 0, .slice none 0 0, .slice none 0 0] 27)))
  have HB2 := Lib.hid (BoxC.new (s0.alloc (.cells #[.slice sa sn sc, .slice ca cn cc, .slice pa pn pc, .slice da dn dc, .slice oa on_ oc] 27)) 27 #[.slice none 0 0, .slice none 0 0, .slice none 0 0, .slice none 0 0, .slice none 0 0])
  rw [World.size_alloc] at HB2
  go_enter Tryz.func20, Tryz.ntmps20
  go_upto_region 1 with (fail)
  obtain ⟨W, hW⟩ : ∃ W, (s0.alloc (.cells #[.slice sa sn sc, .slice ca cn cc, .slice pa pn pc, .slice da dn dc, .slice oa on_ oc] 27)).alloc (.cells #[.slice none 0 0, .slice none 0 0, .slice none 0 0, .slice none 0 0, .slice none 0 0] 27) = W := ⟨_, rfl⟩
  rw [hW] at HU1 HB1 HB2 ⊢
  clear hW HU0 HB0
  have HSW := Lib.hid (HS.out.up strR_up (hs0.trans HU1.out))
  have HOW := Lib.hid (HO.out.up strR_up (hs0.trans HU1.out))
  obtain ⟨p0, p1, p2, p3, p4⟩ := HB1.out.five
  have ps := HB1.out.lt
  refine wp_region_mk 8 (fun _ args v x => ∀ l, LsAt 1 16 strR W (args.getD 0 undef) l → ∃ a c F, v = .slice a l.length c ∧ OwnF x W.heap.size 9 1 (.slice a l.length c) l.length F ∧ ∀ i (h : i < l.length), strQ (F i) l[i]) (by kernel_rfl) (by kernel_rfl) ?_
  simp only [List.take_succ_cons, List.take_zero, List.drop_succ_cons, List.drop_zero, Act.put]
  iterate 2 (refine wpMk_quiet anti_post (by kernel_rfl) ?_; go_big_quiet_step (fail); refine wpQuiet_nil ?_)
  refine wpMk_enter anti_post 35 #[.slice sa sn sc] (fun v x y h hu l hl => let ⟨a, c, F, h1, h2, h3⟩ := h l hl; ⟨a, c, F, h1, own_up' h2 hu, h3⟩) (by kernel_rfl) (fun x => by go_simp) (fun x hx => (clone_strM hx HSW.out).mono fun e w' ⟨u, h1, h2, h3⟩ => ⟨_, h1, h2, h3⟩) ?_
  rintro v1 ⟨y, hy, hv1⟩
  obtain ⟨s1, s2, FS, e1, -, -⟩ := hv1 _ HSW.out
  subst e1
  simp only [Act.put, List.setIfInBounds_toArray, List.set_cons_succ, List.set_cons_zero]
  iterate 2 (refine wpMk_quiet anti_post (by kernel_rfl) ?_; go_big_quiet_step (fail); refine wpQuiet_nil ?_)
  refine wpMk_enter anti_post 35 #[.slice oa on_ oc] (fun v x y h hu l hl => let ⟨a, c, F, h1, h2, h3⟩ := h l hl; ⟨a, c, F, h1, own_up' h2 hu, h3⟩) (by kernel_rfl) (fun x => by go_simp) (fun x hx => (clone_strM hx HOW.out).mono fun e w' ⟨u, h1, h2, h3⟩ => ⟨_, h1, h2, h3⟩) ?_
  rintro v2 ⟨y2, hy2, hv2⟩
  obtain ⟨t1, t2, FO, e2, -, -⟩ := hv2 _ HOW.out
  subst e2
  simp only [Act.put, List.setIfInBounds_toArray, List.set_cons_succ, List.set_cons_zero]
  iterate 1 (refine wpMk_quiet anti_post (by kernel_rfl) ?_; go_big_quiet_step (fail); refine wpQuiet_nil ?_)
  refine wpMk_alloc anti_post #[.slice none 0 0, .slice none 0 0, .slice none 0 0, .slice none 0 0, .slice none 0 0] 27 (by kernel_rfl) (fun x => by go_simp) ?_
  intro b3 hb3
  simp only [Act.put, List.setIfInBounds_toArray, List.set_cons_succ, List.set_cons_zero]
  refine wpMk_nil ?_
  rintro z hz ⟨⟨⟨-, h1⟩, h2⟩, hA⟩
  have HZ := Lib.hid hz
  have HA := Lib.hid (show BoxC z b3 27 #[.slice none 0 0, .slice none 0 0, .slice none 0 0, .slice none 0 0, .slice none 0 0] from hA)
  obtain ⟨s1', s2', FS', e1, ho1, hq1⟩ := h1 _ HSW.out
  obtain ⟨t1', t2', FO', e2, ho2, hq2⟩ := h2 _ HOW.out
  simp only [Value.slice.injEq, true_and] at e1 e2
  obtain ⟨rfl, rfl⟩ := e1
  obtain ⟨rfl, rfl⟩ := e2
  have HNS := Lib.hid HS.out.len
  have HNO := Lib.hid HO.out.len
  have HNC := Lib.hid HC.out.len
  rw [HNS.out] at ho1 ⊢
  rw [HNO.out] at ho2 ⊢
  have HO1 := Lib.hid ho1
  have HO2 := Lib.hid ho2
  have HQ1 := Lib.hid hq1
  have HQ2 := Lib.hid hq2
  have HPT := Lib.hid (run_put (P := Tryz.prog) (k := 5) prog_info HA.out (cs := #[.slice s1 sn s2, .slice none 0 0, .slice none 0 0, .slice none 0 0, .slice t1 on_ t2]) rfl rfl (by simp [Value.oneCell']))
  clear hz hA h1 h2 ho1 ho2 hq1 hq2 hv1 hv2 hy hy2 p0 p2 p3 p4 ps
  go_upto_region 2 with (refine st_store HPT.out (by rfl) (by rfl) ?_)
  have hkr := setRow_by z b3 #[.slice s1 sn s2, .slice none 0 0, .slice none 0 0, .slice none 0 0, .slice t1 on_ t2]
  have hWw := HU1.out.size
  have hW2 := HB2.out.lt
  have hlt3 := HA.out.lt
  have HUC := Lib.hid ((HU1.out.trans HZ.out).grown' hkr (fun k e => by cases e; omega))
  have HBC := Lib.hid ((HB1.out.up HZ.out).kept hkr (fun e => by have := Option.some.inj e; omega))
  have HB2C := Lib.hid ((HB2.out.up HZ.out).kept hkr (fun e => by have := Option.some.inj e; omega))
  have HB3 := Lib.hid (HA.out.row #[.slice s1 sn s2, .slice none 0 0, .slice none 0 0, .slice none 0 0, .slice t1 on_ t2])
  have HAP : Hid (∀ g cs, z.heap[g]? = some (.cells cs 9 (0, 0)) → some g ≠ some b3) := Lib.hid (fun g cs h e => by cases e; have h2 : z.heap[b3]? = _ := HA.out; rw [h] at h2; cases h2)
  have HO1C := Lib.hid (show OwnF (z.setRow b3 #[.slice s1 sn s2, .slice none 0 0, .slice none 0 0, .slice none 0 0, .slice t1 on_ t2]) W.heap.size 9 1 (.slice s1 sn s2) sn FS' from own_kept HO1.out hkr (fun g hg => by obtain ⟨cs, h⟩ := own_ty HO1.out g hg; exact HAP.out g cs h))
  have HO2C := Lib.hid (show OwnF (z.setRow b3 #[.slice s1 sn s2, .slice none 0 0, .slice none 0 0, .slice none 0 0, .slice t1 on_ t2]) W.heap.size 9 1 (.slice t1 on_ t2) on_ FO' from own_kept HO2.out hkr (fun g hg => by obtain ⟨cs, h⟩ := own_ty HO2.out g hg; exact HAP.out g cs h))
  obtain ⟨W1, hW⟩ : ∃ W, z.setRow b3 #[.slice s1 sn s2, .slice none 0 0, .slice none 0 0, .slice none 0 0, .slice t1 on_ t2] = W := ⟨_, rfl⟩
  have HN3 : Hid (∀ g, (∃ cs, W1.heap[g]? = some (.cells cs 9 (0, 0))) → g ≠ b3) := Lib.hid (by
    intro g hgx e
    obtain ⟨cs, h⟩ := hgx
    have h2 : W1.heap[b3]? = some (.cells #[.slice s1 sn s2, .slice none 0 0, .slice none 0 0, .slice none 0 0, .slice t1 on_ t2] 27 (0, 0)) := by rw [← hW]; exact HB3.out
    rw [e, h2] at h
    cases h)
  rw [hW] at HUC HBC HB2C HB3 HO1C HO2C hkr ⊢
  have hz1 : z.heap.size ≤ W1.heap.size := hkr.size
  have HB3L : Hid (s0.heap.size + 1 < b3 ∧ b3 < W1.heap.size) := Lib.hid ⟨by omega, by omega⟩
  have HWW : Hid (s0.heap.size + 1 < W.heap.size ∧ W.heap.size ≤ W1.heap.size) := Lib.hid ⟨hW2, by have := HZ.out.size; omega⟩
  clear hW hkr hWw hW2 hlt3 hz1 HA HPT HO1 HO2 HAP HZ HB1 HB2 HSW HOW HU1 hb3 p1
  have p1 : W1.cell? ⟨s0.heap.size, 1, none⟩ = some (.slice ca cn cc) := cell_of_row _ _ _ _ _ _ HBC.out
  have ps := HBC.out.lt
  have HNCB : Hid (cn * 40 ≤ 140737488351232) := Lib.hid (by have := HC.out.bytes; rw [HC.out.len] at this; exact this)
  go_upto_region 3 with (fail)
  go_loopw [20] (fun iv wr => ∃ (i : Nat) (ov : Value), iv = .int .i64 i ∧ i ≤ cn ∧ Kp (fun b => b = b3 ∨ W1.heap.size ≤ b) W1 wr ∧ BoxC wr b3 27 #[.slice s1 sn s2, ov, .slice none 0 0, .slice none 0 0, .slice t1 on_ t2] ∧ OwnX 3 conR (fun b => w.heap.size ≤ b ∧ b < W1.heap.size) W1.heap.size 71 wr ov (cons.take i)) (fun iv _ => cn - (intOf iv).toNat)
  case atStart => exact ⟨0, .slice none 0 0, rfl, Nat.zero_le _, Kp.refl _ _, HB3.out, OwnX.nil⟩
  case round =>
    rename World => wr
    obtain ⟨i, ov, rfl, hi, hkp, hbx, hrow⟩ := hrel
    have HKP := Lib.hid hkp
    have HBX := Lib.hid hbx
    have hb3l := HB3L.out
    have hww := HWW.out
    have hnK : ∀ b, b < s0.heap.size + 2 → ¬ (b = b3 ∨ W1.heap.size ≤ b) := fun b hb h => by omega
    have HU := Lib.hid (hkp.after HUC.out fun b hb => hnK b (by omega))
    obtain ⟨ra, rc, rfl⟩ := hrow.shape
    have HTL : Hid ((cons.take i).length = i) := Lib.hid (by rw [List.length_take, HNC.out]; omega)
    rw [HTL.out] at hrow HBX
    have HR := Lib.hid hrow
    clear hkp hbx hrow HB3
    by_cases hlt : i < cn
    · have hltI : (i : Int) < cn := by omega
      have hi1 : i < cons.length := by rw [HNC.out]; exact hlt
      have HTK := Lib.hid (takeS HNC.out hlt)
      obtain ⟨g, o, va, vc, rfl, hg, hms, hld⟩ := HC.out.cnE i hi1
      obtain ⟨x, hx⟩ : ∃ x, cons[i]'hi1 = x := ⟨_, rfl⟩
      have HTK : Hid (cons.take (i + 1) = cons.take i ++ [x]) := Lib.hid (by rw [← hx]; exact HTK.out)
      rw [hx] at hms hld
      obtain ⟨⟨K, ms⟩, q⟩ := x
      dsimp only at hms hld
      obtain ⟨m, hm⟩ : ∃ m, ms.length = m := ⟨_, rfl⟩
      rw [hm] at hms hld
      have hmI : (m : Int) ≤ 140737488351232 := by have := hms.bytes; rw [hm] at this; omega
      have HLD := Lib.hid (hld wr (hs0.trans HU.out))
      have hg' := Nat.lt_of_lt_of_le hg (hs0.trans HU.out).size
      have HFL := Lib.hid (run_fill (P := Tryz.prog) (k := 3) con_info' wr (Z := #[.int .i64 0, .slice none 0 0, .bool false]) (cs := #[.int .i64 K, .slice va m vc, .bool q]) rfl rfl (by simp [Value.oneCell']))
      have HAY := Lib.hid ((Up.refl wr).alloc (.cells #[.int .i64 K, .slice va m vc, .bool q] 71))
      have HBD := Lib.hid (BoxC.new wr 71 #[.int .i64 K, .slice va m vc, .bool q])
      have HCF := Lib.hid (fun y (hy : Up s0 y) => p_copyForm K _ _ m y (hms.up monR_up (hs0.trans hy)) hm)
      clear hx hm hms hld hg hnK p1 ps
      go_upto_region 5 with (first
        | (refine st_load HLD.out (by rfl) ?_)
        | (refine st_store HFL.out (by rfl) (by rfl) ?_))
      obtain ⟨Wa, hW⟩ : ∃ W, wr.alloc (.cells #[.int .i64 K, .slice va m vc, .bool q] 71) = W := ⟨_, rfl⟩
      rw [hW] at HAY HBD ⊢
      have HRA := Lib.hid (HR.out.up HAY.out)
      have HBA := Lib.hid (HBX.out.up HAY.out)
      obtain ⟨d0, d1, d2⟩ := HBD.out.three
      have ds := HBD.out.lt
      obtain ⟨-, q1, -, -, -⟩ := HBA.out.five
      have qs := HBA.out.lt
      clear hW HFL HLD hg'
      refine wp_region_mk 9 (fun _ _ v z => ∃ a c, v = .agg #[.int .i64 K, .slice a m c] ∧ Fr (fun b => b < Wa.heap.size) (fun y => LsAt 2 24 monR y (.slice a m c) ms) z) (by kernel_rfl) (by kernel_rfl) ?_
      simp only [List.take_succ_cons, List.take_zero, List.drop_succ_cons, List.drop_zero, Act.put]
      iterate 4 (refine wpMk_quiet anti_post (by kernel_rfl) ?_; go_big_quiet_step (fail); refine wpQuiet_nil ?_)
      refine wpMk_enter anti_post 36 #[.agg #[.int .i64 K, .slice va m vc]] (fun v z y ⟨a3, c3, h1, h2⟩ hu => ⟨a3, c3, h1, h2.up hu⟩) (by kernel_rfl) (fun z => by go_simp) (fun z hx => (HCF.out z ((HU.out.trans HAY.out).trans hx)).mono fun e w' ⟨a, c, h1, h2, h3⟩ => ⟨_, h1, h2, a, c, rfl, h3.less fun i _ h => Nat.lt_of_lt_of_le h hx.size⟩) ?_
      rintro v ⟨y, hy, a4, c4, rfl, -⟩
      simp only [Act.put, List.setIfInBounds_toArray, List.set_cons_succ, List.set_cons_zero]
      iterate 3 (refine wpMk_quiet anti_post (by kernel_rfl) ?_; go_big_quiet_step (fail); refine wpQuiet_nil ?_)
      refine wpMk_build anti_post rowT_con (by decide) (cs := #[.int .i64 K, .slice a4 m c4, .bool q]) rfl (by rfl) ?_
      intro bb hbb
      simp only [Act.put, List.setIfInBounds_toArray, List.set_cons_succ, List.set_cons_zero]
      refine wpMk_nil ?_
      rintro W2 hW2 ⟨⟨-, a5, c5, hR1, hNL⟩, hA⟩
      simp only [Value.agg.injEq, Array.mk.injEq, List.cons.injEq, Value.slice.injEq, true_and, and_true] at hR1
      obtain ⟨rfl, rfl⟩ := hR1
      have HA := Lib.hid hA
      have HF2 := Lib.hid hNL
      have HW2 := Lib.hid hW2
      have HR3 := Lib.hid (HRA.out.up hW2)
      have haw := HAY.out.size
      have hrk := HKP.out.size
      have HX3 : Hid (Fr (fun b => (w.heap.size ≤ b ∧ b < W1.heap.size) ∨ (Value.slice ra i rc).ownBlock = some b) (fun y => conR y (fun j => (#[.int .i64 K, .slice a4 m c4, .bool q] : Array Value).getD j undef) ((K, ms), q)) W2) := Lib.hid ((HF2.out.mono fun y h => ⟨⟨rfl, h⟩, rfl⟩).less fun j _ hj => by rcases hj with hj | hj; omega; have := HR.out.lt _ hj; omega)
      have HB4 := Lib.hid (HBA.out.up hW2)
      clear hA hNL hW2 hbb hy d0 d1 d2 ds q1 qs
      go_wp2_with (at_builtin; refine st_app1 (b := bb) rowT_con conR_k HTL.out HR3.out rfl HA.out HX3.out (by have := HNCB.out; omega) (by decide) (by have := HW2.out.size; omega) (by rfl) (by rfl) ?_; intro ua uc W4 h1 h2 h3; have HR4 := Lib.hid h1; have HG4 := Lib.hid h2; have hb4 := HB4.out.kept h2 (fun e => by have := HR3.out.low _ e.symm; omega); have HB5 := Lib.hid hb4; obtain ⟨-, q1, -, -, -⟩ := hb4.five; have qs := hb4.lt; have qf := hb4.frozen 1; clear h1 h2 h3 hb4)
      have hgs := set_by W4 b3 1 (.slice ua (i + 1) uc)
      have HKE := Lib.hid (((HKP.out.trans (Kp.of_up (X := fun b => b = b3 ∨ W1.heap.size ≤ b) (HAY.out.trans HW2.out)) (Z := fun b => b = b3 ∨ W1.heap.size ≤ b) (fun _ _ h => h) (fun _ _ h => h)).trans (Kp.of_by (X := fun b => b = b3 ∨ W1.heap.size ≤ b) HG4.out (fun g e => .inr (HR3.out.low g e))) (Z := fun b => b = b3 ∨ W1.heap.size ≤ b) (fun _ _ h => h) (fun _ _ h => h)).trans (Kp.of_by (X := fun b => b = b3 ∨ W1.heap.size ≤ b) hgs (fun g e => .inl (Option.some.inj e).symm)) (Z := fun b => b = b3 ∨ W1.heap.size ≤ b) (fun _ _ h => h) (fun _ _ h => h))
      have HRE := Lib.hid (HR4.out.kp (A' := fun b => w.heap.size ≤ b ∧ b < W1.heap.size) (Kp.of_by (X := fun b => b = b3) hgs (fun g e => (Option.some.inj e).symm)) (fun b _ e => by omega) (fun g hg e => by have := HR4.out.low g hg; omega) (fun _ _ h => h))
      clear hgs
      go_roundw
      case rel => exact ⟨i + 1, _, by go_num, by omega, HKE.out, set_heap HB5.out _, by rw [HTK.out]; exact HRE.out⟩
      case measure => simp [intOf]; omega
    · obtain rfl : cn = i := by omega
      have HTK : Hid (cons.take cn = cons) := Lib.hid (List.take_of_length_le (by rw [HNC.out]; exact Nat.le_refl _))
      rw [HTK.out] at HR
      have HBC' := Lib.hid (show BoxC wr s0.heap.size 27 #[.slice sa sn sc, .slice ca cn cc, .slice pa pn pc, .slice da dn dc, .slice oa on_ oc] from (HKP.out.block _ HBC.out.lt (hnK _ (by omega))).trans HBC.out)
      have HB2' := Lib.hid (show BoxC wr (s0.heap.size + 1) 27 #[.slice none 0 0, .slice none 0 0, .slice none 0 0, .slice none 0 0, .slice none 0 0] from (HKP.out.block _ HB2C.out.lt (hnK _ (by omega))).trans HB2C.out)
      have HS1 := Lib.hid (show OwnF wr W.heap.size 9 1 (.slice s1 sn s2) sn FS' from own_kp HO1C.out HKP.out (fun g hg h => by rcases h with h | h; exact HN3.out g (own_ty HO1C.out g hg) h; have := own_lt HO1C.out g hg; omega))
      have HS2 := Lib.hid (show OwnF wr W.heap.size 9 1 (.slice t1 on_ t2) on_ FO' from own_kp HO2C.out HKP.out (fun g hg h => by rcases h with h | h; exact HN3.out g (own_ty HO2C.out g hg) h; have := own_lt HO2C.out g hg; omega))
      have HCF := Lib.hid ((HR.out.ls (B := 40) (fun b h => h.2) (by decide) (by rw [HNC.out]; exact HNCB.out)).wide (Up.refl wr))
      have HRK := Lib.hid HKP.out.size
      have HSL : Hid (∀ g, (Value.slice s1 sn s2).ownBlock = some g → g ≠ b3 ∧ g < W1.heap.size) := Lib.hid (fun g hg => ⟨HN3.out g (own_ty HO1C.out g hg), own_lt HO1C.out g hg⟩)
      have HTL2 : Hid (∀ g, (Value.slice t1 on_ t2).ownBlock = some g → g ≠ b3 ∧ g < W1.heap.size) := Lib.hid (fun g hg => ⟨HN3.out g (own_ty HO2C.out g hg), own_lt HO2C.out g hg⟩)
      have p2 : wr.cell? ⟨s0.heap.size, 2, none⟩ = some (.slice pa pn pc) := cell_of_row _ _ _ _ _ _ HBC'.out
      have ps := HBC'.out.lt
      have HNPB : Hid (pn * 80 ≤ 140737488351232) := Lib.hid (by have := HP.out.bytes; rw [HP.out.len] at this; exact this)
      have HNP := Lib.hid HP.out.len
      clear HKP HR HBC HB2C HO1C HO2C HN3 HTK hnK p1
      obtain ⟨W2, hW⟩ : ∃ W, wr = W := ⟨_, rfl⟩
      subst hW
      go_upto_region 8 with (fail)
      go_loopw [39] (fun iv wr2 => ∃ (i : Nat) (ov : Value), iv = .int .i64 i ∧ i ≤ pn ∧ Kp (fun b => b = b3 ∨ wr.heap.size ≤ b) wr wr2 ∧ BoxC wr2 b3 27 #[.slice s1 sn s2, .slice ra cn rc, ov, .slice none 0 0, .slice t1 on_ t2] ∧ OwnX 7 parR (fun b => w.heap.size ≤ b ∧ b < wr.heap.size) wr.heap.size 55 wr2 ov (pars.take i)) (fun iv _ => pn - (intOf iv).toNat)
      case atStart => exact ⟨0, .slice none 0 0, rfl, Nat.zero_le _, Kp.refl _ _, HBX.out, OwnX.nil⟩
      case round =>
        rename World => y1
        obtain ⟨i, ov, rfl, hi, hkp, hbx, hrow⟩ := hrel
        have HKY := Lib.hid hkp
        have HBY := Lib.hid hbx
        have hrk := HRK.out
        have hnK : ∀ b, b < s0.heap.size + 2 → ¬ (b = b3 ∨ wr.heap.size ≤ b) := fun b hb h => by omega
        have HUY := Lib.hid (hkp.after HU.out fun b hb => hnK b (by omega))
        obtain ⟨oa1, oc1, rfl⟩ := hrow.shape
        have HTL : Hid ((pars.take i).length = i) := Lib.hid (by rw [List.length_take, HNP.out]; omega)
        rw [HTL.out] at hrow HBY
        have HR := Lib.hid hrow
        clear hkp hbx hrow HBX
        by_cases hlt : i < pn
        · have hltI : (i : Int) < pn := by omega
          have hi1 : i < pars.length := by rw [HNP.out]; exact hlt
          have HTK := Lib.hid (takeS HNP.out hlt)
          obtain ⟨g, o, cs, rfl, hg, hcs, hra⟩ := HP.out.row parR_k i hi1
          obtain ⟨x, hx⟩ : ∃ x, pars[i]'hi1 = x := ⟨_, rfl⟩
          have HTK : Hid (pars.take (i + 1) = pars.take i ++ [x]) := Lib.hid (by rw [← hx]; exact HTK.out)
          rw [hx] at hcs
          obtain ⟨hc1, hc2, hc3⟩ := hcs.2
          obtain ⟨va, vc, e6, _⟩ := hc3.shape
          obtain ⟨m, hm⟩ : ∃ m, x.2.2.length = m := ⟨_, rfl⟩
          rw [hm] at e6
          have hdm : LsAt 2 32 linR w (.slice va m vc) x.2.2 := by rw [← e6]; exact hc3
          have hmI : (m : Int) ≤ 140737488351232 := by have := hdm.bytes; rw [hm] at this; omega
          have HCS := Lib.hid hcs
          have HM := Lib.hid hm
          have HE6 := Lib.hid e6
          have HLD := Lib.hid (let ⟨_, u1, u2⟩ := par_u; run_cs (P := Tryz.prog) u1 u2 par_info hcs.1 (hra y1 (hs0.trans HUY.out)))
          have hg' := Nat.lt_of_lt_of_le hg (hs0.trans HUY.out).size
          have HFL := Lib.hid (run_fill (P := Tryz.prog) (k := 7) par_info y1 (Z := #[.string ByteArray.empty, .int .i64 0, .int .i64 0, .int .i64 0, .int .i64 0, .int .i64 0, .slice none 0 0]) (cs := cs) rfl hcs.1 (hcs.one parR_k))
          have HAY := Lib.hid ((Up.refl y1).alloc (.cells cs 55))
          have HBD := Lib.hid (BoxC.new y1 55 cs)
          have HCF2 := Lib.hid (fun y (hy : Up s0 y) => p_copyForms _ _ m y (hdm.up linR_up (hs0.trans hy)) hm)
          clear hx hm hdm hcs hc1 hc2 hc3 hra hg e6 hnK p2 ps
          go_upto_region 10 with (first
            | (refine st_load HLD.out (by rfl) ?_)
            | (refine st_store HFL.out (by rfl) (by rfl) ?_))
          obtain ⟨Wa, hW⟩ : ∃ W, y1.alloc (.cells cs 55) = W := ⟨_, rfl⟩
          have HWA : Hid (y1.heap.size < Wa.heap.size) := Lib.hid (by rw [← hW, World.size_alloc]; omega)
          rw [hW] at HAY HBD ⊢
          have d6 : Wa.cell? ⟨y1.heap.size, 6, none⟩ = some (.slice va m vc) := HBD.out.at HE6.out (by rw [HCS.out.1]; decide)
          have ds := HBD.out.lt
          clear hW HFL HLD hg'
          go_upto_region 11 with (go_at_call 37; (with_reducible refine (HCF2.out _ (HUY.out.trans HAY.out)).mono ?_); rintro e' W3 ⟨na, nc, rfl, hy, hfr⟩; have HY3 := Lib.hid hy; have HF3 := Lib.hid hfr; have hb3' := HBD.out.up hy; have d6 := hb3'.at HE6.out (by rw [HCS.out.1]; decide); have qf := hb3'.frozen 6; have HBD3 := Lib.hid hb3'; clear hy hfr hb3')
          have hgs := set_by W3 y1.heap.size 6 (.slice na m nc)
          have hy1s := HKY.out.size
          have hwa := HWA.out
          have hw3 := HY3.out.size
          have HB4 := Lib.hid (set_heap HBD3.out (o := 6) (.slice na m nc) : BoxC _ _ _ _)
          have HX4 := Lib.hid ((HBY.out.up (HAY.out.trans HY3.out)).kept hgs (fun e => by have := Option.some.inj e; omega))
          have hk4 : Kp (fun b => b = y1.heap.size) W3 (W3.setCell ⟨y1.heap.size, 6, none⟩ (.slice na m nc)) := Kp.of_by hgs (fun g e => (Option.some.inj e).symm)
          have HK14 := Lib.hid ((Kp.of_up (X := fun b => b = y1.heap.size) (HAY.out.trans HY3.out)).trans hk4 (Z := fun b => b = y1.heap.size) (fun _ _ h => h) (fun _ _ h => h))
          have HR4 := Lib.hid (HR.out.kp (A' := fun b => w.heap.size ≤ b ∧ b < wr.heap.size) HK14.out (fun b hb e => by omega) (fun g hg e => by have := HR.out.lt g hg; omega) (fun _ _ h => h))
          have HF4 := Lib.hid (HF3.out.kp hk4 (fun b _ e => by omega))
          have HK5 := Lib.hid (HKY.out.trans HK14.out (Z := fun b => b = b3 ∨ wr.heap.size ≤ b) (fun _ _ h => h) (fun b hb e => .inr (by omega)))
          obtain ⟨W4, hW⟩ : ∃ W, W3.setCell ⟨y1.heap.size, 6, none⟩ (.slice na m nc) = W := ⟨_, rfl⟩
          have hw4 : W3.heap.size ≤ W4.heap.size := by rw [← hW]; exact hgs.size
          rw [hW] at HB4 HX4 HR4 HF4 HK5 ⊢
          clear hW hgs hk4 HK14 d6 ds qf HBD3 HBD
          obtain ⟨cs', hcs'⟩ : ∃ q, cs.setIfInBounds 6 (.slice na m nc) = q := ⟨_, rfl⟩
          have hsz : cs'.size = 7 := by rw [← hcs', Array.size_setIfInBounds]; exact HCS.out.1
          have hlo : ∀ j, j < 6 → cs'.getD j undef = cs.getD j undef := fun j hj => by
            rw [← hcs', Array.getD_eq_getD_getElem?, Array.getD_eq_getD_getElem?, Array.getElem?_setIfInBounds_ne (by omega)]
          have h6 : cs'.getD 6 undef = .slice na m nc := by
            rw [← hcs', Array.getD_eq_getD_getElem?, Array.getElem?_setIfInBounds_self_of_lt (by rw [HCS.out.1]; decide)]; rfl
          rw [hcs'] at HB4
          have HX5 : Hid (Fr (fun b => (w.heap.size ≤ b ∧ b < wr.heap.size) ∨ (Value.slice oa1 i oc1).ownBlock = some b) (fun y => parR y (fun j => cs'.getD j undef) x) W4) := Lib.hid (by
            obtain ⟨⟨c1, c1'⟩, ⟨t0, t1', t2', t3, t4⟩, -⟩ := HCS.out.2
            dsimp only at c1 t0 t1' t2' t3 t4
            rw [← hlo _ (by decide)] at c1 t0 t1' t2' t3 t4
            refine (HF4.out.mono fun y h => ⟨⟨c1, c1'⟩, ⟨t0, t1', t2', t3, t4⟩, by show LsAt 2 32 linR y (cs'.getD 6 undef) _; rw [h6]; exact h⟩).less fun b _ e => ?_
            rcases e with e | e
            · omega
            · have := HR.out.lt b e; omega)
          have HSZ' := Lib.hid hsz
          have HLD4 := Lib.hid (let ⟨_, u1, u2⟩ := par_u; run_cs (P := Tryz.prog) u1 u2 par_info hsz (BoxC.range (w := W4) (g := y1.heap.size) (t := 55) HB4.out))
          have HB5 := Lib.hid (BoxC.new W4 55 cs')
          have HA5 := Lib.hid ((Up.refl W4).alloc (.cells cs' 55))
          have HR5 := Lib.hid (HR4.out.up HA5.out)
          have HX6 := Lib.hid (HX5.out.up HA5.out)
          have HX7 := Lib.hid (HX4.out.up HA5.out)
          obtain ⟨-, -, q2, -, -⟩ := HX4.out.five
          have qs := HX4.out.lt
          clear hcs' hsz hlo h6
          go_wp2_with (first
            | (refine st_load HLD4.out (by rfl) ?_)
            | (refine st_build rowT_par (by decide) (cs := cs') HSZ'.out (by rfl) ?_)
            | (at_builtin; refine st_app1 (b := W4.heap.size) rowT_par parR_k HTL.out HR5.out HSZ'.out HB5.out HX6.out (by have := HNPB.out; omega) (by decide) (by simp only [World.size_alloc]; omega) (by rfl) (by rfl) ?_; intro ua uc W5 h1 h2 h3; have HR6 := Lib.hid h1; have HG6 := Lib.hid h2; have hb4 := HX7.out.kept h2 (fun e => by have := HR5.out.low _ e.symm; omega); have HB6 := Lib.hid hb4; obtain ⟨-, -, q2, -, -⟩ := hb4.five; have qs := hb4.lt; have qf := hb4.frozen 2; clear h1 h2 h3 hb4))
          have hgs := set_by W5 b3 2 (.slice ua (i + 1) uc)
          have HKE := Lib.hid (((HK5.out.trans (Kp.of_up (X := fun b => b = b3 ∨ wr.heap.size ≤ b) HA5.out) (Z := fun b => b = b3 ∨ wr.heap.size ≤ b) (fun _ _ h => h) (fun _ _ h => h)).trans (Kp.of_by (X := fun b => b = b3 ∨ wr.heap.size ≤ b) HG6.out (fun g e => .inr (HR5.out.low g e))) (Z := fun b => b = b3 ∨ wr.heap.size ≤ b) (fun _ _ h => h) (fun _ _ h => h)).trans (Kp.of_by (X := fun b => b = b3 ∨ wr.heap.size ≤ b) hgs (fun g e => .inl (Option.some.inj e).symm)) (Z := fun b => b = b3 ∨ wr.heap.size ≤ b) (fun _ _ h => h) (fun _ _ h => h))
          have HRE := Lib.hid (HR6.out.kp (A' := fun b => w.heap.size ≤ b ∧ b < wr.heap.size) (Kp.of_by (X := fun b => b = b3) hgs (fun g e => (Option.some.inj e).symm)) (fun b _ e => by omega) (fun g hg e => by have := HR6.out.low g hg; omega) (fun _ _ h => h))
          clear hgs
          go_roundw
          case rel => exact ⟨i + 1, _, by go_num, by omega, HKE.out, set_heap HB6.out _, by rw [HTK.out]; exact HRE.out⟩
          case measure => simp [intOf]; omega
        · obtain rfl : pn = i := by omega
          have HTK : Hid (pars.take pn = pars) := Lib.hid (List.take_of_length_le (by rw [HNP.out]; exact Nat.le_refl _))
          rw [HTK.out] at HR
          have hb3l := HB3L.out
          have hww := HWW.out
          have HBC2 := Lib.hid (show BoxC y1 s0.heap.size 27 #[.slice sa sn sc, .slice ca cn cc, .slice pa pn pc, .slice da dn dc, .slice oa on_ oc] from (HKY.out.block _ HBC'.out.lt (hnK _ (by omega))).trans HBC'.out)
          have HBZ2 := Lib.hid (show BoxC y1 (s0.heap.size + 1) 27 #[.slice none 0 0, .slice none 0 0, .slice none 0 0, .slice none 0 0, .slice none 0 0] from (HKY.out.block _ HB2'.out.lt (hnK _ (by omega))).trans HB2'.out)
          have HS3 := Lib.hid (show OwnF y1 W.heap.size 9 1 (.slice s1 sn s2) sn FS' from own_kp HS1.out HKY.out (fun g hg h => by have := HSL.out g hg; omega))
          have HS4 := Lib.hid (show OwnF y1 W.heap.size 9 1 (.slice t1 on_ t2) on_ FO' from own_kp HS2.out HKY.out (fun g hg h => by have := HTL2.out g hg; omega))
          have HYK := Lib.hid HKY.out.size
          have HCF3 := Lib.hid (HCF.out.to (Z := fun b => (w.heap.size ≤ b ∧ b < W1.heap.size) ∨ y1.heap.size ≤ b) HKY.out (fun b _ e => by omega) (fun b hb e => by have := HYK.out; omega))
          have HPF3 := Lib.hid ((HR.out.ls (B := 80) (fun b h => h.2) (by decide) (by rw [HNP.out]; exact HNPB.out)).wide (Up.refl y1))
          have p3 : y1.cell? ⟨s0.heap.size, 3, none⟩ = some (.slice da dn dc) := cell_of_row _ _ _ _ _ _ HBC2.out
          have ps := HBC2.out.lt
          have HNDB : Hid (dn * 272 ≤ 140737488351232) := Lib.hid (by have := HD.out.bytes; rw [HD.out.len] at this; exact this)
          clear HKY HR HBC' HB2' HS1 HS2 HCF HTK hnK p2
          go_upto_region 14 with (fail)
          go_loopw [57] (fun iv wr2 => ∃ (i : Nat) (ov : Value), iv = .int .i64 i ∧ i ≤ dn ∧ Kp (fun b => b = b3 ∨ y1.heap.size ≤ b) y1 wr2 ∧ BoxC wr2 b3 27 #[.slice s1 sn s2, .slice ra cn rc, .slice oa1 pn oc1, ov, .slice t1 on_ t2] ∧ OwnX 22 (defR N) (fun b => w.heap.size ≤ b ∧ b < y1.heap.size) y1.heap.size 50 wr2 ov (defs.take i)) (fun iv _ => dn - (intOf iv).toNat)
          case atStart => exact ⟨0, .slice none 0 0, rfl, Nat.zero_le _, Kp.refl _ _, HBY.out, OwnX.nil⟩
          case round =>
            rename World => y2
            obtain ⟨i, ov, rfl, hi, hkp, hbx, hrow⟩ := hrel
            have HKZ := Lib.hid hkp
            have HBZ := Lib.hid hbx
            have hyk := HYK.out
            have hrk2 := HRK.out
            have hnK : ∀ b, b < s0.heap.size + 2 → ¬ (b = b3 ∨ y1.heap.size ≤ b) := fun b hb h => by omega
            have HUZ := Lib.hid (hkp.after HUY.out fun b hb => hnK b (by omega))
            obtain ⟨oa3, oc3, rfl⟩ := hrow.shape
            have HTL : Hid ((defs.take i).length = i) := Lib.hid (by rw [List.length_take, HDN.out]; omega)
            rw [HTL.out] at hrow HBZ
            have HR := Lib.hid hrow
            clear hkp hbx hrow HBY
            by_cases hlt : i < dn
            · have hltI : (i : Int) < dn := by omega
              have hi1 : i < defs.length := by rw [HDN.out]; exact hlt
              have HTK := Lib.hid (takeS HDN.out hlt)
              obtain ⟨g, o, cs, rfl, hg, hcs, hra⟩ := HD.out.row (defR_k N) i hi1
              obtain ⟨x, hx⟩ : ∃ x, defs[i]'hi1 = x := ⟨_, rfl⟩
              have HTK : Hid (defs.take (i + 1) = defs.take i ++ [x]) := Lib.hid (by rw [← hx]; exact HTK.out)
              rw [hx] at hcs
              obtain ⟨hc1, hc2, hc3, hc4, hc5, hc6⟩ := hcs.2
              obtain ⟨va, vc, e6, _⟩ := hc3.shape
              obtain ⟨ua, uc, e7, _⟩ := hc4.shape
              obtain ⟨m, hm⟩ : ∃ m, x.dims.length = m := ⟨_, rfl⟩
              obtain ⟨q, hq⟩ : ∃ q, x.red.length = q := ⟨_, rfl⟩
              rw [hm] at e6
              rw [hq] at e7
              dsimp only at e6 e7 hc3 hc4
              rw [e6] at hc3
              rw [e7] at hc4
              have hmI : (m : Int) ≤ 140737488351232 := by have := hc3.bytes; rw [hm] at this; omega
              have hqI : (q : Int) ≤ 140737488351232 := by have := hc4.bytes; rw [hq] at this; omega
              have HCS := Lib.hid hcs
              have HM := Lib.hid hm
              have HQ := Lib.hid hq
              have HE6 := Lib.hid e6
              have HE7 := Lib.hid e7
              have HLD := Lib.hid (run_def hcs.1 (hra y2 (hs0.trans HUZ.out)))
              have hg' := Nat.lt_of_lt_of_le hg (hs0.trans HUZ.out).size
              have HFL := Lib.hid (run_fill (P := Tryz.prog) (k := 22) def_i y2 (Z := #[.string ByteArray.empty, .int .i64 0, .int .i64 0, .int .i64 0, .int .i64 0, .int .i64 0, .slice none 0 0, .slice none 0 0, .int .i64 0, .int .i64 0, .string ByteArray.empty, .int .i64 0, .int .i64 0, .int .i64 0, .int .i64 0, .int .i64 0, .int .i64 0, .int .i64 0, .int .i64 0, .slice none 0 0, .slice none 0 0, .slice none 0 0]) (cs := cs) rfl hcs.1 (hcs.one (defR_k N)))
              have HAZ := Lib.hid ((Up.refl y2).alloc (.cells cs 50))
              have HBD := Lib.hid (BoxC.new y2 50 cs)
              have HD1 := Lib.hid hc3
              have HD2 := Lib.hid hc4
              clear hx hm hq hcs hc1 hc2 hc3 hc4 hc5 hc6 hra hg e6 e7 hnK p3 ps
              go_upto_region 16 with (first
                | (refine st_load HLD.out (by rfl) ?_)
                | (refine st_store HFL.out (by rfl) (by rfl) ?_))
              obtain ⟨Wa, hW⟩ : ∃ W, y2.alloc (.cells cs 50) = W := ⟨_, rfl⟩
              have HWA : Hid (y2.heap.size < Wa.heap.size) := Lib.hid (by rw [← hW, World.size_alloc]; omega)
              rw [hW] at HAZ HBD ⊢
              have d6 : Wa.cell? ⟨y2.heap.size, 6, none⟩ = some (.slice va m vc) := HBD.out.at HE6.out (by rw [HCS.out.1]; decide)
              have d7 : Wa.cell? ⟨y2.heap.size, 7, none⟩ = some (.slice ua q uc) := HBD.out.at HE7.out (by rw [HCS.out.1]; decide)
              have ds := HBD.out.lt
              clear hW HFL HLD hg'
              have HBY' := Lib.hid ((HCS.out.body).1)
              have HEB := Lib.hid ((Fr.ofR (exR_up N) HCS.out.body.2).wide ((hs0.trans (HUZ.out.trans HAZ.out))))
              have HRX := Lib.hid (fun x (hx : Up Wa x) => run_ex HBY'.out ((HBD.out.up hx).sub 9 13))
              have HC50 := Lib.hid (fun v (l : List Ax) (n : Nat) x (hx : Up Wa x) (h : LsAt 3 48 axR Wa v l) (hn : l.length = n) => p_copyAxes v l n x (h.up axR_up hx) hn)
              have HC51 := Lib.hid (fun x' (hx : Up Wa x') => ex_Copy N (fun b => w.heap.size ≤ b ∧ b < Wa.heap.size) (cs.extract 9 (9 + 13)) x.body x' HBY'.out (fun b h => Nat.lt_of_lt_of_le h.2 hx.size) ((HEB.out.less fun b _ h => .inl h.1).up hx))
              have HD1' := Lib.hid (HD1.out.up axR_up (hs0.trans (HUZ.out.trans HAZ.out)))
              have HD2' := Lib.hid (HD2.out.up axR_up (hs0.trans (HUZ.out.trans HAZ.out)))
              refine wp_region_mk 10 (fun f args v z => (f = 38 → ∀ l n, l.length = n → LsAt 3 48 axR Wa (args.getD 0 undef) l → ∃ a c, v = .slice a n c ∧ Fr (fun b => b < Wa.heap.size) (fun y => LsAt 3 48 axR y (.slice a n c) l) z) ∧ (f = 39 → ∃ ds : Array Value, v = .agg ds ∧ ds.size = 13 ∧ Fr (fun b => w.heap.size ≤ b ∧ b < Wa.heap.size) (fun y => exR N y (fun j => ds.getD j undef) x.body) z)) (by kernel_rfl) (by kernel_rfl) ?_
              simp only [List.take_succ_cons, List.take_zero, List.drop_succ_cons, List.drop_zero, Act.put]
              iterate 2 (refine wpMk_quiet anti_post (by kernel_rfl) ?_; go_big_quiet_step (fail); refine wpQuiet_nil ?_)
              refine wpMk_enter anti_post 38 #[.slice va m vc] (fun v z y h hu => ⟨fun e l n hn hl => let ⟨a, c, h1, h2⟩ := h.1 e l n hn hl; ⟨a, c, h1, h2.up hu⟩, fun e => let ⟨d, h1, h2, h3⟩ := h.2 e; ⟨d, h1, h2, h3.up hu⟩⟩) (by kernel_rfl) (fun z => by go_simp) (fun z hx => (HC50.out _ _ m z hx HD1'.out HM.out).mono fun e w' ⟨a, c, h1, h2, h3⟩ => ⟨_, h1, h2, fun _ l n hn hl => by
                obtain rfl := ax_fun HD1'.out hl
                rw [HM.out] at hn
                subst hn
                exact ⟨a, c, rfl, h3.less fun i _ h => Nat.lt_of_lt_of_le h hx.size⟩, fun e => by cases e⟩) ?_
              rintro v1 ⟨y, hy, hv1, -⟩
              obtain ⟨a6, c6, e6, -⟩ := hv1 rfl _ _ HM.out HD1'.out
              subst e6
              simp only [Act.put, List.setIfInBounds_toArray, List.set_cons_succ, List.set_cons_zero]
              iterate 2 (refine wpMk_quiet anti_post (by kernel_rfl) ?_; go_big_quiet_step (fail); refine wpQuiet_nil ?_)
              refine wpMk_enter anti_post 38 #[.slice ua q uc] (fun v z y h hu => ⟨fun e l n hn hl => let ⟨a, c, h1, h2⟩ := h.1 e l n hn hl; ⟨a, c, h1, h2.up hu⟩, fun e => let ⟨d, h1, h2, h3⟩ := h.2 e; ⟨d, h1, h2, h3.up hu⟩⟩) (by kernel_rfl) (fun z => by go_simp) (fun z hx => (HC50.out _ _ q z hx HD2'.out HQ.out).mono fun e w' ⟨a, c, h1, h2, h3⟩ => ⟨_, h1, h2, fun _ l n hn hl => by
                obtain rfl := ax_fun HD2'.out hl
                rw [HQ.out] at hn
                subst hn
                exact ⟨a, c, rfl, h3.less fun i _ h => Nat.lt_of_lt_of_le h hx.size⟩, fun e => by cases e⟩) ?_
              rintro v2 ⟨y', hy', hv2, -⟩
              obtain ⟨a7, c7, e7, -⟩ := hv2 rfl _ _ HQ.out HD2'.out
              subst e7
              simp only [Act.put, List.setIfInBounds_toArray, List.set_cons_succ, List.set_cons_zero]
              iterate 1 (refine wpMk_quiet anti_post (by kernel_rfl) ?_; go_big_quiet_step (fail); refine wpQuiet_nil ?_)
              refine wpMk_load anti_post HRX.out (by rfl) ?_
              simp only [Act.put, List.setIfInBounds_toArray, List.set_cons_succ, List.set_cons_zero]
              refine wpMk_enter anti_post 39 #[.agg (cs.extract 9 (9 + 13))] (fun v z y h hu => ⟨fun e l n hn hl => let ⟨a, c, h1, h2⟩ := h.1 e l n hn hl; ⟨a, c, h1, h2.up hu⟩, fun e => let ⟨d, h1, h2, h3⟩ := h.2 e; ⟨d, h1, h2, h3.up hu⟩⟩) (by kernel_rfl) (fun z => by go_simp) (fun z hx => (HC51.out z hx).mono fun e w' ⟨d, h1, h2, h3, h4⟩ => ⟨_, h1, h3, (fun e => by cases e), fun _ => ⟨d, rfl, h2, h4⟩⟩) ?_
              rintro v3 ⟨y'', hy'', -, hv3⟩
              obtain ⟨eds, e8, -, -⟩ := hv3 rfl
              subst e8
              simp only [Act.put, List.setIfInBounds_toArray, List.set_cons_succ, List.set_cons_zero]
              iterate 1 (refine wpMk_quiet anti_post (by kernel_rfl) ?_; go_big_quiet_step (fail); refine wpQuiet_nil ?_)
              refine wpMk_nil ?_
              rintro W2 hW2 ⟨⟨⟨⟨-, h1, -⟩, h2, -⟩, -⟩, -, h3⟩
              obtain ⟨a6', c6', e6, hf6⟩ := h1 (by trivial) _ _ HM.out HD1'.out
              obtain ⟨a7', c7', e7, hf7⟩ := h2 (by trivial) _ _ HQ.out HD2'.out
              obtain ⟨eds', e8, hes, hf8⟩ := h3 (by trivial)
              simp only [Value.slice.injEq, Value.agg.injEq, true_and] at e6 e7 e8
              obtain ⟨rfl, rfl⟩ := e6
              obtain ⟨rfl, rfl⟩ := e7
              obtain rfl := e8
              have HW2 := Lib.hid hW2
              have HF6 := Lib.hid hf6
              have HF7 := Lib.hid hf7
              have HF8 := Lib.hid hf8
              have HES := Lib.hid hes
              have hy2k := HKZ.out.size
              have hwa := HWA.out
              have huz := (hs0.trans HUZ.out).size
              have HG2 := Lib.hid (OwnF.box (base := w.heap.size) (HBD.out.up hW2) HCS.out.1 (by decide) huz)
              have k6 : W2.cell? ⟨y2.heap.size, 6, none⟩ = some (cs.getD 6 undef) := by have h := OwnF.cell (i := 0) (j := 6) HG2.out (by decide) (by decide); simpa using h
              have k7 : W2.cell? ⟨y2.heap.size, 7, none⟩ = some (cs.getD 7 undef) := by have h := OwnF.cell (i := 0) (j := 7) HG2.out (by decide) (by decide); simpa using h
              have f6 := OwnF.frozen HG2.out (by decide) 6
              have f7 := OwnF.frozen HG2.out (by decide) 7
              have HG3 := Lib.hid (show OwnF (W2.setCell ⟨y2.heap.size, 6, none⟩ (.slice a6 m c6)) w.heap.size 50 22 (.slice (some ⟨y2.heap.size, 0, none⟩) 1 1) 1 (putF (fun _ j => cs.getD j undef) 0 6 [.slice a6 m c6]) from by have h := OwnF.put [.slice a6 m c6] HG2.out (i := 0) (o := 6) (by decide) (by show 6 + 1 ≤ 22; decide); simpa [World.setCells] using h)
              have HG4 := Lib.hid (show OwnF ((W2.setCell ⟨y2.heap.size, 6, none⟩ (.slice a6 m c6)).setCell ⟨y2.heap.size, 7, none⟩ (.slice a7 q c7)) w.heap.size 50 22 (.slice (some ⟨y2.heap.size, 0, none⟩) 1 1) 1 (putF (putF (fun _ j => cs.getD j undef) 0 6 [.slice a6 m c6]) 0 7 [.slice a7 q c7]) from by have h := OwnF.put [.slice a7 q c7] HG3.out (i := 0) (o := 7) (by decide) (by show 7 + 1 ≤ 22; decide); simpa [World.setCells] using h)
              have HST := Lib.hid (show (Instr.storeAt 48 (.pointer (some ⟨y2.heap.size, 9, none⟩)) (.agg eds)).run Tryz.prog ((W2.setCell ⟨y2.heap.size, 6, none⟩ (.slice a6 m c6)).setCell ⟨y2.heap.size, 7, none⟩ (.slice a7 q c7)) = .ok () (((W2.setCell ⟨y2.heap.size, 6, none⟩ (.slice a6 m c6)).setCell ⟨y2.heap.size, 7, none⟩ (.slice a7 q c7)).setCells y2.heap.size 9 eds.toList) from by have h := OwnF.store (P := Tryz.prog) (T := 48) (i := 0) (o := 9) (cells := eds) HG4.out (by decide) (by rw [hes]; decide) (by rw [hes]; exact ex_i) (CsAt.one (exR_k N) ⟨hes, hf8.here⟩); simpa using h)
              have HG5 := Lib.hid (show OwnF (((W2.setCell ⟨y2.heap.size, 6, none⟩ (.slice a6 m c6)).setCell ⟨y2.heap.size, 7, none⟩ (.slice a7 q c7)).setCells y2.heap.size 9 eds.toList) w.heap.size 50 22 (.slice (some ⟨y2.heap.size, 0, none⟩) 1 1) 1 (putF (putF (putF (fun _ j => cs.getD j undef) 0 6 [.slice a6 m c6]) 0 7 [.slice a7 q c7]) 0 9 eds.toList) from by have h := OwnF.put eds.toList HG4.out (i := 0) (o := 9) (by decide) (by rw [Array.length_toList, hes]; decide); simpa using h)
              clear hW2 hf6 hf7 hf8 hes h1 h2 h3 hv1 hv2 hv3 hy hy' hy'' d6 d7 ds
              go_upto_region 17 with (refine st_store HST.out (by rfl) (by rfl) ?_)
              have hgs := by_trans (by_trans (set_by W2 y2.heap.size 6 (.slice a6 m c6)) (set_by _ y2.heap.size 7 (.slice a7 q c7))) (setCells_by y2.heap.size eds.toList 9 _)
              have hk4 := Kp.of_by (X := fun b => b = y2.heap.size) hgs (fun g e => (Option.some.inj e).symm)
              have HX4 := Lib.hid ((HBZ.out.up (HAZ.out.trans HW2.out)).kept hgs (fun e => by have := HBZ.out.lt; have := Option.some.inj e; omega))
              have HK14 := Lib.hid ((Kp.of_up (X := fun b => b = y2.heap.size) (HAZ.out.trans HW2.out)).trans hk4 (Z := fun b => b = y2.heap.size) (fun _ _ h => h) (fun _ _ h => h))
              have HR4 := Lib.hid (HR.out.kp (A' := fun b => w.heap.size ≤ b ∧ b < y1.heap.size) HK14.out (fun b hb e => by omega) (fun g hg e => by have := HR.out.lt g hg; omega) (fun _ _ h => h))
              have HF64 := Lib.hid (HF6.out.kp hk4 (fun b _ e => by omega))
              have HF74 := Lib.hid (HF7.out.kp hk4 (fun b _ e => by omega))
              have HF84 := Lib.hid (HF8.out.kp hk4 (fun b _ e => by omega))
              have HK5 := Lib.hid (HKZ.out.trans HK14.out (Z := fun b => b = b3 ∨ y1.heap.size ≤ b) (fun _ _ h => h) (fun b hb e => .inr (by omega)))
              obtain ⟨W4, hW⟩ : ∃ W, ((W2.setCell ⟨y2.heap.size, 6, none⟩ (.slice a6 m c6)).setCell ⟨y2.heap.size, 7, none⟩ (.slice a7 q c7)).setCells y2.heap.size 9 eds.toList = W := ⟨_, rfl⟩
              have hw4 : W2.heap.size ≤ W4.heap.size := by rw [← hW]; exact hgs.size
              have hw2s := HW2.out.size
              rw [hW] at HG5 HX4 HR4 HF64 HF74 HF84 HK5 ⊢
              clear hW hgs hk4 HK14 k6 k7 f6 f7 HG2 HG3 HG4 HST HBD
              obtain ⟨ds, hbx, hds, hdc⟩ := HG5.out.boxC
              have HX5 : Hid (Fr (fun b => (w.heap.size ≤ b ∧ b < y1.heap.size) ∨ (Value.slice oa3 i oc3).ownBlock = some b) (fun y => defR N y (fun j => ds.getD j undef) x) W4) := Lib.hid (by
                obtain ⟨⟨c1, c1'⟩, ⟨t0, t1', t2', t3, t4⟩, -, -, fo, -⟩ := HCS.out.2
                dsimp only at c1 t0 t1' t2' t3 t4 fo
                have hlo : ∀ j, j < 6 → ds.getD j undef = cs.getD j undef := fun j hj => by rw [hdc j (by omega), putF_out (by omega), putF_out (by omega), putF_out (by omega)]
                have h6 : ds.getD 6 undef = .slice a6 m c6 := by rw [hdc 6 (by decide), putF_out (by omega), putF_out (by omega), putF_in (by decide) (by show 6 < 6 + 1; decide)]; rfl
                have h7 : ds.getD 7 undef = .slice a7 q c7 := by rw [hdc 7 (by decide), putF_out (by omega), putF_in (by decide) (by show 7 < 7 + 1; decide)]; rfl
                have h8 : ds.getD 8 undef = cs.getD 8 undef := by rw [hdc 8 (by decide), putF_out (by omega), putF_out (by show ¬ (7 ≤ 8 ∧ 8 < 7 + 1); omega), putF_out (by show ¬ (6 ≤ 8 ∧ 8 < 6 + 1); omega)]
                have h9 : ∀ j, j < 13 → ds.getD (9 + j) undef = eds.getD j undef := fun j hj => by
                  rw [hdc (9 + j) (by omega), putF_in (by omega) (by rw [Array.length_toList, HES.out]; omega), show 9 + j - 9 = j by omega, Array.getD_eq_getD_getElem?, List.getD_eq_getElem?_getD, Array.getElem?_toList]
                rw [← hlo _ (by decide)] at c1 t0 t1' t2' t3 t4
                rw [← h8] at fo
                have hall : Fr (fun b => w.heap.size ≤ b ∧ b < Wa.heap.size) (fun y => defR N y (fun j => ds.getD j undef) x) W4 := fun y hy => ⟨⟨c1, c1'⟩, ⟨t0, t1', t2', t3, t4⟩, by show LsAt 3 48 axR y (ds.getD 6 undef) _; rw [h6]; exact HF64.out.less (fun b _ h => h.2) y hy, by show LsAt 3 48 axR y (ds.getD 7 undef) _; rw [h7]; exact HF74.out.less (fun b _ h => h.2) y hy, fo, exR_congr N (HF84.out y hy) fun j hj => (h9 j hj).symm⟩
                refine hall.less fun b _ e => ?_
                rcases e with e | e
                · omega
                · have h1 := HR.out.lt b e
                  have h2 := HR.out.low b e
                  omega)
              have HDS := Lib.hid hds
              have HLD4 := Lib.hid (run_def hds hbx.range)
              have HB5 := Lib.hid (BoxC.new W4 50 ds)
              have HA5 := Lib.hid ((Up.refl W4).alloc (.cells ds 50))
              have HR5 := Lib.hid (HR4.out.up HA5.out)
              have HX6 := Lib.hid (HX5.out.up HA5.out)
              have HX7 := Lib.hid (HX4.out.up HA5.out)
              obtain ⟨-, -, -, q3, -⟩ := HX4.out.five
              have qs := HX4.out.lt
              clear hbx hds hdc
              go_wp2_with (first
                | (refine st_load HLD4.out (by rfl) ?_)
                | (refine st_build rowT_def (by decide) (cs := ds) HDS.out (by rfl) ?_)
                | (at_builtin; refine st_app1 (b := W4.heap.size) rowT_def (defR_k N) HTL.out HR5.out HDS.out HB5.out HX6.out (by have := HNDB.out; omega) (by decide) (by simp only [World.size_alloc]; omega) (by rfl) (by rfl) ?_; intro na nc W5 h1 h2 h3; have HR6 := Lib.hid h1; have HG6 := Lib.hid h2; have hb4 := HX7.out.kept h2 (fun e => by have := HR5.out.low _ e.symm; omega); have HB6 := Lib.hid hb4; obtain ⟨-, -, -, q3, -⟩ := hb4.five; have qs := hb4.lt; have qf := hb4.frozen 3; clear h1 h2 h3 hb4))
              have hgs := set_by W5 b3 3 (.slice na (i + 1) nc)
              have HKE := Lib.hid (((HK5.out.trans (Kp.of_up (X := fun b => b = b3 ∨ y1.heap.size ≤ b) HA5.out) (Z := fun b => b = b3 ∨ y1.heap.size ≤ b) (fun _ _ h => h) (fun _ _ h => h)).trans (Kp.of_by (X := fun b => b = b3 ∨ y1.heap.size ≤ b) HG6.out (fun g e => .inr (HR5.out.low g e))) (Z := fun b => b = b3 ∨ y1.heap.size ≤ b) (fun _ _ h => h) (fun _ _ h => h)).trans (Kp.of_by (X := fun b => b = b3 ∨ y1.heap.size ≤ b) hgs (fun g e => .inl (Option.some.inj e).symm)) (Z := fun b => b = b3 ∨ y1.heap.size ≤ b) (fun _ _ h => h) (fun _ _ h => h))
              have HRE := Lib.hid (HR6.out.kp (A' := fun b => w.heap.size ≤ b ∧ b < y1.heap.size) (Kp.of_by (X := fun b => b = b3) hgs (fun g e => (Option.some.inj e).symm)) (fun b _ e => by omega) (fun g hg e => by have := HR6.out.low g hg; omega) (fun _ _ h => h))
              clear hgs
              go_roundw
              case rel => exact ⟨i + 1, _, by go_num, by omega, HKE.out, set_heap HB6.out _, by rw [HTK.out]; exact HRE.out⟩
              case measure => simp [intOf]; omega
            · obtain rfl : dn = i := by omega
              have HTK : Hid (defs.take dn = defs) := Lib.hid (List.take_of_length_le (by rw [HDN.out]; exact Nat.le_refl _))
              rw [HTK.out] at HR
              have hb3l := HB3L.out
              have hww := HWW.out
              have hz2 := HBZ2.out
              have HZ2 := Lib.hid (show BoxC y2 (s0.heap.size + 1) 27 #[.slice none 0 0, .slice none 0 0, .slice none 0 0, .slice none 0 0, .slice none 0 0] from (HKZ.out.block _ hz2.lt (hnK _ (by omega))).trans hz2)
              obtain ⟨e0, e1, e2, e3, e4⟩ := HBZ.out.five
              have es := HBZ.out.lt
              have HPT := Lib.hid (run_put (P := Tryz.prog) (k := 5) prog_info HZ2.out (cs := #[.slice s1 sn s2, .slice ra cn rc, .slice oa1 pn oc1, .slice oa3 dn oc3, .slice t1 on_ t2]) rfl rfl (by simp [Value.oneCell']))
              have hkr := setRow_by y2 (s0.heap.size + 1) #[.slice s1 sn s2, .slice ra cn rc, .slice oa1 pn oc1, .slice oa3 dn oc3, .slice t1 on_ t2]
              have HRB := Lib.hid (HZ2.out.row #[.slice s1 sn s2, .slice ra cn rc, .slice oa1 pn oc1, .slice oa3 dn oc3, .slice t1 on_ t2])
              have HUF := Lib.hid (HUZ.out.grown' hkr (fun k e => by cases e; exact Nat.le_succ _))
              have hk' : Kp (fun b => b = s0.heap.size + 1) y2 (y2.setRow (s0.heap.size + 1) #[.slice s1 sn s2, .slice ra cn rc, .slice oa1 pn oc1, .slice oa3 dn oc3, .slice t1 on_ t2]) := Kp.of_by hkr (fun g e => (Option.some.inj e).symm)
              have hs5 : OwnF y2 W.heap.size 9 1 (.slice s1 sn s2) sn FS' := own_kp HS3.out HKZ.out (fun g hg h => by have := HSL.out g hg; omega)
              have ho5 : OwnF y2 W.heap.size 9 1 (.slice t1 on_ t2) on_ FO' := own_kp HS4.out HKZ.out (fun g hg h => by have := HTL2.out g hg; omega)
              have hs6 : OwnF (y2.setRow (s0.heap.size + 1) #[.slice s1 sn s2, .slice ra cn rc, .slice oa1 pn oc1, .slice oa3 dn oc3, .slice t1 on_ t2]) W.heap.size 9 1 (.slice s1 sn s2) sn FS' := own_kp hs5 hk' (fun g hg h => by have := own_base hs5 g hg; omega)
              have ho6 : OwnF (y2.setRow (s0.heap.size + 1) #[.slice s1 sn s2, .slice ra cn rc, .slice oa1 pn oc1, .slice oa3 dn oc3, .slice t1 on_ t2]) W.heap.size 9 1 (.slice t1 on_ t2) on_ FO' := own_kp ho5 hk' (fun g hg h => by have := own_base ho5 g hg; omega)
              have hcF := ((HCF3.out.to (Z := fun b => w.heap.size ≤ b ∧ b < W1.heap.size) HKZ.out (fun b _ e => by omega) (fun b _ e => .inl e)).kp hk' (fun b _ e => by omega))
              have hpF := ((HPF3.out.to (Z := fun b => w.heap.size ≤ b ∧ b < wr.heap.size) HKZ.out (fun b _ e => by omega) (fun b _ e => .inl e)).kp hk' (fun b _ e => by omega))
              have hdF := ((HR.out.ls (B := 272) (fun b h => h.2) (by decide) (by rw [HDN.out]; exact HNDB.out)).kp hk' (fun b _ e => by omega))
              have HPG : Hid (Fr (fun b => w.heap.size ≤ b ∧ b < s0.heap.size) (fun y => ProgAt N y (.agg #[.slice s1 sn s2, .slice ra cn rc, .slice oa1 pn oc1, .slice oa3 dn oc3, .slice t1 on_ t2]) ⟨sizes, cons, pars, defs, outs⟩) (y2.setRow (s0.heap.size + 1) #[.slice s1 sn s2, .slice ra cn rc, .slice oa1 pn oc1, .slice oa3 dn oc3, .slice t1 on_ t2])) := Lib.hid (fun y hy => ProgAt.mk (N := N) (p := ⟨sizes, cons, pars, defs, outs⟩)
                (OwnF.strs (own_kp hs6 hy (fun g hg h => by have := own_base hs6 g hg; omega)) HNS.out (by have := HS.out.bytes; rw [HS.out.len] at this; exact this) HQ1.out)
                (hcF.less (fun b _ e => ⟨e.1, by omega⟩) y hy)
                (hpF.less (fun b _ e => ⟨e.1, by omega⟩) y hy)
                (hdF.less (fun b _ e => ⟨e.1, by omega⟩) y hy)
                (OwnF.strs (own_kp ho6 hy (fun g hg h => by have := own_base ho6 g hg; omega)) HNO.out (by have := HO.out.bytes; rw [HO.out.len] at this; exact this) HQ2.out))
              clear hkr hk' hs5 ho5 hs6 ho6 hz2 hnK p3 ps
              go_wp2_with (refine st_store HPT.out (by rfl) (by rfl) ?_)
              obtain ⟨f0, f1, f2, f3, f4⟩ := HRB.out.five
              refine bodyPost_ret (v := .agg #[.slice s1 sn s2, .slice ra cn rc, .slice oa1 pn oc1, .slice oa3 dn oc3, .slice t1 on_ t2]) (by simp [results, Tryz.results20, go_sem, f0, f1, f2, f3, f4]) rfl ⟨_, rfl, HUF.out, HPG.out⟩
end Go.Proofs.YtpccaifhcmcegaaGreat
end
