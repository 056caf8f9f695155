/-
  Joined by a program: DgT, DgZt.
-/
import Derived.Test.YtpccaifhcmcegaaGreatHl
import Derived.Test.YtpccaifhcmcegaaGreatDgZ

section
namespace Go.Proofs.YtpccaifhcmcegaaGreat
set_option linter.unusedSimpArgs false
open Go.ChangeShapes Go.WideShapes Go.ChangeAt Go.RowKit
set_option linter.unusedVariables false
set_option maxRecDepth 100000

end Go.Proofs.YtpccaifhcmcegaaGreat
end

section
namespace Go.Proofs.YtpccaifhcmcegaaGreat
set_option linter.unusedSimpArgs false
open Go.ChangeShapes Go.WideShapes Go.ChangeAt Go.RowKit
set_option linter.unusedVariables false
set_option maxRecDepth 100000

/-- Definitions that read outside X. -/
def frX (N : Nat) (X : Nat → Prop) (w0 : World) (f : Nat → Value) (d : Df) : Prop := Fr X (fun y => defR N y f d) w0
theorem frX_one {N : Nat} {X : Nat → Prop} {w0 : World} : ∀ (f : Nat → Value) x, frX N X w0 f x → ∀ j, j < 22 → (f j).oneCell' = true := fun f x h => (defR_k N).one w0 f x h.here
theorem frX_k (N : Nat) (X : Nat → Prop) (w0 : World) : Rk 22 (fun _ => frX N X w0) := ⟨fun _ _ _ _ h _ => h, fun _ f g x h e => Fr.mono h fun y hy => (defR_k N).congr y f g x hy e, fun _ f x h => frX_one f x h⟩
abbrev OwnE (N : Nat) (X : Nat → Prop) (w0 : World) (base : Nat) (w : World) (v : Value) (l : List Df) : Prop := OwnR 22 (frX N X w0) base 50 w v l
theorem frX_ls {N : Nat} {X : Nat → Prop} {w : World} {v : Value} {l : List Df} (h : Fr X (fun y => LsAt 22 272 (defR N) y v l) w) : LsAt 22 272 (fun _ => frX N X w) w v l := by
  obtain ⟨F, hS, hE⟩ := Fr.ls (defR_k N) (by decide) h
  exact ⟨h.here.1, h.here.2.1, F, hS.here, hE⟩
theorem LsAt.dfX {N : Nat} {X : Nat → Prop} {w0 w : World} {a : Option Addr} {n c : Nat} {l : List Df} (h : LsAt 22 272 (fun _ => frX N X w0) w (.slice a n c) l) (i : Nat) (hi : i < l.length) :
    ∃ (g o : Nat) (cs : Array Value), a = some ⟨g, o, none⟩ ∧ g < w.heap.size ∧ CsAt 22 (fun _ => frX N X w0) w cs l[i] ∧ (∀ y, Up w y → (Instr.loadAt 50 (.pointer (some ⟨g, o + i * 22, none⟩))).run Tryz.prog y = .ok (.agg cs) y) ∧ cs.getD 0 undef = .string l[i].nm ∧ l[i].nm.size ≤ maxLen := by
  obtain ⟨g, o, cs, e, hg, hc, hr⟩ := h.row (frX_k N X w0) i hi
  exact ⟨g, o, cs, e, hg, hc, fun y hy => run_def hc.1 (hr y hy), hc.2.here.1.1, hc.2.here.1.2⟩
/-- How often a name occurs. -/
def cntN (l : List Df) (s : ByteArray) : Nat := (l.filter fun d => decide (d.nm = s)).length
theorem cntN_snoc (l : List Df) (d : Df) (s : ByteArray) : cntN (l ++ [d]) s = if s = d.nm then cntN l d.nm + 1 else cntN l s := by
  unfold cntN
  rw [List.filter_append, List.length_append]
  by_cases e : s = d.nm
  · subst e
    rw [if_pos rfl, List.filter_cons_of_pos (by simp)]; rfl
  · rw [if_neg e, List.filter_cons_of_neg (by simpa using fun h => e h.symm)]; simp
theorem cntN_cut {l : List Df} {k : Nat} (hk : k < l.length) (s : ByteArray) : cntN l s = cntN (l.take k ++ l.drop (k + 1)) s + if s = l[k].nm then 1 else 0 := by
  conv => lhs; rw [← List.take_append_drop k l, List.drop_eq_getElem_cons hk]
  unfold cntN
  rw [List.filter_append, List.filter_append, List.length_append, List.length_append, List.filter_cons]
  by_cases e : s = l[k].nm
  · rw [if_pos e, if_pos (by simpa using e.symm), List.length_cons]; omega
  · rw [if_neg e, if_neg (by simpa using fun h => e h.symm)]; omega
theorem cntN_pos {l : List Df} {s : ByteArray} : 0 < cntN l s ↔ s ∈ l.map (·.nm) := by
  unfold cntN
  rw [List.length_pos_iff_exists_mem, List.mem_map]
  exact ⟨fun ⟨d, h⟩ => ⟨d, (List.mem_filter.1 h).1, of_decide_eq_true (List.mem_filter.1 h).2⟩, fun ⟨d, h, e⟩ => ⟨d, List.mem_filter.2 ⟨h, decide_eq_true e⟩⟩⟩
theorem cntN_le (l : List Df) (s : ByteArray) : cntN l s ≤ l.length := List.length_filter_le _ _
theorem rds_rdy (l : List Df) (d : Df) : rdsB (l.map (·.nm)) (readsF d.body) = !rdyB l d := by
  rw [Bool.eq_iff_iff]
  unfold rdsB rdyB
  simp only [List.any_eq_true, Bool.not_not]
  exact ⟨fun ⟨s, h1, h2⟩ => by
    obtain ⟨x, hx, e⟩ := List.mem_map.1 (has_iff.1 h2)
    exact ⟨x, hx, has_iff.2 (e ▸ h1)⟩, fun ⟨x, hx, h⟩ => ⟨x.nm, has_iff.1 h, has_iff.2 (List.mem_map.2 ⟨x, hx, rfl⟩)⟩⟩
theorem OwnR.frLs {α : Type} {k B : Nat} {R0 : (Nat → Value) → α → Prop} {base : Nat} {e : TypeId} {w : World} {v : Value} {l : List α} {X : Nat → Prop} (h : OwnR k R0 base e w v l) (hX : ∀ b, X b → b < base) (hB : 1 ≤ B) (hb : l.length * B ≤ 140737488351232) : Fr X (fun z => LsAt k B (fun _ => R0) z v l) w := by
  obtain ⟨F, h1, h2⟩ := h
  obtain ⟨a, c, rfl⟩ := own_slice h1
  have : l.length * 1 ≤ l.length * B := Nat.mul_le_mul_left _ hB
  exact Fr.mkLs ⟨a, c, rfl, own_cap h1⟩ hb (own_fr h1 (by omega) fun g hg hx => by have := own_base h1 g hg; have := hX g hx; omega) fun i hi y _ => h2 i hi

set_option maxHeartbeats 32000000 in
theorem p_TopoSort (N : Nat) (p : Pg) (v : Value) (w : World) (hv : ProgAt N w v p) (hb : ∀ d ∈ p.defs, tot d.body ≤ 1500) (hsm : p.defs.length ≤ 40) :
    Calls Tryz.prog 6 #[v] w fun e w' => ∃ u, e = .returned (.tuple #[u, .int .i64 (topoF p).2]) ∧ Up w w' ∧ ProgAt N w' u (topoF p).1 := by
  obtain ⟨sa, sc, ca, cc, pa, pc, da, dc, oa, oc, rfl, hs, hcn, hp, hd, ho⟩ := hv.open
  obtain ⟨sizes, cons, pars, defs, outs⟩ := p
  dsimp only at *
  obtain ⟨sn, hsn⟩ : ∃ q, sizes.length = q := ⟨_, rfl⟩
  obtain ⟨cn, hcnn⟩ : ∃ q, cons.length = q := ⟨_, rfl⟩
  obtain ⟨pn, hpn⟩ : ∃ q, pars.length = q := ⟨_, rfl⟩
  obtain ⟨dn, hdn⟩ : ∃ q, defs.length = q := ⟨_, rfl⟩
  obtain ⟨on_, hon⟩ : ∃ q, outs.length = q := ⟨_, rfl⟩
  rw [hsn] at hs hv ⊢
  rw [hcnn] at hcn hv ⊢
  rw [hpn] at hp hv ⊢
  rw [hdn] at hd hv ⊢
  rw [hon] at ho hv ⊢
  have hdI : (dn : Int) ≤ 140737488351232 := by have := hd.bytes; rw [hdn] at this; omega
  have hpI : (pn : Int) ≤ 140737488351232 := by have := hp.bytes; rw [hpn] at this; omega
  have HV := Lib.hid hv
  have HS := Lib.hid hs
  have HC := Lib.hid hcn
  have HP := Lib.hid hp
  have HD := Lib.hid hd
  have HO := Lib.hid ho
  have HPN := Lib.hid hpn
  have HDN := Lib.hid hdn
  have HON := Lib.hid hon
  clear hs hcn hp hd ho hsn hcnn hpn hdn hon hv
  have HSS := HS
  have HCPY := Lib.hid (fun y (hy : Up w y) => p_Copy N ⟨sizes, cons, pars, defs, outs⟩ _ w y HV.out hy)
  have HSM : Hid (dn ≤ 40) := Lib.hid (by rw [← HDN.out]; exact hsm)
  obtain ⟨T, hT⟩ : ∃ T, topoL defs.length defs [] = T := ⟨_, rfl⟩
  have HT := Lib.hid hT
  have HS0 : Hid (SumT T defs []) := Lib.hid ⟨hT, by have := HSM.out; have := HDN.out; simp; omega, hb⟩
  have hdn40 : (dn : Int) ≤ 40 := by have := HSM.out; omega
  clear hb hsm hT
  have HU0 := Lib.hid (((Up.refl w).alloc (.cells #[.slice sa sn sc, .slice ca cn cc, .slice pa pn pc, .slice da dn dc, .slice oa on_ oc] 27)).alloc (.cells #[.slice none 0 0, .slice none 0 0, .slice none 0 0, .slice none 0 0, .slice none 0 0] 27))
  have HB0 := Lib.hid ((BoxC.new w 27 #[.slice sa sn sc, .slice ca cn cc, .slice pa pn pc, .slice da dn dc, .slice oa on_ oc]).up ((Up.refl _).alloc (.cells #[.slice none 0 0, .slice none 0 0, .slice none 0 0, .slice none 0 0, .slice none 0 0] 27)))
  have HZ0 := Lib.hid (BoxC.new2 w (.cells #[.slice sa sn sc, .slice ca cn cc, .slice pa pn pc, .slice da dn dc, .slice oa on_ oc] 27) 27 #[.slice none 0 0, .slice none 0 0, .slice none 0 0, .slice none 0 0, .slice none 0 0])
  have HLP := Lib.hid (run_cs (P := Tryz.prog) Tryz.underlying27 rfl prog_info (cs := #[.slice sa sn sc, .slice ca cn cc, .slice pa pn pc, .slice da dn dc, .slice oa on_ oc]) rfl HB0.out.range)
  have hmm := @run_makeMap Tryz.prog
  go_enter Tryz.func6, Tryz.ntmps6
  go_upto_region 2 with (first
    | (refine st_load HLP.out (by rfl) ?_)
    | (go_at_call 20; (with_reducible refine (HCPY.out _ HU0.out).mono ?_); rintro e' W1 ⟨u, rfl, hy, hfr⟩; obtain ⟨X1, hX1, hfr⟩ : ∃ X : Nat → Prop, (∀ b, w.heap.size ≤ b → b < w.heap.size + 2 → X b) ∧ Fr X (fun y => ProgAt N y u ⟨sizes, cons, pars, defs, outs⟩) W1 := ⟨_, fun b h1 h2 => ⟨h1, by simp only [World.size_alloc]; omega⟩, hfr⟩; obtain ⟨ka, kc, la, lc, ma, mc, xa, xc, ya, yc, rfl, hf1, hf2, hf3, hf4, hf5⟩ := Fr.prog hfr; dsimp only at *; rw [HSS.out.len] at hf1 ⊢; rw [HC.out.len] at hf2 ⊢; rw [HP.out.len] at hf3 ⊢; rw [HD.out.len] at hf4 ⊢; rw [HO.out.len] at hf5 ⊢; have HF1 := Lib.hid hf1; have HF2 := Lib.hid hf2; have HF3 := Lib.hid hf3; have HF4 := Lib.hid (frX_ls hf4); have HX1 := Lib.hid hX1; clear hX1; have HF5 := Lib.hid hf5; have HY1 := Lib.hid hy; clear hfr hf1 hf2 hf3 hf4 hf5 hy; have HFL := Lib.hid (run_fill (P := Tryz.prog) prog_info W1 (Z := #[.slice none 0 0, .slice none 0 0, .slice none 0 0, .slice none 0 0, .slice none 0 0]) (cs := #[.slice ka sn kc, .slice la cn lc, .slice ma pn mc, .slice xa dn xc, .slice ya on_ yc]) rfl rfl (by simp [Value.oneCell'])))
    | (refine st_store HFL.out (by rfl) (by rfl) ?_))
  have HW1 := Lib.hid (HU0.out.trans HY1.out)
  have HZ1 := Lib.hid (HZ0.out.up HY1.out)
  have HBX := Lib.hid (BoxC.new W1 27 #[.slice ka sn kc, .slice la cn lc, .slice ma pn mc, .slice xa dn xc, .slice ya on_ yc])
  have q3 : (W1.alloc (.cells #[.slice ka sn kc, .slice la cn lc, .slice ma pn mc, .slice xa dn xc, .slice ya on_ yc] 27)).cell? ⟨W1.heap.size, 3, none⟩ = some (.slice xa dn xc) := HBX.out.five.2.2.2.1
  have qf := HBX.out.frozen 3
  have h01 : w.heap.size + 1 < W1.heap.size := HZ1.out.lt
  clear HFL HLP HB0 HZ0
  go_upto_region 7 with (fail)
  have HA3 := Lib.hid ((((Up.refl W1).alloc (.cells #[.slice ka sn kc, .slice la cn lc, .slice ma pn mc, .slice none 0 0, .slice ya on_ yc] 27)).alloc (.map #[] 0)).alloc (.map #[] 0))
  have HB3 := Lib.hid (((BoxC.new W1 27 #[.slice ka sn kc, .slice la cn lc, .slice ma pn mc, .slice none 0 0, .slice ya on_ yc]).up ((Up.refl _).alloc (.map #[] 0))).up ((Up.refl _).alloc (.map #[] 0)))
  have HC3 : Hid (CntAt (((W1.alloc (.cells #[.slice ka sn kc, .slice la cn lc, .slice ma pn mc, .slice none 0 0, .slice ya on_ yc] 27)).alloc (.map #[] 0)).alloc (.map #[] 0)) (W1.heap.size + 1) 0 (fun _ => 0)) := Lib.hid (by have h := (CntAt.made (W1.alloc (.cells #[.slice ka sn kc, .slice la cn lc, .slice ma pn mc, .slice none 0 0, .slice ya on_ yc] 27))).up ((Up.refl _).alloc (.map #[] 0)); simp only [World.size_alloc] at h; exact h)
  have HS3 : Hid (SetAt (((W1.alloc (.cells #[.slice ka sn kc, .slice la cn lc, .slice ma pn mc, .slice none 0 0, .slice ya on_ yc] 27)).alloc (.map #[] 0)).alloc (.map #[] 0)) (W1.heap.size + 1 + 1) 0 []) := Lib.hid (by have h := SetAt.made ((W1.alloc (.cells #[.slice ka sn kc, .slice la cn lc, .slice ma pn mc, .slice none 0 0, .slice ya on_ yc] 27)).alloc (.map #[] 0)); simp only [World.size_alloc] at h; exact h)
  clear HBX q3 qf
  go_loopw [23] (fun iv wr => ∃ i : Nat, iv = .int .i64 i ∧ i ≤ dn ∧ Up W1 wr ∧ BoxC wr W1.heap.size 27 #[.slice ka sn kc, .slice la cn lc, .slice ma pn mc, .slice none 0 0, .slice ya on_ yc] ∧ CntAt wr (W1.heap.size + 1) i (cntN (defs.take i)) ∧ SetAt wr (W1.heap.size + 1 + 1) i ((defs.take i).map (·.nm))) (fun iv _ => dn - (intOf iv).toNat)
  case atStart => exact ⟨0, rfl, Nat.zero_le _, HA3.out, HB3.out, HC3.out, HS3.out⟩
  case round =>
    rename World => wr
    obtain ⟨i, rfl, hi, hup, hbx, hcn, hst⟩ := hrel
    have HU := Lib.hid hup
    have HB := Lib.hid hbx
    have HCN := Lib.hid hcn
    have HST := Lib.hid hst
    have hgl : W1.heap.size + 1 + 1 < wr.heap.size := hst.lt
    clear hup hbx hcn hst HA3 HB3 HC3 HS3
    by_cases hlt : i < dn
    · have hltI : (i : Int) < dn := by omega
      have hi1 : i < defs.length := by rw [HDN.out]; exact hlt
      obtain ⟨g, o, cs, rfl, hg, hcs, hld, e0, hsz⟩ := HF4.out.dfX i hi1
      have HTK := Lib.hid (takeS HDN.out hlt)
      obtain ⟨d, hx⟩ : ∃ d, defs[i] = d := ⟨_, rfl⟩
      have HTK : Hid (defs.take (i + 1) = defs.take i ++ [d]) := Lib.hid (by rw [← hx]; exact HTK.out)
      rw [hx] at hcs e0 hsz
      obtain ⟨x, hnm⟩ : ∃ x, d.nm = x := ⟨_, rfl⟩
      rw [hnm] at e0 hsz
      have HNM := Lib.hid hnm
      obtain ⟨c, hc⟩ : ∃ c, cntN (defs.take i) x = c := ⟨_, rfl⟩
      have hc40 : c ≤ 40 := by have h1 := cntN_le (defs.take i) x; rw [hc, List.length_take] at h1; omega
      have hcI : (c : Int) ≤ 40 := by omega
      have HC := Lib.hid hc
      have HSZ := Lib.hid hsz
      have HLD := Lib.hid (hld wr HU.out)
      have hg' := Nat.lt_of_lt_of_le hg HU.out.size
      have HFL := Lib.hid (run_fill (P := Tryz.prog) (k := 22) def_i wr (Z := #[.string ByteArray.empty, .int .i64 0, .int .i64 0, .int .i64 0, .int .i64 0, .int .i64 0, .slice none 0 0, .slice none 0 0, .int .i64 0, .int .i64 0, .string ByteArray.empty, .int .i64 0, .int .i64 0, .int .i64 0, .int .i64 0, .int .i64 0, .int .i64 0, .int .i64 0, .int .i64 0, .slice none 0 0, .slice none 0 0, .slice none 0 0]) (cs := cs) rfl hcs.1 (hcs.one (frX_k N X1 W1)))
      have HAY := Lib.hid ((Up.refl wr).alloc (.cells cs 50))
      have HBD := Lib.hid (BoxC.new wr 50 cs)
      have HZC := Lib.hid hcs.1
      have HE0 := Lib.hid e0
      have n0 := HBD.out.at e0 (by rw [hcs.1]; decide)
      have HCA := Lib.hid (HCN.out.up HAY.out)
      have HSA := Lib.hid (HST.out.up HAY.out)
      have HBA := Lib.hid (HB.out.up HAY.out)
      have HUA := Lib.hid (HU.out.trans HAY.out)
      clear hx hld hg hcs e0 hsz hnm hc hi1
      go_wp2_with (first
        | (refine st_load HLD.out (by rfl) ?_)
        | (refine st_store HFL.out (by rfl) (by rfl) ?_)
        | (refine st_cnt HCA.out HSZ.out (by rfl) (by rfl) ?_; rw [HC.out])
        | (refine st_cput HCA.out HSZ.out (by unfold maxLen; omega) (c + 1) (by omega) (by rfl) (by rfl) (by rfl) ?_; intro w1 h1 h2; have HC1 := Lib.hid h1; have HG1 := Lib.hid h2; have hbd := HBD.out.kept h2 (fun e => by have := Option.some.inj e; omega); have HBD1 := Lib.hid hbd; have n0 := hbd.at HE0.out (by rw [HZC.out]; decide); have HS1 := Lib.hid (HSA.out.kept h2 (fun e => by have := Option.some.inj e; omega)); clear h1 h2 hbd)
        | (refine st_put HS1.out HSZ.out (by unfold maxLen; omega) (by rfl) (by rfl) (by rfl) ?_; intro w2 h1 h2; have HS2 := Lib.hid h1; have HG2 := Lib.hid h2; clear h1 h2))
      go_roundw
      case rel =>
        refine ⟨i + 1, by go_num, by omega, (HUA.out.grown' HG1.out (fun k e => by cases e; omega)).grown' HG2.out (fun k e => by cases e; omega), (HBA.out.kept HG1.out (fun e => by have := Option.some.inj e; omega)).kept HG2.out (fun e => by have := Option.some.inj e; omega), ?_, ?_⟩
        · refine (HC1.out.kept HG2.out (fun e => by have := Option.some.inj e; omega)).congr fun s => ?_
          rw [HTK.out, cntN_snoc, HNM.out, HC.out]
        · refine HS2.out.congr fun s => ?_
          rw [HTK.out, List.map_append, ← HNM.out]
          simp [or_comm]
      case measure => simp [intOf]; omega
    · obtain rfl : dn = i := by omega
      have HTK : Hid (defs.take dn = defs) := Lib.hid (List.take_of_length_le (by rw [HDN.out]; exact Nat.le_refl _))
      rw [HTK.out] at HCN HST
      have HLS0 : Hid (Fr (fun b => (W1.heap.size ≤ b ∧ b < W1.heap.size + 3) ∨ (Value.slice none 0 0).ownBlock = some b) (fun z => LsAt 22 272 (fun _ => frX N X1 W1) z (.slice xa dn xc) defs) wr) := Lib.hid (((Fr.of (P := (fun z => LsAt 22 272 (fun _ => frX N X1 W1) z (.slice xa dn xc) defs)) HF4.out (fun w' h u => h.up (fun _ _ _ _ h _ => h) u)).up HU.out).less fun b _ e => by rcases e with e | e; exact e.1; cases e)
      clear HTK
      go_wp2
      go_loopw [5] (fun rv y => ∃ (rest out : List Df) (ov : Value) (nc : Nat), SumT T rest out ∧ Up W1 y ∧ BoxC y W1.heap.size 27 #[.slice ka sn kc, .slice la cn lc, .slice ma pn mc, ov, .slice ya on_ yc] ∧ Fr (fun b => (W1.heap.size ≤ b ∧ b < W1.heap.size + 3) ∨ (ov).ownBlock = some b) (fun z => LsAt 22 272 (fun _ => frX N X1 W1) z (rv) rest) y ∧ OwnE N X1 W1 (W1.heap.size + 3) y ov out ∧ CntAt y (W1.heap.size + 1) nc (cntN rest) ∧ nc + rest.length ≤ 80 ∧ SetAt y (W1.heap.size + 1 + 1) dn (rest.map (·.nm))) (fun rv _ => lenOf' rv)
      case atStart => exact ⟨defs, [], .slice none 0 0, dn, HS0.out, HU.out, HB.out, HLS0.out, OwnL.nil, HCN.out, by have := HDN.out; omega, HST.out⟩
      case round =>
        rename World => wq
        clear HLS0 HCN HST HB HU hgl HS0
        obtain ⟨rest, out, ov, nc, hsum, hup, hbx, hls, hout, hcn, hnc, hst⟩ := hrel
        obtain ⟨ra, rc, rfl, -⟩ := hls.here.shape
        obtain ⟨va, vc, rfl⟩ := hout.shape
        obtain ⟨n, hn⟩ : ∃ n, rest.length = n := ⟨_, rfl⟩
        obtain ⟨m, hm⟩ : ∃ m, out.length = m := ⟨_, rfl⟩
        have HNM : Hid (n + m ≤ 40) := Lib.hid (by rw [← hn, ← hm]; exact hsum.2.1)
        rw [hn] at hls hnc ⊢
        rw [hm] at hout hls hbx
        have HN := Lib.hid hn
        have HM := Lib.hid hm
        have HU := Lib.hid hup
        have HB := Lib.hid hbx
        have HR := Lib.hid hls
        have HQ := Lib.hid hout
        have HCN := Lib.hid hcn
        have HNC := Lib.hid hnc
        have HST := Lib.hid hst
        have HSUM := Lib.hid hsum
        have hn40 : n ≤ 40 := by have := HNM.out; omega
        have hnI : (n : Int) ≤ 40 := by omega
        have hgl : W1.heap.size + 1 + 1 < wq.heap.size := hst.lt
        clear hsum hup hbx hls hout hcn hnc hst hn hm
        by_cases h0 : 0 < n
        · have h0I : (0 : Int) < n := by omega
          have HLR := Lib.hid HR.out.here
          go_wp2
          go_loopw [10, 41] (fun nv kv y => ∃ k : Nat, nv = .int .i64 (-1) ∧ kv = .int .i64 k ∧ k ≤ n ∧ NotR rest k ∧ Up wq y) (fun _ kv _ => n - (intOf kv).toNat)
          case atStart => exact ⟨0, rfl, rfl, Nat.zero_le _, NotR.zero rest, Up.refl _⟩
          case round =>
            rename World => y
            obtain ⟨k, rfl, rfl, hk, hnr, hupy⟩ := hrel
            have HNR := Lib.hid hnr
            have HUY := Lib.hid hupy
            clear hnr hupy
            by_cases hlt : k < n
            · have hltI : (k : Int) < n := by omega
              have hk1 : k < rest.length := by rw [HN.out]; exact hlt
              obtain ⟨g, o, cs, rfl, hg, hcs, hld, e0, hsz⟩ := HLR.out.dfX k hk1
              have HTB := Lib.hid (HSUM.out.2.2 _ (List.getElem_mem hk1))
              have HNX := Lib.hid (HNR.out.next (hk := hk1))
              have HCUT := Lib.hid (fun s => cntN_cut hk1 s)
              obtain ⟨d, hx⟩ : ∃ d, rest[k] = d := ⟨_, rfl⟩
              have HSTEP : Hid (rdyB rest d = true → topoL n rest out = topoL (n - 1) (rest.take k ++ rest.drop (k + 1)) (out ++ [d])) := Lib.hid (by
                intro h1
                obtain ⟨f, hf⟩ : ∃ f, n = f + 1 := ⟨n - 1, by omega⟩
                have e : n - 1 = f := by omega
                rw [e, hf]
                rw [← hx] at h1 ⊢
                exact topoL_step HN.out (by omega) hlt h1 (fun j hj => HNR.out j (by rw [HN.out]; omega) hj))
              rw [hx] at HTB hcs HNX e0 hsz HCUT
              have HCS := Lib.hid hcs
              have HLD := Lib.hid hld
              have HLY := Lib.hid (hld y HUY.out)
              have hg' := Nat.lt_of_lt_of_le hg HUY.out.size
              have HG := Lib.hid hg
              have HE0 := Lib.hid e0
              have HSZ := Lib.hid hsz
              obtain ⟨b, hb⟩ : ∃ b, rdyB rest d = b := ⟨_, rfl⟩
              have HRR : Hid (rdsB (rest.map (·.nm)) (readsF d.body) = !b) := Lib.hid (by rw [rds_rdy, hb])
              have HBB := Lib.hid hb
              have HFL := Lib.hid (run_fill (P := Tryz.prog) (k := 22) def_i y (Z := #[.string ByteArray.empty, .int .i64 0, .int .i64 0, .int .i64 0, .int .i64 0, .int .i64 0, .slice none 0 0, .slice none 0 0, .int .i64 0, .int .i64 0, .string ByteArray.empty, .int .i64 0, .int .i64 0, .int .i64 0, .int .i64 0, .int .i64 0, .int .i64 0, .int .i64 0, .int .i64 0, .slice none 0 0, .slice none 0 0, .slice none 0 0]) (cs := cs) rfl hcs.1 (hcs.one (frX_k N X1 W1)))
              have HAY := Lib.hid ((Up.refl y).alloc (.cells cs 50))
              have HLE := Lib.hid (run_def hcs.1 (BoxC.new y 50 cs).range)
              have HRD := Lib.hid (p_reads N (W1.heap.size + 1 + 1) dn (rest.map (·.nm)) d _ (y.alloc (.cells cs 50)) (HST.out.up (HUY.out.trans HAY.out)) (DefAt.up ⟨cs, rfl, (⟨hcs.1, hcs.2.here⟩ : CsAt 22 (defR N) W1 cs d)⟩ (HU.out.trans (HUY.out.trans HAY.out))) HTB.out)
              clear hx hcs hld hg hk1 hb e0 hsz
              cases b
              · have HR1 : Hid (rdsB (rest.map (·.nm)) (readsF d.body) = true) := Lib.hid (by rw [HRR.out]; rfl)
                go_wp2_with (first
                  | (refine st_load HLY.out (by rfl) ?_)
                  | (refine st_store HFL.out (by rfl) (by rfl) ?_)
                  | (refine st_load HLE.out (by rfl) ?_)
                  | (go_at_call 21; (with_reducible refine (HRD.out true HR1.out).mono ?_); rintro e' y2 ⟨rfl, hy⟩; have HY := Lib.hid hy; clear hy))
                go_roundw
                case rel => exact ⟨k + 1, rfl, by go_num, by omega, HNX.out HBB.out, HUY.out.trans (HAY.out.trans HY.out)⟩
                case measure => simp [intOf]; omega
              · have HR1 : Hid (rdsB (rest.map (·.nm)) (readsF d.body) = false) := Lib.hid (by rw [HRR.out]; rfl)
                have hk0 : decide ((k : Int) < 0) = false := by simp
                go_upto_region 22 with (first
                  | (refine st_load HLY.out (by rfl) ?_)
                  | (refine st_store HFL.out (by rfl) (by rfl) ?_)
                  | (refine st_load HLE.out (by rfl) ?_)
                  | (go_at_call 21; (with_reducible refine (HRD.out false HR1.out).mono ?_); rintro e' y2 ⟨rfl, hy⟩; have HY := Lib.hid (HUY.out.trans (HAY.out.trans hy)); clear hy))
                have HLD2 := Lib.hid (HLD.out y2 HY.out)
                have hg2 : g < y2.heap.size := Nat.lt_of_lt_of_le HG.out HY.out.size
                have HFL2 := Lib.hid (run_fill (P := Tryz.prog) (k := 22) def_i y2 (Z := #[.string ByteArray.empty, .int .i64 0, .int .i64 0, .int .i64 0, .int .i64 0, .int .i64 0, .slice none 0 0, .slice none 0 0, .int .i64 0, .int .i64 0, .string ByteArray.empty, .int .i64 0, .int .i64 0, .int .i64 0, .int .i64 0, .int .i64 0, .int .i64 0, .int .i64 0, .int .i64 0, .slice none 0 0, .slice none 0 0, .slice none 0 0]) (cs := cs) rfl HCS.out.1 (HCS.out.one (frX_k N X1 W1)))
                have HA5 := Lib.hid ((Up.refl y2).alloc (.cells cs 50))
                have HBN := Lib.hid (BoxC.new y2 50 cs)
                go_upto_region 23 with (first
                  | (refine st_load HLD2.out (by rfl) ?_)
                  | (refine st_store HFL2.out (by rfl) (by rfl) ?_))
                obtain ⟨W5, hW⟩ : ∃ W, y2.alloc (.cells cs 50) = W := ⟨_, rfl⟩
                have HWS : Hid (y2.heap.size < W5.heap.size) := Lib.hid (by rw [← hW, World.size_alloc]; omega)
                rw [hW] at HA5 HBN ⊢
                clear hW HLD2 HFL2 HFL HLE HLY HRD hg'
                have HY5 := Lib.hid (HY.out.trans HA5.out)
                have HLE5 := Lib.hid (run_def HCS.out.1 HBN.out.range)
                have HB5 := Lib.hid (HB.out.up HY5.out)
                have q3 : W5.cell? ⟨W1.heap.size, 3, none⟩ = some (.slice va m vc) := HB5.out.five.2.2.2.1
                have HQ5 := Lib.hid (OwnL.up (fun _ _ _ _ h _ => h) HQ.out (HY5.out.alloc (.cells cs 50)))
                have HSL : Hid (LsAt 22 272 (fun _ => frX N X1 W1) (W5.alloc (.cells cs 50)) (.slice (some ⟨W5.heap.size, 0, none⟩) 1 1) [d]) := Lib.hid (LsAt.blk HCS.out.1 (by decide) (BoxC.new W5 50 cs) HCS.out.2)
                have HA6 := Lib.hid ((Up.refl W5).alloc (.cells cs 50))
                have hq5 := HY5.out.size
                have hqy := HY.out.size
                have hmI : (m : Int) ≤ 40 := by have := HNM.out; omega
                go_upto_region 24 with (first
                  | (refine st_load HLE5.out (by rfl) ?_)
                  | (refine st_build rowT_def (by decide) (cs := cs) HCS.out.1 (by rfl) ?_)
                  | (at_builtin; refine st_app (mm := 1) rowT_def frX_one HM.out (by rfl) (H := HQ5.out) (S := HSL.out) (by have := HNM.out; omega) (by decide) (by simp only [World.size_alloc]; omega) (by rfl) (by rfl) ?_; intro ua uc w6 h1 h2 h3; have HQ6 := Lib.hid h1; have HG6 := Lib.hid h2; have HE6 := Lib.hid h3; have hb6 := (HB5.out.up HA6.out).kept h2 (fun e => by have := HQ5.out.base _ e.symm; omega); have HB6 := Lib.hid hb6; have q3 : w6.cell? ⟨W1.heap.size, 3, none⟩ = some (.slice va m vc) := hb6.five.2.2.2.1; have qs := hb6.lt; have qf := hb6.frozen 3; clear h1 h2 h3 hb6))
                have hgs := set_by w6 W1.heap.size 3 (.slice ua (m + 1) uc)
                have hyy := HY5.out.trans HA6.out
                have HU7 := Lib.hid (((HU.out.trans hyy).grown' HG6.out (fun k e => by have := HQ5.out.base k e; omega)).grown' hgs (fun k e => by cases e; exact Nat.le_refl _))
                have HB7 := Lib.hid (show BoxC (w6.setCell ⟨W1.heap.size, 3, none⟩ (.slice ua (m + 1) uc)) W1.heap.size 27 #[.slice ka sn kc, .slice la cn lc, .slice ma pn mc, .slice ua (m + 1) uc, .slice ya on_ yc] from set_heap HB6.out (o := 3) (.slice ua (m + 1) uc))
                have HBN7 := Lib.hid (((HBN.out.up HA6.out).kept HG6.out (fun e => by have := HQ.out.lt0 _ e.symm; omega)).kept hgs (fun e => by have := Option.some.inj e; omega))
                have HQ7 := Lib.hid (own_keptL HQ6.out hgs (fun g hg e => by have := HQ6.out.base g hg; have := Option.some.inj e; omega))
                have HCN7 := Lib.hid (((HCN.out.up hyy).kept HG6.out (fun e => by have := HQ5.out.base _ e.symm; omega)).kept hgs (fun e => by have := Option.some.inj e; omega))
                have HST7 := Lib.hid (((HST.out.up hyy).kept HG6.out (fun e => by have := HQ5.out.base _ e.symm; omega)).kept hgs (fun e => by have := Option.some.inj e; omega))
                have HR7 := Lib.hid (((HR.out.up hyy).to (Z := (fun b => (W1.heap.size ≤ b ∧ b < W1.heap.size + 3) ∨ (Value.slice ua (m + 1) uc).ownBlock = some b)) (Kp.of_by (X := fun b => (Value.slice va m vc).ownBlock = some b) HG6.out (fun g e => e)) (fun b _ e => .inr e) (fun b hb e => by rcases e with e | e; exact .inl e; rcases HE6.out with h | h; exact .inr (h.symm.trans e); rw [h] at e; have := Option.some.inj e; omega)).by hgs (fun g e => .inl (by have := Option.some.inj e; omega)))
                obtain ⟨W7, hW⟩ : ∃ W, w6.setCell ⟨W1.heap.size, 3, none⟩ (.slice ua (m + 1) uc) = W := ⟨_, rfl⟩
                rw [hW] at HU7 HB7 HBN7 HQ7 HCN7 HST7 HR7 ⊢
                clear hW hgs hyy q3 qs qf HB6 HQ6 HG6 HE6 HSL HQ5 HA6 HLE5 HB5 HBN
                have HLS7 := Lib.hid HR7.out.here
                have HCP7 : Hid (n ≤ rc) := Lib.hid (by obtain ⟨a', c', e, hh⟩ := HR7.out.here.shape; rw [HN.out] at hh; cases e; exact hh)
                have hkI : (k : Int) ≤ (rc : Int) := by have := HCP7.out; omega
                have hnrI : (n : Int) ≤ (rc : Int) := by have := HCP7.out; omega
                have hkn : (k : Int) ≤ n := by omega
                have hk1n : (k : Int) + 1 ≤ n := by omega
                have HTKL := Lib.hid (HLS7.out.take k (by rw [HN.out]; omega))
                have HDP := Lib.hid (HLS7.out.drop (k + 1) (by rw [HN.out]; omega))
                have HTL : Hid ((rest.take k).length = k) := Lib.hid (by rw [List.length_take, HN.out]; omega)
                have HDL : Hid ((rest.drop (k + 1)).length = n - (k + 1)) := Lib.hid (by rw [List.length_drop, HN.out])
                have HLO : Hid (W1.heap.size + 3 ≤ W7.heap.size) := Lib.hid (by have := HCN7.out.lt; have := HST7.out.lt; omega)
                obtain ⟨-, -, FT, hsk, hek⟩ := HTKL.out
                rw [HTL.out] at hsk
                have HSK := Lib.hid hsk
                have HEK := Lib.hid hek
                obtain ⟨ji, zi, ii0, ii1, ii2, ii3, ii4⟩ := rowT_def.info
                obtain ⟨x, hnm⟩ : ∃ x, d.nm = x := ⟨_, rfl⟩
                rw [hnm] at HE0 HSZ
                have HNMX := Lib.hid hnm
                have HSZX := HSZ
                obtain ⟨c, hc⟩ : ∃ c, cntN rest x = c := ⟨_, rfl⟩
                have hc40 : c ≤ 40 := by have h1 := cntN_le rest x; rw [hc, HN.out] at h1; omega
                have hc1' : 1 ≤ c := by have h1 := HCUT.out x; rw [hnm, if_pos rfl, hc] at h1; omega
                have hcI : (c : Int) ≤ 40 := by omega
                have hcI1 : (1 : Int) ≤ c := by omega
                have HCC := Lib.hid hc
                clear hsk hek hnm hc
                rcases Decidable.em (rc = k + 1) with rfl | hci
                · have HSD : Hid (LsAt 22 272 (fun _ => frX N X1 W1) W7 (.slice (some ⟨g, o, none⟩) (n - (k + 1)) 0) (rest.drop (k + 1))) := Lib.hid (by have := HDP.out; rw [if_pos rfl, Nat.sub_self] at this; exact this)
                  clear HDP
                  refine wp_region_mk 8 (fun _ _ _ _ => False) (by kernel_rfl) (by kernel_rfl) ?_
                  simp only [List.take_succ_cons, List.take_zero, List.drop_succ_cons, List.drop_zero, Act.put]
                  iterate 3 (refine wpMk_quiet anti_post (by kernel_rfl) ?_; go_big_quiet_step (fail); refine wpQuiet_nil ?_)
                  refine wpMk_append anti_post _ _ 25 rfl 50 ji zi 22 272 rowT_def.sl ii0 ii1 ii2 ii3 ii4 (by decide) rfl _ k FT (by rfl) HSK.out (fun i j hi hj => frX_one _ _ (HEK.out i (by rw [HTL.out]; exact hi)) j hj) (by unfold maxLen; omega) (by omega) (by kernel_rfl) ?_
                  intro vb vd _
                  simp only [Act.put, List.setIfInBounds_toArray, List.set_cons_succ, List.set_cons_zero]
                  iterate 4 (refine wpMk_quiet anti_post (by kernel_rfl) ?_; go_big_quiet_step (fail); refine wpQuiet_nil ?_)
                  refine wpMk_nil ?_
                  rintro W8 hW8 ⟨-, hro⟩
                  have HU8 := Lib.hid hW8
                  have HX5 : Hid (OwnE N X1 W1 W7.heap.size W8 (.slice vb k vd) (rest.take k)) := Lib.hid ⟨FT, by rw [HTL.out]; exact hro, HEK.out⟩
                  clear hW8 hro
                  go_upto_region 25 with (at_builtin; (refine st_app (l := rest.take k) (n := k) (mm := n - (k + 1)) (base := W7.heap.size) rowT_def frX_one HTL.out HDL.out (H := HX5.out) (S := HSD.out.up (fun _ _ _ _ h _ => h) HU8.out) (by omega) (by decide) HU8.out.size ?_ ?_ ?_); (rfl); (rfl); intro ya2 yc2 w9 h1 h2 h3; have HX6 := Lib.hid h1; have HG6 := Lib.hid h2; have HU9 := Lib.hid (HU8.out.grown' h2 fun k e => HX5.out.base k e); clear h1 h2 h3)
                  have HL9 : Hid (Fr (fun b => (W1.heap.size ≤ b ∧ b < W1.heap.size + 3) ∨ (Value.slice ua (m + 1) uc).ownBlock = some b) (fun z => LsAt 22 272 (fun _ => frX N X1 W1) z (.slice ya2 (k + (n - (k + 1))) yc2) (rest.take k ++ rest.drop (k + 1))) w9) := Lib.hid (HX6.out.frLs (fun b e => by rcases e with e | e; have := HLO.out; omega; exact HQ7.out.lt0 b e) (by decide) (by rw [List.length_append, HTL.out, HDL.out]; omega))
                  have hx9 := HBN7.out.up HU9.out
                  have HBN9 := Lib.hid hx9
                  have n0 := hx9.at HE0.out (by rw [HCS.out.1]; decide)
                  have HCN9 := Lib.hid (HCN7.out.up HU9.out)
                  have HST9 := Lib.hid (HST7.out.up HU9.out)
                  have HB9 := Lib.hid (HB7.out.up HU9.out)
                  have HQ9 := Lib.hid (OwnL.up (fun _ _ _ _ h _ => h) HQ7.out HU9.out)
                  have HUU9 := Lib.hid (HU7.out.trans HU9.out)
                  have HEQ : Hid (k + (n - (k + 1)) = n - 1) := Lib.hid (by omega)
                  have hsz13 : y2.heap.size + 1 ≤ w9.heap.size := HBN9.out.lt
                  clear hx9 HCN7 HST7 HB7 HQ7 HU7 HX5 HX6 HU8 HU9 HG6 HBN7 HSD HSK HLS7 HTKL HLO HR7 HCP7
                  have HNXT : Hid (SumT T (rest.take k ++ rest.drop (k + 1)) (out ++ [d])) := Lib.hid (by
                    refine ⟨?_, ?_, ?_⟩
                    · have h1 := HSTEP.out HBB.out
                      have h2 := HSUM.out.1
                      rw [HN.out] at h2
                      rw [List.length_append, HTL.out, HDL.out, HEQ.out, ← h1, h2]
                    · have := HNM.out
                      have := HM.out
                      rw [List.length_append, List.length_append, HTL.out, HDL.out]
                      simp only [List.length_cons, List.length_nil]
                      omega
                    · intro e he
                      rcases List.mem_append.1 he with he | he
                      · exact HSUM.out.2.2 _ (List.mem_of_mem_take he)
                      · exact HSUM.out.2.2 _ (List.mem_of_mem_drop he))
                  have HRL : Hid ((rest.take k ++ rest.drop (k + 1)).length = k + (n - (k + 1))) := Lib.hid (by rw [List.length_append, HTL.out, HDL.out])
                  obtain ⟨r2, hr2⟩ : ∃ q, rest.take k ++ rest.drop (k + 1) = q := ⟨_, rfl⟩
                  rw [hr2] at HL9 HNXT HRL HCUT
                  clear hr2 HSTEP HTL HDL HEK
                  have HC2 : Hid (cntN r2 x = c - 1) := Lib.hid (by have h1 := HCUT.out x; rw [HNMX.out, if_pos rfl, HCC.out] at h1; omega)
                  have HCF : Hid (∀ s, (if s = x then c - 1 else cntN rest s) = cntN r2 s) := Lib.hid (fun s => by
                    have h1 := HCUT.out s
                    by_cases e : s = x
                    · rw [if_pos e, e, HC2.out]
                    · rw [if_neg e]; rw [HNMX.out, if_neg e] at h1; omega)
                  have HCE : Hid ((c : Int) - 1 = ((c - 1 : Nat) : Int)) := Lib.hid (by omega)
                  by_cases hc1 : c = 1
                  · have HC20 : Hid (((cntN r2 x : Nat) : Int) = 0) := Lib.hid (by rw [HC2.out, hc1]; rfl)
                    have HC1' := Lib.hid hc1
                    clear hc1
                    go_wp2_with (first
                      | (refine st_del HST10.out HSZX.out (by rfl) (by rfl) ?_; intro w11 h1 h2; have HST11 := Lib.hid h1; have HG11 := Lib.hid h2; clear h1 h2)
                      | (refine st_cnt HCN10.out HSZX.out (by rfl) (by rfl) ?_; rw [HC20.out])
                      | (refine st_cput HCN9.out HSZX.out (by have := HNC.out; unfold maxLen; omega) (c - 1) (by omega) (by rfl) (by rfl) (congrArg (Value.int .i64) HCE.out) ?_; intro w10 h1 h2; have HCN10 := Lib.hid (CntAt.congr h1 HCF.out); have HG10 := Lib.hid h2; have hx10 := HBN9.out.kept h2 (fun e => by have := Option.some.inj e; omega); have HBN10 := Lib.hid hx10; have n0 := hx10.at HE0.out (by rw [HCS.out.1]; decide); have HST10 := Lib.hid (HST9.out.kept h2 (fun e => by have := Option.some.inj e; omega)); clear h1 h2 hx10)
                      | (refine st_cnt HCN9.out HSZX.out (by rfl) (by rfl) ?_; rw [HCC.out]))
                    simp only [Act.put]
                    go_roundw
                    case rel =>
                      refine ⟨r2, out ++ [d], .slice ua (m + 1) uc, nc + 1, HNXT.out, (HUU9.out.grown' HG10.out (fun k e => by cases e; omega)).grown' HG11.out (fun k e => by cases e; omega), (HB9.out.kept HG10.out (fun e => by have := Option.some.inj e; omega)).kept HG11.out (fun e => by have := Option.some.inj e; omega), (HL9.out.by HG10.out (fun g e => .inl (by have := Option.some.inj e; omega))).by HG11.out (fun g e => .inl (by have := Option.some.inj e; omega)), own_keptL (own_keptL HQ9.out HG10.out (fun g hg e => by have := HQ9.out.base g hg; have := Option.some.inj e; omega)) HG11.out (fun g hg e => by have := HQ9.out.base g hg; have := Option.some.inj e; omega), HCN10.out.kept HG11.out (fun e => by have := Option.some.inj e; omega), by have := HNC.out; have := HRL.out; omega, HST11.out.congr fun s => ?_⟩
                      rw [List.mem_filter, ← cntN_pos, ← cntN_pos, ← HCF.out s]
                      by_cases e : s = x
                      · subst e; simp [HC1'.out]
                      · rw [if_neg e]; simp [e]
                    case measure => simp [lenOf']; omega
                  · have hce : (((c - 1 : Nat) : Int) == 0) = false := by simp; omega
                    go_wp2_with (first
                      | (refine st_cnt HCN10.out HSZX.out (by rfl) (by rfl) ?_; rw [HC2.out])
                      | (refine st_cput HCN9.out HSZX.out (by have := HNC.out; unfold maxLen; omega) (c - 1) (by omega) (by rfl) (by rfl) (congrArg (Value.int .i64) HCE.out) ?_; intro w10 h1 h2; have HCN10 := Lib.hid (CntAt.congr h1 HCF.out); have HG10 := Lib.hid h2; have hx10 := HBN9.out.kept h2 (fun e => by have := Option.some.inj e; omega); have HBN10 := Lib.hid hx10; have n0 := hx10.at HE0.out (by rw [HCS.out.1]; decide); have HST10 := Lib.hid (HST9.out.kept h2 (fun e => by have := Option.some.inj e; omega)); clear h1 h2 hx10)
                      | (refine st_cnt HCN9.out HSZX.out (by rfl) (by rfl) ?_; rw [HCC.out]))
                    go_roundw
                    case rel =>
                      refine ⟨r2, out ++ [d], .slice ua (m + 1) uc, nc + 1, HNXT.out, HUU9.out.grown' HG10.out (fun k e => by cases e; omega), HB9.out.kept HG10.out (fun e => by have := Option.some.inj e; omega), HL9.out.by HG10.out (fun g e => .inl (by have := Option.some.inj e; omega)), own_keptL HQ9.out HG10.out (fun g hg e => by have := HQ9.out.base g hg; have := Option.some.inj e; omega), HCN10.out, by have := HNC.out; have := HRL.out; omega, HST10.out.congr fun s => ?_⟩
                      rw [← cntN_pos, ← cntN_pos, ← HCF.out s]
                      by_cases e : s = x
                      · subst e; rw [if_pos rfl, HCC.out]; omega
                      · rw [if_neg e]
                    case measure => simp [lenOf']; omega
                · have HSD : Hid (LsAt 22 272 (fun _ => frX N X1 W1) W7 (.slice (some ⟨g, o + (k + 1) * 22, none⟩) (n - (k + 1)) (rc - (k + 1))) (rest.drop (k + 1))) := Lib.hid (by have := HDP.out; rw [if_neg hci] at this; simp only [Option.map_some, add_lit_ne] at this; exact this)
                  clear HDP
                  refine wp_region_mk 8 (fun _ _ _ _ => False) (by kernel_rfl) (by kernel_rfl) ?_
                  simp only [List.take_succ_cons, List.take_zero, List.drop_succ_cons, List.drop_zero, Act.put]
                  iterate 3 (refine wpMk_quiet anti_post (by kernel_rfl) ?_; go_big_quiet_step (fail); refine wpQuiet_nil ?_)
                  refine wpMk_append anti_post _ _ 25 rfl 50 ji zi 22 272 rowT_def.sl ii0 ii1 ii2 ii3 ii4 (by decide) rfl _ k FT (by rfl) HSK.out (fun i j hi hj => frX_one _ _ (HEK.out i (by rw [HTL.out]; exact hi)) j hj) (by unfold maxLen; omega) (by omega) (by kernel_rfl) ?_
                  intro vb vd _
                  simp only [Act.put, List.setIfInBounds_toArray, List.set_cons_succ, List.set_cons_zero]
                  iterate 4 (refine wpMk_quiet anti_post (by kernel_rfl) ?_; go_big_quiet_step (fail); refine wpQuiet_nil ?_)
                  refine wpMk_nil ?_
                  rintro W8 hW8 ⟨-, hro⟩
                  have HU8 := Lib.hid hW8
                  have HX5 : Hid (OwnE N X1 W1 W7.heap.size W8 (.slice vb k vd) (rest.take k)) := Lib.hid ⟨FT, by rw [HTL.out]; exact hro, HEK.out⟩
                  clear hW8 hro
                  go_upto_region 25 with (at_builtin; (refine st_app (l := rest.take k) (n := k) (mm := n - (k + 1)) (base := W7.heap.size) rowT_def frX_one HTL.out HDL.out (H := HX5.out) (S := HSD.out.up (fun _ _ _ _ h _ => h) HU8.out) (by omega) (by decide) HU8.out.size ?_ ?_ ?_); (rfl); (rfl); intro ya2 yc2 w9 h1 h2 h3; have HX6 := Lib.hid h1; have HG6 := Lib.hid h2; have HU9 := Lib.hid (HU8.out.grown' h2 fun k e => HX5.out.base k e); clear h1 h2 h3)
                  have HL9 : Hid (Fr (fun b => (W1.heap.size ≤ b ∧ b < W1.heap.size + 3) ∨ (Value.slice ua (m + 1) uc).ownBlock = some b) (fun z => LsAt 22 272 (fun _ => frX N X1 W1) z (.slice ya2 (k + (n - (k + 1))) yc2) (rest.take k ++ rest.drop (k + 1))) w9) := Lib.hid (HX6.out.frLs (fun b e => by rcases e with e | e; have := HLO.out; omega; exact HQ7.out.lt0 b e) (by decide) (by rw [List.length_append, HTL.out, HDL.out]; omega))
                  have hx9 := HBN7.out.up HU9.out
                  have HBN9 := Lib.hid hx9
                  have n0 := hx9.at HE0.out (by rw [HCS.out.1]; decide)
                  have HCN9 := Lib.hid (HCN7.out.up HU9.out)
                  have HST9 := Lib.hid (HST7.out.up HU9.out)
                  have HB9 := Lib.hid (HB7.out.up HU9.out)
                  have HQ9 := Lib.hid (OwnL.up (fun _ _ _ _ h _ => h) HQ7.out HU9.out)
                  have HUU9 := Lib.hid (HU7.out.trans HU9.out)
                  have HEQ : Hid (k + (n - (k + 1)) = n - 1) := Lib.hid (by omega)
                  have hsz13 : y2.heap.size + 1 ≤ w9.heap.size := HBN9.out.lt
                  clear hx9 HCN7 HST7 HB7 HQ7 HU7 HX5 HX6 HU8 HU9 HG6 HBN7 HSD HSK HLS7 HTKL HLO HR7 HCP7
                  have HNXT : Hid (SumT T (rest.take k ++ rest.drop (k + 1)) (out ++ [d])) := Lib.hid (by
                    refine ⟨?_, ?_, ?_⟩
                    · have h1 := HSTEP.out HBB.out
                      have h2 := HSUM.out.1
                      rw [HN.out] at h2
                      rw [List.length_append, HTL.out, HDL.out, HEQ.out, ← h1, h2]
                    · have := HNM.out
                      have := HM.out
                      rw [List.length_append, List.length_append, HTL.out, HDL.out]
                      simp only [List.length_cons, List.length_nil]
                      omega
                    · intro e he
                      rcases List.mem_append.1 he with he | he
                      · exact HSUM.out.2.2 _ (List.mem_of_mem_take he)
                      · exact HSUM.out.2.2 _ (List.mem_of_mem_drop he))
                  have HRL : Hid ((rest.take k ++ rest.drop (k + 1)).length = k + (n - (k + 1))) := Lib.hid (by rw [List.length_append, HTL.out, HDL.out])
                  obtain ⟨r2, hr2⟩ : ∃ q, rest.take k ++ rest.drop (k + 1) = q := ⟨_, rfl⟩
                  rw [hr2] at HL9 HNXT HRL HCUT
                  clear hr2 HSTEP HTL HDL HEK
                  have HC2 : Hid (cntN r2 x = c - 1) := Lib.hid (by have h1 := HCUT.out x; rw [HNMX.out, if_pos rfl, HCC.out] at h1; omega)
                  have HCF : Hid (∀ s, (if s = x then c - 1 else cntN rest s) = cntN r2 s) := Lib.hid (fun s => by
                    have h1 := HCUT.out s
                    by_cases e : s = x
                    · rw [if_pos e, e, HC2.out]
                    · rw [if_neg e]; rw [HNMX.out, if_neg e] at h1; omega)
                  have HCE : Hid ((c : Int) - 1 = ((c - 1 : Nat) : Int)) := Lib.hid (by omega)
                  by_cases hc1 : c = 1
                  · have HC20 : Hid (((cntN r2 x : Nat) : Int) = 0) := Lib.hid (by rw [HC2.out, hc1]; rfl)
                    have HC1' := Lib.hid hc1
                    clear hc1
                    go_wp2_with (first
                      | (refine st_del HST10.out HSZX.out (by rfl) (by rfl) ?_; intro w11 h1 h2; have HST11 := Lib.hid h1; have HG11 := Lib.hid h2; clear h1 h2)
                      | (refine st_cnt HCN10.out HSZX.out (by rfl) (by rfl) ?_; rw [HC20.out])
                      | (refine st_cput HCN9.out HSZX.out (by have := HNC.out; unfold maxLen; omega) (c - 1) (by omega) (by rfl) (by rfl) (congrArg (Value.int .i64) HCE.out) ?_; intro w10 h1 h2; have HCN10 := Lib.hid (CntAt.congr h1 HCF.out); have HG10 := Lib.hid h2; have hx10 := HBN9.out.kept h2 (fun e => by have := Option.some.inj e; omega); have HBN10 := Lib.hid hx10; have n0 := hx10.at HE0.out (by rw [HCS.out.1]; decide); have HST10 := Lib.hid (HST9.out.kept h2 (fun e => by have := Option.some.inj e; omega)); clear h1 h2 hx10)
                      | (refine st_cnt HCN9.out HSZX.out (by rfl) (by rfl) ?_; rw [HCC.out]))
                    simp only [Act.put]
                    go_roundw
                    case rel =>
                      refine ⟨r2, out ++ [d], .slice ua (m + 1) uc, nc + 1, HNXT.out, (HUU9.out.grown' HG10.out (fun k e => by cases e; omega)).grown' HG11.out (fun k e => by cases e; omega), (HB9.out.kept HG10.out (fun e => by have := Option.some.inj e; omega)).kept HG11.out (fun e => by have := Option.some.inj e; omega), (HL9.out.by HG10.out (fun g e => .inl (by have := Option.some.inj e; omega))).by HG11.out (fun g e => .inl (by have := Option.some.inj e; omega)), own_keptL (own_keptL HQ9.out HG10.out (fun g hg e => by have := HQ9.out.base g hg; have := Option.some.inj e; omega)) HG11.out (fun g hg e => by have := HQ9.out.base g hg; have := Option.some.inj e; omega), HCN10.out.kept HG11.out (fun e => by have := Option.some.inj e; omega), by have := HNC.out; have := HRL.out; omega, HST11.out.congr fun s => ?_⟩
                      rw [List.mem_filter, ← cntN_pos, ← cntN_pos, ← HCF.out s]
                      by_cases e : s = x
                      · subst e; simp [HC1'.out]
                      · rw [if_neg e]; simp [e]
                    case measure => simp [lenOf']; omega
                  · have hce : (((c - 1 : Nat) : Int) == 0) = false := by simp; omega
                    go_wp2_with (first
                      | (refine st_cnt HCN10.out HSZX.out (by rfl) (by rfl) ?_; rw [HC2.out])
                      | (refine st_cput HCN9.out HSZX.out (by have := HNC.out; unfold maxLen; omega) (c - 1) (by omega) (by rfl) (by rfl) (congrArg (Value.int .i64) HCE.out) ?_; intro w10 h1 h2; have HCN10 := Lib.hid (CntAt.congr h1 HCF.out); have HG10 := Lib.hid h2; have hx10 := HBN9.out.kept h2 (fun e => by have := Option.some.inj e; omega); have HBN10 := Lib.hid hx10; have n0 := hx10.at HE0.out (by rw [HCS.out.1]; decide); have HST10 := Lib.hid (HST9.out.kept h2 (fun e => by have := Option.some.inj e; omega)); clear h1 h2 hx10)
                      | (refine st_cnt HCN9.out HSZX.out (by rfl) (by rfl) ?_; rw [HCC.out]))
                    go_roundw
                    case rel =>
                      refine ⟨r2, out ++ [d], .slice ua (m + 1) uc, nc + 1, HNXT.out, HUU9.out.grown' HG10.out (fun k e => by cases e; omega), HB9.out.kept HG10.out (fun e => by have := Option.some.inj e; omega), HL9.out.by HG10.out (fun g e => .inl (by have := Option.some.inj e; omega)), own_keptL HQ9.out HG10.out (fun g hg e => by have := HQ9.out.base g hg; have := Option.some.inj e; omega), HCN10.out, by have := HNC.out; have := HRL.out; omega, HST10.out.congr fun s => ?_⟩
                      rw [← cntN_pos, ← cntN_pos, ← HCF.out s]
                      by_cases e : s = x
                      · subst e; rw [if_pos rfl, HCC.out]; omega
                      · rw [if_neg e]
                    case measure => simp [lenOf']; omega
            · obtain rfl : n = k := by omega
              have HST : Hid (T = none) := Lib.hid (by
                obtain ⟨f, hf⟩ : ∃ f, n = f + 1 := ⟨n - 1, by omega⟩
                have h1 := HSUM.out.1
                rw [HN.out, hf] at h1
                rw [← h1]
                exact topoL_stop HN.out h0 (fun j hj => HNR.out j (by rw [HN.out]; exact hj) hj))
              have hr := HZ1.out.up (HU.out.trans HUY.out)
              have HPT := Lib.hid (run_put (P := Tryz.prog) (k := 5) prog_info hr (cs := #[.slice none 0 0, .slice none 0 0, .slice none 0 0, .slice none 0 0, .slice none 0 0]) rfl rfl (by simp [Value.oneCell']))
              have HRB := Lib.hid (hr.row #[.slice none 0 0, .slice none 0 0, .slice none 0 0, .slice none 0 0, .slice none 0 0])
              clear hr
              go_wp2_with (refine st_store HPT.out (by rfl) (by rfl) ?_)
              obtain ⟨f0, f1, f2, f3, f4⟩ := HRB.out.five
              have HUR := Lib.hid ((HW1.out.trans (HU.out.trans HUY.out)).grown' (setRow_by y (w.heap.size + 1) #[.slice none 0 0, .slice none 0 0, .slice none 0 0, .slice none 0 0, .slice none 0 0]) (fun k e => by cases e; exact Nat.le_succ _))
              refine bodyPost_ret (v := .tuple #[.agg #[.slice none 0 0, .slice none 0 0, .slice none 0 0, .slice none 0 0, .slice none 0 0], .int .i64 9]) (by simp [results, Tryz.results6, go_sem, f0, f1, f2, f3, f4]) rfl ?_
              have HTF : Hid (topoF ⟨sizes, cons, pars, defs, outs⟩ = (zeroP, 9)) := Lib.hid (topoF_none (by show topoL defs.length defs [] = none; rw [HT.out, HST.out]))
              rw [HTF.out]
              exact ⟨_, rfl, HUR.out, zeroP_at N _⟩
        · obtain rfl : n = 0 := by omega
          have HSN : Hid (T = some out) := Lib.hid (by
            have h1 := HSUM.out.1
            have h2 : rest = [] := List.eq_nil_of_length_eq_zero HN.out
            rw [h2, topoL_nil] at h1
            exact h1.symm)
          obtain ⟨e0, e1, e2, e3, e4⟩ := HB.out.five
          have es := HB.out.lt
          have hr := HZ1.out.up HU.out
          have HPT := Lib.hid (run_put (P := Tryz.prog) (k := 5) prog_info hr (cs := #[.slice ka sn kc, .slice la cn lc, .slice ma pn mc, .slice va m vc, .slice ya on_ yc]) rfl rfl (by simp [Value.oneCell']))
          have HRB := Lib.hid (hr.row #[.slice ka sn kc, .slice la cn lc, .slice ma pn mc, .slice va m vc, .slice ya on_ yc])
          have hkr := setRow_by wq (w.heap.size + 1) #[.slice ka sn kc, .slice la cn lc, .slice ma pn mc, .slice va m vc, .slice ya on_ yc]
          have hk' : Kp (fun b => b = w.heap.size + 1) wq (wq.setRow (w.heap.size + 1) #[.slice ka sn kc, .slice la cn lc, .slice ma pn mc, .slice va m vc, .slice ya on_ yc]) := Kp.of_by hkr (fun g e => (Option.some.inj e).symm)
          have HUR := Lib.hid ((HW1.out.trans HU.out).grown' hkr (fun k e => by cases e; exact Nat.le_succ _))
          have HPG : Hid (ProgAt N (wq.setRow (w.heap.size + 1) #[.slice ka sn kc, .slice la cn lc, .slice ma pn mc, .slice va m vc, .slice ya on_ yc]) (.agg #[.slice ka sn kc, .slice la cn lc, .slice ma pn mc, .slice va m vc, .slice ya on_ yc]) ⟨sizes, cons, pars, out, outs⟩) := Lib.hid (by
            have h1 := own_keptL HQ.out hkr (fun g hg e => by cases e; have := HQ.out.base _ hg; omega)
            have hX : ∀ b, b < w.heap.size + 1 + 1 → b < W1.heap.size := fun b hb => by omega
            have hd : LsAt 22 272 (defR N) (wq.setRow (w.heap.size + 1) #[.slice ka sn kc, .slice la cn lc, .slice ma pn mc, .slice va m vc, .slice ya on_ yc]) (.slice va m vc) out := by
              have h2 : LsAt 22 272 (fun _ => frX N X1 W1) _ (.slice va m vc) out := OwnL.ls h1 (by decide) (by have := HNM.out; have := HM.out; omega)
              exact h2.turn fun f e h => h _ ((Kp.of_up (X := X1) HU.out).trans hk' (fun _ _ h => h) (fun b _ e => HX1.out b (by omega) (by omega)))
            exact ProgAt.mk ((HF1.out.up HU.out).kp hk' (fun b _ e => HX1.out b (by omega) (by omega))).here ((HF2.out.up HU.out).kp hk' (fun b _ e => HX1.out b (by omega) (by omega))).here ((HF3.out.up HU.out).kp hk' (fun b _ e => HX1.out b (by omega) (by omega))).here hd ((HF5.out.up HU.out).kp hk' (fun b _ e => HX1.out b (by omega) (by omega))).here)
          clear hr hkr hk'
          go_wp2_with (refine st_store HPT.out (by rfl) (by rfl) ?_)
          obtain ⟨f0, f1, f2, f3, f4⟩ := HRB.out.five
          refine bodyPost_ret (v := .tuple #[.agg #[.slice ka sn kc, .slice la cn lc, .slice ma pn mc, .slice va m vc, .slice ya on_ yc], .int .i64 0]) (by simp [results, Tryz.results6, go_sem, f0, f1, f2, f3, f4]) rfl ?_
          have HTF : Hid (topoF ⟨sizes, cons, pars, defs, outs⟩ = (⟨sizes, cons, pars, out, outs⟩, 0)) := Lib.hid (topoF_some (p := ⟨sizes, cons, pars, defs, outs⟩) (by show topoL defs.length defs [] = some out; rw [HT.out, HSN.out]))
          rw [HTF.out]
          exact ⟨_, rfl, HUR.out, HPG.out⟩
end Go.Proofs.YtpccaifhcmcegaaGreat
end
