/-
  Joined by a program: RgZ, DgLv.
-/
import Derived.OrdersHeld
import Derived.Test.YtpccaifhcmcegaaGreatHc
import Derived.Test.YtpccaifhcmcegaaGreatHm

section
namespace Go.Proofs.YtpccaifhcmcegaaGreat
set_option linter.unusedVariables false
section
variable {P : Program} {ops : Array Oper} {Q : Exit → Act → World → Prop} {md : Region.Mode} {S : World → Prop} {z : Nat}

/-- Every order from here on; S behind every operation but z. -/
def AnyZ (P : Program) (md : Region.Mode) (ops : Array Oper) (Q : Exit → Act → World → Prop) (S : World → Prop) (z : Nat) : Nat → Array Bool → Act → World → Prop
  | 0, l, a, w => Region.ready md ops l = [] ∧ Q .normal a w
  | n + 1, l, a, w => (Region.ready md ops l = [] → Q .normal a w) ∧ ∀ i ∈ Region.ready md ops l, wpOp P ops Q i (fun a' w' => (i ≠ z → S w') ∧ AnyZ P md ops Q S z n (l.setIfInBounds i true) a' w') a w
theorem any_of_z : ∀ (n : Nat) (l : Array Bool) (a : Act) (w : World), AnyZ P md ops Q S z n l a w → wpAny P md ops Q n l a w
  | 0, _, _, _, h => h
  | n + 1, _, _, _, h => ⟨h.1, fun i hi => wpOp_mono (fun a' w' h' => any_of_z n _ a' w' h'.2) (h.2 i hi)⟩
/-- z waits for operation i. -/
def waitsB (md : Region.Mode) (ops : Array Oper) (z i : Nat) : Bool := decide (i ≠ z) && match ops[z]? with
  | some o => o.after.any fun e => Region.binds md e && e.on == i
  | none => false
theorem waits_spec {i : Nat} (h : waitsB md ops z i = true) : i ≠ z ∧ ∀ oz, ops[z]? = some oz → ∃ e ∈ oz.after, Region.binds md e = true ∧ e.on = i := by
  unfold waitsB at h
  rw [Bool.and_eq_true, decide_eq_true_eq] at h
  refine ⟨h.1, fun oz ho => ?_⟩
  have h2 := h.2
  rw [ho] at h2
  simp only [Array.any_eq_true', Bool.and_eq_true, beq_iff_eq] at h2
  obtain ⟨e, he, h3, h4⟩ := h2
  exact ⟨e, he, h3, h4⟩
theorem anyZ_first {i : Nat} {oi : Oper} {v : Value} (hi : ops[i]? = some oi) (hz : waitsB md ops z i = true) (hsel : ∀ (j : Nat) (o : Oper) cs b, ops[j]? = some o → o.op ≠ .select cs b)
    (hQ : ∀ c a w, Q (.panic c) (a.put oi.dst v) w → Q (.panic c) a w) (n : Nat) : ∀ (l : Array Bool) (a : Act) (w : World),
      (∀ j oj, ops[j]? = some oj → j ≠ i → l.getD j true = false → (∀ e ∈ oj.after, Region.binds md e = true → e.on ≠ i) → oi.apart ops oj = true) →
      i ∈ Region.ready md ops l → YieldsIf P ops S oi v a → S w → AnyZ P md ops Q S z n (l.setIfInBounds i true) (a.put oi.dst v) w → AnyZ P md ops Q S z (n + 1) l a w := by
  obtain ⟨hiz, hwt⟩ := waits_spec hz
  induction n with
  | zero =>
    intro l a w _ hr hy hS H
    refine ⟨fun h => absurd hr (by rw [h]; simp), fun j hj => ?_⟩
    by_cases e : j = i
    · rw [e]; exact hy.wpOp hi hS ⟨fun _ => hS, H⟩
    · exact absurd (ready_mono hj e) (by rw [H.1]; simp)
  | succ n ih =>
    intro l a w hfree hr hy hS H
    refine ⟨fun h => absurd hr (by rw [h]; simp), fun j hj => ?_⟩
    by_cases e : j = i
    · rw [e]; exact hy.wpOp hi hS ⟨fun _ => hS, H⟩
    · obtain ⟨hun, oj, hoj, hall⟩ := mem_ready.1 hj
      have hno : ∀ x ∈ oj.after, Region.binds md x = true → x.on ≠ i := fun x hx hb hxi => by
        have h1 := hall x hx hb
        have h0 := (mem_ready.1 hr).1
        rw [hxi] at h1
        rcases Nat.lt_or_ge i l.size with h' | h'
        · simp [h'] at h0 h1; rw [h0] at h1; cases h1
        · simp [Array.getElem?_eq_none h'] at h1
      have hjz : j ≠ z := fun hjz => by
        subst hjz
        obtain ⟨x, hx, hb, hxi⟩ := hwt oj hoj
        exact hno x hx hb hxi
      have h2 := wpOp_putIf hoj (hfree j oj hoj e hun hno) (fun cs b => hsel i oi cs b hi) (fun cs b => hsel j oj cs b hoj) hQ hy (H.2 j (ready_mono hj e))
      refine wpOp_mono (fun a' w' h3 => ?_) h2
      obtain ⟨g1, g2, g3⟩ := h3
      refine ⟨fun _ => g2 hjz, ih _ a' w' (fun k ok hk hki hku hkn => hfree k ok hk hki ?_ hkn) (ready_mono hr (Ne.symm e)) g1 (g2 hjz) ?_⟩
      · by_cases hjk : j = k
        · rw [← hjk]; exact hun
        · rwa [getD_set_ne true hjk] at hku
      · rw [Array.setIfInBounds_comm _ _ e]; exact g3
theorem anyZ_take {i : Nat} {oi : Oper} {v : Value} {n : Nat} {l : Array Bool} {a : Act} {w : World} (hi : ops[i]? = some oi) (hz : waitsB md ops z i = true)
    (hs : Region.noSelect ops = true) (hf : Region.free md ops l i = true) (hr : (Region.ready md ops l).contains i = true)
    (hQ : ∀ c a w, Q (.panic c) (a.put oi.dst v) w → Q (.panic c) a w) (hy : YieldsIf P ops S oi v a) (hS : S w)
    (h : AnyZ P md ops Q S z n (l.setIfInBounds i true) (a.put oi.dst v) w) : AnyZ P md ops Q S z (n + 1) l a w :=
  anyZ_first hi hz (Region.noSelect_spec hs) hQ n l a w (Region.free_spec hi hf) (by simpa using hr) hy hS h
/-- One operation alone may come up. -/
theorem anyZ_one {i : Nat} {n : Nat} {l : Array Bool} {a : Act} {w : World} (hr : Region.ready md ops l = [i])
    (h : wpOp P ops Q i (fun a' w' => (i ≠ z → S w') ∧ AnyZ P md ops Q S z n (l.setIfInBounds i true) a' w') a w) : AnyZ P md ops Q S z (n + 1) l a w :=
  ⟨fun h0 => absurd (hr ▸ h0) (by simp), fun j hj => by
    rw [hr, List.mem_singleton] at hj
    rw [hj]; exact h⟩
theorem anyZ_val {i : Nat} {oi : Oper} {v : Value} {n : Nat} {l : Array Bool} {a : Act} {w w' : World} (hi : ops[i]? = some oi) (hr : Region.ready md ops l = [i]) (hw : Region.wanted oi (yielded ops a.tmps) = true)
    (hrun : (execOp a.eval oi).run P w = .ok (.value v) w') (hS : i ≠ z → S w') (h : AnyZ P md ops Q S z n (l.setIfInBounds i true) (a.put oi.dst v) w') : AnyZ P md ops Q S z (n + 1) l a w :=
  anyZ_one hr (by
    unfold wpOp
    simp only [hi, hw, if_true, Oper.wp, hrun, Oper.upon]
    exact .inl ⟨hS, h⟩)
theorem anyZ_skip {i : Nat} {oi : Oper} {n : Nat} {l : Array Bool} {a : Act} {w w' : World} (hi : ops[i]? = some oi) (hr : Region.ready md ops l = [i]) (hw : Region.wanted oi (yielded ops a.tmps) = true)
    (hrun : (execOp a.eval oi).run P w = .ok .skip w') (hS : i ≠ z → S w') (h : AnyZ P md ops Q S z n (l.setIfInBounds i true) (a.put oi.dst undef) w') : AnyZ P md ops Q S z (n + 1) l a w :=
  anyZ_one hr (by
    unfold wpOp
    simp only [hi, hw, if_true, Oper.wp, hrun, Oper.upon]
    exact .inl ⟨hS, h⟩)
theorem anyZ_done {l : Array Bool} {a : Act} {w : World} (hr : Region.ready md ops l = []) (h : Q .normal a w) : AnyZ P md ops Q S z 0 l a w := ⟨hr, h⟩
theorem wp_region_z {id : Nat} {a : Act} {w : World} (S : World → Prop) (z : Nat) (hm : P.follows .mixedOrders = true) (h : AnyZ P .any ops Q S z ops.size (Array.replicate ops.size false) a { w with drawn := w.drawn + 1 }) : (Code.region id ops true).wp P Q a w :=
  wp_region_any hm (any_of_z _ _ _ _ h)
end
end Go.Proofs.YtpccaifhcmcegaaGreat
end

section
namespace Go.Proofs.YtpccaifhcmcegaaGreat
set_option linter.unusedSimpArgs false
open Go.ChangeShapes Go.WideShapes Go.ChangeAt Go.RowKit
set_option linter.unusedVariables false
set_option maxRecDepth 100000

theorem BoxC.keptV {base : Nat} {w w' : World} {v : Value} {l : List Value} {g : Nat} {t : TypeId} {cs : Array Value} (h : BoxC w g t cs) (ho : OwnV base w v l) (hg : w.grownBy w' v.ownBlock) (hne : t ≠ 22) : BoxC w' g t cs :=
  h.kept hg fun e => by
    obtain ⟨cs', h'⟩ := ho.blk g e.symm
    have h2 : w.heap[g]? = _ := h
    rw [h2] at h'
    cases h'
    exact hne rfl
theorem BoxC.keptS {base : Nat} {w w' : World} {v : Value} {l : List ByteArray} {g : Nat} {t : TypeId} {cs : Array Value} (h : BoxC w g t cs) (ho : OwnS base w v l) (hg : w.grownBy w' v.ownBlock) (hne : t ≠ 9) : BoxC w' g t cs :=
  h.kept hg fun e => by
    obtain ⟨cs', h'⟩ := ho.blk g e.symm
    have h2 : w.heap[g]? = _ := h
    rw [h2] at h'
    cases h'
    exact hne rfl
theorem wpMk_rowT {P : Program} {ops : Array Oper} {w : World} {M : FuncId → Array Value → Value → World → Prop} {L : Act → (World → Prop) → Prop} (hL : AntiS (w := w) L) {o : Oper} {rest : List Oper} {a : Act} {S : World → Prop} (cs : Array Value) (t : TypeId) (m : Nat)
    (hw : Region.wanted o (yielded ops a.tmps) = true) (hrun : ∀ x, (execOp a.eval o).run P x = .ok (.value (.slice (some ⟨x.heap.size, 0, none⟩) m m)) (x.alloc (.cells cs t (0, 0))))
    (h : ∀ b, w.heap.size ≤ b → wpMk P ops M w L rest (a.put o.dst (.slice (some ⟨b, 0, none⟩) m m)) (fun y => S y ∧ y.heap[b]? = some (.cells cs t (0, 0)))) : wpMk P ops M w L (o :: rest) a S := by
  refine wpMk_any hL (fun v y => ∃ b, v = .slice (some ⟨b, 0, none⟩) m m ∧ w.heap.size ≤ b ∧ y.heap[b]? = some (.cells cs t (0, 0))) (fun v x y ⟨b, h1, h2, h3⟩ hu => ⟨b, h1, h2, by rw [hu.heap b (Array.getElem?_eq_some_iff.1 h3).1]; exact h3⟩) hw
    (fun x hx => ⟨_, _, hrun x, (Up.refl x).alloc _, x.heap.size, rfl, hx.size, heap_alloc_new x _⟩) (fun v ⟨y, _, b, h1, h2, _⟩ => ?_)
  subst h1
  refine wpMk_anti hL _ _ _ _ (fun x _ ⟨h3, b', h4, h5, h6⟩ => ⟨h3, ?_⟩) (h b h2)
  cases h4
  exact h6
theorem app_str {B dst : Nat} {w : World} {a : Option Addr} {c m : Nat} {l : List ByteArray} {s : ByteArray} {u : Value} (H : OwnS B w (.slice a m c) l) (hn : l.length = m) (S : LsAt 1 16 (fun _ => strQ) w u [s]) (hb : (m + 1) * 16 ≤ 140737488355328) (hbase : B ≤ w.heap.size) :
    ∃ (va : Option Addr) (vc : Nat) (w' : World), (Builtin.append_ #[22, 22] dst #[.slice a m c, u]).run Tryz.prog w = .ok (.slice va (m + 1) vc) w' ∧ OwnS B w' (.slice va (m + 1) vc) (l ++ [s]) ∧ w.grownBy w' (Value.slice a m c).ownBlock ∧ ((Value.slice va (m + 1) vc).ownBlock = (Value.slice a m c).ownBlock ∨ (Value.slice va (m + 1) vc).ownBlock = some w.heap.size) := by
  obtain ⟨i, z, i0, i1, i2, i3, i4⟩ := rowT_str.info
  subst hn
  obtain ⟨Fv, hF, hR⟩ := H
  obtain ⟨_, _, G, hG, hS⟩ := S
  obtain ⟨v', w', hrun, g1, g2, g3, g4⟩ := run_append_sl (P := Tryz.prog) w B 22 dst 9 i z 1 16 rowT_str.sl i0 i1 i2 i3 i4 rowT_str.pos _ l.length _ hF u 1 G hG (fun i j hi hj => strQ_one _ _ (hS i hi) j hj) (by unfold maxLen; omega) hb hbase
  obtain ⟨va, vc, rfl⟩ := own_slice g1
  exact ⟨va, vc, w', hrun, OwnL.app rowT_str.pos g1 hR hS, g2, g3⟩
theorem exec_app {P : Program} {a : Act} {w w' : World} {vx vy v' : Value} {x y : Operand} {T ty : TypeId} {dst : Option Nat} {pos : String} {af : Array Edge} (hx : a.eval x = vx) (hy : a.eval y = vy) (hrun : (Builtin.append_ #[T, T] ty #[vx, vy]).run P w = .ok v' w') :
    (execOp a.eval { dst := dst, op := .call { callee := .builtin .append, args := #[x, y], argTypes := #[T, T] }, type := ty, pos := pos, after := af, guard := none }).run P w = .ok (.value v') w' := by
  simp [execOp, resolve, invoke, builtin, hx, hy, hrun, Result.andThen]
theorem int_all : ∃ i, Tryz.prog.info? 3 = some i ∧ i.zero = some (.int .i64 0) ∧ i.size = 1 ∧ i.bytes = 8 := by
  have h := int_info
  cases e : Tryz.prog.info? 3 with
  | none => rw [e] at h; cases h
  | some i =>
    rw [e] at h
    simp only [Option.map_some, Option.some.injEq, Prod.mk.injEq] at h
    exact ⟨i, rfl, h.1, h.2.1, h.2.2⟩
theorem lq_i {A : LvL} {i n q : Nat} (h : A.length = i) : (A.map (·.2) ++ q :: List.replicate n 0)[i]? = some q := by
  rw [List.getElem?_append_right (by rw [List.length_map, h]; exact Nat.le_refl _), List.length_map, h, Nat.sub_self]; rfl
theorem lq_k {A : LvL} {i n q k : Nat} (h : A.length = i) (hk : k < i) : (A.map (·.2) ++ q :: List.replicate n 0)[k]? = some (A[k]'(by omega)).2 := by
  rw [List.getElem?_append_left (by rw [List.length_map, h]; exact hk), List.getElem?_map, List.getElem?_eq_getElem (by omega)]; rfl
theorem lq_set {A : LvL} {i n q x : Nat} (h : A.length = i) : (A.map (·.2) ++ q :: List.replicate n 0).set i x = A.map (·.2) ++ x :: List.replicate n 0 := by
  rw [List.set_append_right (h := by rw [List.length_map, h]; exact Nat.le_refl _), List.length_map, h, Nat.sub_self]; rfl
theorem lq_len {A : LvL} {i dn q : Nat} (h : A.length = i) (hi : i < dn) : (A.map (·.2) ++ q :: List.replicate (dn - (i + 1)) 0).length = dn := by
  rw [List.length_append, List.length_map, List.length_cons, List.length_replicate, h]; omega
theorem lq_rep {A : LvL} {i dn : Nat} (hi : i < dn) : A.map (·.2) ++ List.replicate (dn - i) 0 = A.map (·.2) ++ 0 :: List.replicate (dn - (i + 1)) 0 := by
  rw [show dn - i = (dn - (i + 1)) + 1 by omega, List.replicate_succ]
theorem lq_next {A : LvL} {i dn q : Nat} {x : ByteArray} : A.map (·.2) ++ q :: List.replicate (dn - (i + 1)) 0 = (A ++ [(x, q)]).map (·.2) ++ List.replicate (dn - (i + 1)) 0 := by
  rw [List.map_append, List.append_assoc]; rfl
theorem rowP_snoc (A : LvL) (x : ByteArray) (q j : Nat) : rowP (A ++ [(x, q)]) j = if j = q then rowP A j ++ [x] else rowP A j := by
  unfold rowP
  rw [List.filter_append, List.map_append]
  by_cases e : j = q
  · subst e
    rw [if_pos rfl, List.filter_cons_of_pos (by unfold lvB; exact decide_eq_true rfl)]; rfl
  · rw [if_neg e, List.filter_cons_of_neg (by unfold lvB; simpa using fun h => e h.symm)]; simp

set_option maxHeartbeats 32000000 in
theorem p_Levels (N : Nat) (p : Pg) (v : Value) (w : World) (hv : ProgAt N w v p) (hb : ∀ d ∈ p.defs, tot d.body ≤ 1500) (hsm : p.defs.length ≤ 40) :
    Calls Tryz.prog 13 #[v] w fun e w' => ∃ u, e = .returned u ∧ Up w w' ∧ LsAt 1 24 rowR w' u (lvF p.defs) := by
  obtain ⟨sa, sc, ca, cc, pa, pc, da, dc, oa, oc, rfl, hs, hcn, hp, hd, ho⟩ := hv.open
  obtain ⟨sizes, cons, pars, defs, outs⟩ := p
  dsimp only at *
  obtain ⟨sn, hsn⟩ : ∃ q, sizes.length = q := ⟨_, rfl⟩
  obtain ⟨cn, hcnn⟩ : ∃ q, cons.length = q := ⟨_, rfl⟩
  obtain ⟨pn, hpn⟩ : ∃ q, pars.length = q := ⟨_, rfl⟩
  obtain ⟨dn, hdn⟩ : ∃ q, defs.length = q := ⟨_, rfl⟩
  obtain ⟨on_, hon⟩ : ∃ q, outs.length = q := ⟨_, rfl⟩
  rw [hsn] at hs hv ⊢
  rw [hcnn] at hcn hv ⊢
  rw [hpn] at hp hv ⊢
  rw [hdn] at hd hv ⊢
  rw [hon] at ho hv ⊢
  have hdI : (dn : Int) ≤ 140737488351232 := by have := hd.bytes; rw [hdn] at this; omega
  have hpI : (pn : Int) ≤ 140737488351232 := by have := hp.bytes; rw [hpn] at this; omega
  have HV := Lib.hid hv
  have HS := Lib.hid hs
  have HC := Lib.hid hcn
  have HP := Lib.hid hp
  have HD := Lib.hid hd
  have HO := Lib.hid ho
  have HPN := Lib.hid hpn
  have HDN := Lib.hid hdn
  have HON := Lib.hid hon
  clear hs hcn hp hd ho hsn hcnn hpn hdn hon hv
  have HDC : Hid (dn ≤ dc) := Lib.hid (by
    obtain ⟨a', c', e, hh⟩ := HD.out.shape
    rw [HDN.out] at hh
    cases e
    exact hh)
  have HSM : Hid (dn ≤ 40) := Lib.hid (by rw [← HDN.out]; exact hsm)
  have HBT := Lib.hid hb
  have hdn40 : (dn : Int) ≤ 40 := by have := HSM.out; omega
  clear hb hsm
  have HU0 : Hid (Up w (w.alloc (.cells #[.slice sa sn sc, .slice ca cn cc, .slice pa pn pc, .slice da dn dc, .slice oa on_ oc] 27))) := Lib.hid ((Up.refl w).alloc _)
  have HB0 := Lib.hid (BoxC.new w 27 #[.slice sa sn sc, .slice ca cn cc, .slice pa pn pc, .slice da dn dc, .slice oa on_ oc])
  obtain ⟨z, i0, i1, i2, i3⟩ := int_all
  obtain ⟨w1, hmk, hown, hgr⟩ := run_makeSlice_full (P := Tryz.prog) (w := w.alloc (.cells #[.slice sa sn sc, .slice ca cn cc, .slice pa pn pc, .slice da dn dc, .slice oa on_ oc] 27)) (w.heap.size + 1) 82 3 z (.int .i64 0) 1 rowT_int.sl i0 i1 i2 .i64 .i64 dn (by omega) (by rw [i3]; omega) (by unfold maxLen; omega) (by simp only [World.size_alloc]; exact Nat.le_refl _)
  rw [World.size_alloc] at hmk hown
  have HI0 := Lib.hid (OwnI.made hown)
  have HU1 := Lib.hid (HU0.out.grown' hgr (fun k e => by cases e))
  have HB1 := Lib.hid (HB0.out.kept hgr (by simp))
  have bx1 : w1.cell? ⟨w.heap.size, 3, none⟩ = some (.slice da dn dc) := cell_of_row _ _ _ _ _ _ HB1.out
  clear hown hgr i0 i1 i2 i3
  have hmm := @run_makeMap Tryz.prog
  go_enter Tryz.func13, Tryz.ntmps13
  go_wp2
  go_loopw [4, 16] (fun ov iv wr => ∃ (i : Nat) (vs : List Value), iv = .int .i64 i ∧ i ≤ dn ∧ Up w wr ∧ BoxC wr w.heap.size 27 #[.slice sa sn sc, .slice ca cn cc, .slice pa pn pc, .slice da dn dc, .slice oa on_ oc] ∧ OwnI (w.heap.size + 1) wr (.slice (some ⟨w.heap.size + 1, 0, none⟩) dn dn) ((levP (defs.take i)).map (·.2) ++ List.replicate (dn - i) 0) ∧ OwnV (w.heap.size + 1) wr ov vs ∧ vs.length = mxA (levP (defs.take i)) ∧ RowsA (w.heap.size + 1) wr vs (rowP (levP (defs.take i)))) (fun _ iv _ => dn - (intOf iv).toNat)
  case atStart => exact ⟨0, [], rfl, Nat.zero_le _, HU1.out, HB1.out, HI0.out, OwnL.nil, rfl, RowsA.nil _ _ _⟩
  case round =>
    rename World => wr
    obtain ⟨i, vs, rfl, hi, hup, hbx, hlv, hov, hvl, hra⟩ := hrel
    have HU := Lib.hid hup
    have HB := Lib.hid hbx
    have HLP : Hid ((levP (defs.take i)).length = i) := Lib.hid (by rw [levP_len, List.length_take, HDN.out]; omega)
    have HMX : Hid (mxA (levP (defs.take i)) ≤ i) := Lib.hid (by have h := mxA_len (defs.take i); rw [List.length_take] at h; omega)
    have HBIG := Lib.hid (rowP_big (defs.take i))
    have HAM : Hid (∀ x ∈ levP (defs.take i), x.2 < 40) := Lib.hid (by
      intro x hx
      have h1 := levP_lt hx
      rw [List.length_take, HDN.out] at h1
      have := HSM.out
      omega)
    have bx : wr.cell? ⟨w.heap.size, 3, none⟩ = some (.slice da dn dc) := cell_of_row _ _ _ _ _ _ hbx
    have bs : w.heap.size < wr.heap.size := hbx.lt
    by_cases hlt : i < dn
    · have hltI : (i : Int) < dn := by omega
      have hi1 : i < defs.length := by rw [HDN.out]; exact hlt
      obtain ⟨g, o, cs, rfl, hg, hcs, hld, h0, hsz, -⟩ := HD.out.def i hi1
      have HTK0 := Lib.hid (levP_take HDN.out hlt)
      have HTB := Lib.hid (HBT.out _ (List.getElem_mem hi1))
      have HLM : Hid (∀ k, k < i → (levP (defs.take i))[k]?.map (·.1) = defs[k]?.map (·.nm)) := Lib.hid fun k hk => by
        have h2 : ((levP (defs.take i)).map (·.1))[k]? = ((defs.take i).map (·.nm))[k]? := by rw [levP_names]
        rw [List.getElem?_map, List.getElem?_map, List.getElem?_take_of_lt hk] at h2
        exact h2
      obtain ⟨d, hx⟩ : ∃ d, defs[i] = d := ⟨_, rfl⟩
      have HTK : Hid (levP (defs.take (i + 1)) = levP (defs.take i) ++ [(d.nm, levA (levP (defs.take i)) (readsF d.body))]) := Lib.hid (by rw [← hx]; exact HTK0.out)
      rw [hx] at hcs hsz h0 HTB
      obtain ⟨A, hA⟩ : ∃ A, levP (defs.take i) = A := ⟨_, rfl⟩
      rw [lq_rep hlt] at hlv
      rw [hA] at HTK HLP HMX HBIG HAM HLM hlv hvl hra
      have HCS := Lib.hid hcs
      have HLD := Lib.hid (hld wr HU.out)
      have HSZ := Lib.hid hsz
      have HCS0 := Lib.hid h0
      have hg' := Nat.lt_of_lt_of_le hg HU.out.size
      have HG := Lib.hid hg
      have HFL := Lib.hid (run_fill (P := Tryz.prog) (k := 22) def_i wr (Z := #[.string ByteArray.empty, .int .i64 0, .int .i64 0, .int .i64 0, .int .i64 0, .int .i64 0, .slice none 0 0, .slice none 0 0, .int .i64 0, .int .i64 0, .string ByteArray.empty, .int .i64 0, .int .i64 0, .int .i64 0, .int .i64 0, .int .i64 0, .int .i64 0, .int .i64 0, .int .i64 0, .slice none 0 0, .slice none 0 0, .slice none 0 0]) (cs := cs) rfl hcs.1 (hcs.one (defR_k N)))
      have HBD := Lib.hid (BoxC.new wr 50 cs)
      have hdcI : (i : Int) ≤ dc := by have := HDC.out; omega
      obtain ⟨oa2, oc2, rfl⟩ := hov.shape
      have HA := Lib.hid hA
      have HUW := Lib.hid (hup.alloc (.cells cs 50))
      have HBW := Lib.hid (hbx.up ((Up.refl wr).alloc (.cells cs 50)))
      have bxw : (wr.alloc (.cells cs 50)).cell? ⟨w.heap.size, 3, none⟩ = some (.slice (some ⟨g, o, none⟩) dn dc) := cell_of_row _ _ _ _ _ _ HBW.out
      have HIW := Lib.hid (OwnL.up (fun _ _ _ _ h _ => h) hlv ((Up.refl wr).alloc (.cells cs 50)))
      have HOV := Lib.hid (OwnL.up (fun _ _ _ _ h _ => h) hov ((Up.refl wr).alloc (.cells cs 50)))
      have HRA := Lib.hid (hra.up ((Up.refl wr).alloc (.cells cs 50)))
      have HVL := Lib.hid hvl
      have HSZW : Hid (w.heap.size + 1 < wr.heap.size) := Lib.hid (by obtain ⟨cur, hb⟩ := OwnI.box hlv (lq_len HLP.out hlt); exact hb.lt)
      obtain ⟨R, hR⟩ : ∃ R, readsF d.body = R := ⟨_, rfl⟩
      have HRE := Lib.hid hR
      rw [hR] at HTK
      have hcd : i ≤ dc := by have := HDC.out; omega
      have HCD := Lib.hid hcd
      clear hx hld hcs hg hA hi1 h0 hsz hup hbx hlv hov hvl hra HU1 HB1 HI0 HTK0 hR bx1
      go_upto_region 7 with (first
        | (refine st_load HLD.out (by rfl) ?_)
        | (refine st_store HFL.out (by rfl) (by rfl) ?_))
      obtain ⟨W, hW⟩ : ∃ x, wr.alloc (.cells cs 50) = x := ⟨_, rfl⟩
      have HWS : Hid (W.heap.size = wr.heap.size + 1) := Lib.hid (by rw [← hW, World.size_alloc])
      rw [hW] at HUW HBW HIW HOV HRA HBD bxw ⊢
      clear hW HFL bx bs hg' HU HB HLD
      have HI := Lib.hid hi
      have HLTI := Lib.hid hlt
      clear hi hlt
      go_loopw [26] (fun kv y => ∃ (k q : Nat), kv = .int .i64 k ∧ k ≤ i ∧ q ≤ 40 ∧ W.grownBy y (some (w.heap.size + 1)) ∧ OwnI (w.heap.size + 1) y (.slice (some ⟨w.heap.size + 1, 0, none⟩) dn dn) (A.map (·.2) ++ q :: List.replicate (dn - (i + 1)) 0) ∧ (A.take k).foldl (levS R) 0 = q) (fun kv _ => i - (intOf kv).toNat)
      case atStart => exact ⟨0, 0, rfl, Nat.zero_le _, by decide, by_refl _ _, HIW.out, rfl⟩
      case round =>
        rename World => y
        obtain ⟨k, q, rfl, hk, hq, hgb, hlv, hP⟩ := hrel
        have HP := Lib.hid hP
        have HGB := Lib.hid hgb
        have HIL := Lib.hid hlv
        have hqI : (q : Int) ≤ 40 := by omega
        have hbdy := HBD.out.kept hgb (fun e => by have := Option.some.inj e; have := HSZW.out; omega)
        have HBDY := Lib.hid hbdy
        have HUY := Lib.hid (HUW.out.grown' hgb (fun k e => by cases e; exact Nat.le_succ _))
        have hbps := HBW.out.kept hgb (fun e => by have := Option.some.inj e; omega)
        have HBPY := Lib.hid hbps
        clear hP hgb hlv hbdy hbps bxw
        by_cases hlk : k < i
        · have hlkI : (k : Int) < i := by omega
          have hk1 : k < defs.length := by rw [HDN.out]; have := HLTI.out; omega
          obtain ⟨g2, o2, ds, e2, hgd, hds, hld, h0, hsz, -⟩ := HD.out.def k hk1
          obtain ⟨rfl, rfl⟩ : g = g2 ∧ o = o2 := by simpa using e2
          have hkA : k < A.length := by rw [HLP.out]; exact hlk
          have HNM : Hid (A[k].1 = defs[k].nm) := Lib.hid (by have h := HLM.out k hlk; rw [List.getElem?_eq_getElem hkA, List.getElem?_eq_getElem hk1] at h; simpa using h)
          have HT2 := Lib.hid (levS_take (R := R) HLP.out hlk)
          rw [HP.out] at HT2
          have HLV := Lib.hid (HAM.out _ (List.getElem_mem hkA))
          have HCK := Lib.hid (lq_k (q := q) (n := dn - (i + 1)) HLP.out hlk)
          obtain ⟨x, hx⟩ : ∃ x, A[k]'hkA = x := ⟨_, rfl⟩
          have HT2 : Hid ((A.take (k + 1)).foldl (levS R) 0 = levS R q x) := Lib.hid (by rw [← hx]; exact HT2.out)
          have HCK : Hid ((A.map (·.2) ++ q :: List.replicate (dn - (i + 1)) 0)[k]? = some x.2) := Lib.hid (by rw [← hx]; exact HCK.out)
          rw [hx] at HNM HLV
          obtain ⟨xn, xl⟩ := x
          dsimp only at HNM HLV HCK
          rw [← HNM.out] at h0 hsz
          have hxl : (xl : Int) ≤ 39 := by have := HLV.out; omega
          have hg' := Nat.lt_of_lt_of_le hgd HUY.out.size
          have HLDk := Lib.hid (hld y HUY.out)
          have HFLk := Lib.hid (run_fill (P := Tryz.prog) (k := 22) def_i y (Z := #[.string ByteArray.empty, .int .i64 0, .int .i64 0, .int .i64 0, .int .i64 0, .int .i64 0, .slice none 0 0, .slice none 0 0, .int .i64 0, .int .i64 0, .string ByteArray.empty, .int .i64 0, .int .i64 0, .int .i64 0, .int .i64 0, .int .i64 0, .int .i64 0, .int .i64 0, .int .i64 0, .slice none 0 0, .slice none 0 0, .slice none 0 0]) (cs := ds) rfl hds.1 (hds.one (defR_k N)))
          have hbk := (BoxC.new y 50 ds).up ((Up.refl _).alloc (.map #[] 0))
          have d0 := hbk.at h0 (by rw [hds.1]; decide)
          have bk := hbk.lt
          have HS0 : Hid (SetAt ((y.alloc (.cells ds 50)).alloc (.map #[] 0)) (y.heap.size + 1) 0 []) := Lib.hid (by have h := SetAt.made (y.alloc (.cells ds 50)); rw [World.size_alloc] at h; exact h)
          obtain ⟨w3, hmu, h1, h2⟩ := HS0.out.put hsz (by decide)
          have HSS := Lib.hid h1
          have hup3 : Up y w3 := ((((Up.refl y).alloc _).alloc _).grown' h2 (fun k e => by cases e; omega))
          have HUW3 := Lib.hid hup3
          have HBX := Lib.hid (HBDY.out.up hup3)
          have HLD2 := Lib.hid (run_def HCS.out.1 HBX.out.range)
          obtain ⟨b, hb⟩ : ∃ b, has R xn = b := ⟨_, rfl⟩
          have HBB := Lib.hid hb
          have HRD := Lib.hid (p_reads N _ _ _ d _ w3 HSS.out ⟨cs, rfl, HCS.out.up (defR_k N) (HUY.out.trans hup3)⟩ HTB.out b (by rw [HRE.out, rds_one]; exact hb))
          clear h1 h2 hup3 hx HNM hkA hds h0 hsz hgd hld hb e2 hbk hk1
          cases b
          · have HE : Hid ((A.take (k + 1)).foldl (levS R) 0 = q) := Lib.hid (by rw [HT2.out]; unfold levS; rw [HBB.out]; rfl)
            go_wp2_with (first
              | (refine st_load HLDk.out (by rfl) ?_)
              | (refine st_store HFLk.out (by rfl) (by rfl) ?_)
              | (refine st_load HLD2.out (by rfl) ?_)
              | (go_at_call 21; (with_reducible refine HRD.out.mono ?_); rintro e' y4 ⟨rfl, hy⟩; have HY4 := Lib.hid (HUW3.out.trans hy); clear hy))
            go_roundw
            case rel => exact ⟨k + 1, q, by go_num, by omega, hq, by_up HGB.out HY4.out, OwnL.up (fun _ _ _ _ h _ => h) HIL.out HY4.out, HE.out⟩
            case measure => simp [intOf]; omega
          · have HE : Hid ((A.take (k + 1)).foldl (levS R) 0 = max q (xl + 1)) := Lib.hid (by rw [HT2.out]; unfold levS; rw [HBB.out, if_pos rfl])
            go_upto_region 10 with (first
              | (refine st_load HLDk.out (by rfl) ?_)
              | (refine st_store HFLk.out (by rfl) (by rfl) ?_)
              | (refine st_load HLD2.out (by rfl) ?_)
              | (go_at_call 21; (with_reducible refine HRD.out.mono ?_); rintro e' y4 ⟨rfl, hy⟩; have HY4 := Lib.hid (HUW3.out.trans hy); clear hy))
            have HI4 := Lib.hid (OwnL.up (fun _ _ _ _ h _ => h) HIL.out HY4.out)
            have HLL := Lib.hid (lq_len (q := q) HLP.out HLTI.out)
            have l1 := OwnI.cell HI4.out HLL.out HCK.out
            have l2 := OwnI.cell HI4.out HLL.out (lq_i HLP.out)
            obtain ⟨cur, hcur⟩ := OwnI.box HI4.out HLL.out
            have ls := hcur.lt
            have hidn : (i : Int) < dn := by have := HLTI.out; omega
            have hkdn : (k : Int) < dn := by omega
            refine wp_region_mk 13 (fun _ _ _ _ => False) (by kernel_rfl) (by kernel_rfl) ?_
            simp only [List.take_succ_cons, List.take_zero, List.drop_succ_cons, List.drop_zero]
            iterate 11 (refine wpMk_quiet anti_post (by kernel_rfl) ?_; go_big_quiet_step (fail); refine wpQuiet_nil ?_)
            refine wpMk_any anti_post (fun v _ => v = .int .i64 (max q (xl + 1) : Nat)) (fun v x y h hu => h) (by kernel_rfl) (fun x hx => ⟨.int .i64 (max q (xl + 1) : Nat), x, by (go_simp; (repeat' split) <;> omega), Up.refl x, rfl⟩) ?_
            rintro v ⟨-, -, rfl⟩
            simp only [Act.put, List.setIfInBounds_toArray, List.set_cons_succ, List.set_cons_zero]
            iterate 1 (refine wpMk_quiet anti_post (by kernel_rfl) ?_; go_big_quiet_step (fail); refine wpQuiet_nil ?_)
            refine wpMk_nil ?_
            rintro W5 hW5 -
            have HI5 := Lib.hid (OwnL.up (fun _ _ _ _ h _ => h) HI4.out hW5)
            have m2 := OwnI.cell HI5.out HLL.out (lq_i HLP.out)
            have hc5 := hcur.up hW5
            have ms := hc5.lt
            have mf := hc5.frozen i
            have HY5 := Lib.hid (HY4.out.trans hW5)
            clear l1 l2 ls hcur hc5 hW5
            go_wp2
            go_roundw
            case rel =>
              refine ⟨k + 1, max q (xl + 1), by go_num, by omega, by omega, by_trans (by_up HGB.out HY5.out) (set_by _ _ _ _), ?_, HE.out⟩
              have h := OwnI.set HI5.out HLL.out HLTI.out (max q (xl + 1))
              rw [lq_set HLP.out] at h
              exact h
            case measure => simp [intOf]; omega
        · obtain rfl : i = k := by omega
          have HQ : Hid (q = levA A R) := Lib.hid (by rw [← HP.out, List.take_of_length_le (by rw [HLP.out]; exact Nat.le_refl _)]; rfl)
          have HQM : Hid (q ≤ mxA A) := Lib.hid (by rw [HQ.out]; exact levA_le A R)
          have HOY := Lib.hid (own_keptL HOV.out HGB.out (fun g' hg' e => by
            obtain ⟨cs', h1⟩ := HOV.out.blk g' hg'
            obtain ⟨cur, h2⟩ := OwnI.box HIW.out (lq_len HLP.out HLTI.out)
            have h3 : W.heap[w.heap.size + 1]? = _ := h2
            cases e
            rw [h3] at h1; cases h1))
          have HRY := Lib.hid (HRA.out.kept HGB.out (fun g' e => by
            obtain ⟨cur, h2⟩ := OwnI.box HIW.out (lq_len HLP.out HLTI.out)
            cases e
            exact ⟨_, _, h2, by decide⟩))
          have HBIG1 := Lib.hid HBIG.out
          have hiw : i < dn := HLTI.out
          go_upto_region 12 with (fail)
          go_loopg [4] (q + 1) (fun (kk : Nat) (ov : Value) (x : World) => ∃ vs : List Value, Up w x ∧ BoxC x w.heap.size 27 #[.slice sa sn sc, .slice ca cn cc, .slice pa pn pc, .slice (some ⟨g, o, none⟩) dn dc, .slice oa on_ oc] ∧ BoxC x wr.heap.size 50 cs ∧ OwnI (w.heap.size + 1) x (.slice (some ⟨w.heap.size + 1, 0, none⟩) dn dn) (A.map (·.2) ++ q :: List.replicate (dn - (i + 1)) 0) ∧ OwnV (w.heap.size + 1) x ov vs ∧ RowsA (w.heap.size + 1) x vs (rowP A) ∧ mxA A ≤ vs.length ∧ vs.length ≤ max (mxA A) (q + 1) ∧ q + 1 ≤ vs.length + kk)
          case atStart => exact ⟨vs, HUY.out, HBPY.out, HBDY.out, HIL.out, HOY.out, HRY.out, by rw [HVL.out]; exact Nat.le_refl _, by rw [HVL.out]; omega, by omega⟩
          case round =>
            rename World => x
            obtain ⟨vs2, hux, hbp, hbd, hil, hov, hra, hm1, hm2, hm3⟩ := hrel
            have HUX := Lib.hid hux
            have HBP := Lib.hid hbp
            have HBDX := Lib.hid hbd
            have HILX := Lib.hid hil
            have HOX := Lib.hid hov
            have HRX := Lib.hid hra
            have HM3 := Lib.hid hm3
            obtain ⟨oa3, oc3, rfl⟩ := hov.shape
            obtain ⟨n, hn⟩ : ∃ n, vs2.length = n := ⟨_, rfl⟩
            rw [hn] at HOX HM3 hm1 hm2 ⊢
            have HN := Lib.hid hn
            have HM1 := Lib.hid hm1
            have HM2 := Lib.hid hm2
            have HLL := Lib.hid (lq_len (q := q) HLP.out HLTI.out)
            have l2 := OwnI.cell HILX.out HLL.out (lq_i HLP.out)
            have ls : w.heap.size + 1 < x.heap.size := hil.lt0 _ rfl
            have hidn : (i : Int) < dn := by omega
            have hi0 : (0 : Int) ≤ i := by omega
            have hn41 : n ≤ 41 := by have h1 := HMX.out; have h2 := HQM.out; omega
            have hnI : (n : Int) ≤ 41 := by omega
            clear hux hbp hbd hil hov hra hm3 hn hm1 hm2
            by_cases hnq : n ≤ q
            · have hnqI : (n : Int) ≤ q := by omega
              have HSN := Lib.hid (LsAt.laid (k := 1) (B := 24) (R := fun _ => valQ) (W := x) (E := 22) (cs := #[.slice none 0 0]) (x := Value.slice none 0 0) rfl (by decide) ⟨rfl, rfl⟩)
              have HUO := Lib.hid (OwnL.up (fun _ _ _ _ h _ => h) HOX.out ((Up.refl x).alloc (.cells #[.slice none 0 0] 22)))
              go_wp2_with (at_builtin; refine st_app (mm := 1) rowT_strs valQ_one HN.out (by rfl) (H := HUO.out) (S := HSN.out) (by omega) (by decide) (by simp only [World.size_alloc]; omega) (by rfl) (by rfl) ?_; intro ua uc x2 h1 h2 h3; have HO2 := Lib.hid h1; have HG2 := Lib.hid h2; clear h1 h2 h3)
              go_roundg (gk - 1)
              case measure => have := HM3.out; omega
              case rel =>
                refine ⟨vs2 ++ [.slice none 0 0], (HUX.out.alloc _).grown' HG2.out (fun k e => by have := HUO.out.base k e; omega), (HBP.out.up ((Up.refl _).alloc _)).keptV HUO.out HG2.out (by decide), (HBDX.out.up ((Up.refl _).alloc _)).keptV HUO.out HG2.out (by decide), ?_, HO2.out, ?_, ?_, ?_, ?_⟩
                · exact own_keptL (OwnL.up (fun _ _ _ _ h _ => h) HILX.out ((Up.refl _).alloc _)) HG2.out (apart_ty (OwnL.up (fun _ _ _ _ h _ => h) HILX.out ((Up.refl _).alloc _)) HUO.out (by decide))
                · refine ((HRX.out.up ((Up.refl _).alloc _)).kept HG2.out (fun g' e => ?_)).snoc ?_
                  · obtain ⟨cs', h1⟩ := HUO.out.blk g' e
                    exact ⟨_, _, h1, by decide⟩
                  · exact HBIG.out _ (by rw [HN.out]; exact HM1.out)
                · rw [List.length_append, HN.out]; exact Nat.le_trans HM1.out (Nat.le_succ _)
                · rw [List.length_append, HN.out, List.length_singleton]; omega
                · rw [List.length_append, HN.out, List.length_singleton]; have := HM3.out; omega
            · have hnqI : (q : Int) < n := by omega
              have hqn : q < n := by omega
              have HNM : Hid (n = mxA (A ++ [(d.nm, q)])) := Lib.hid (by rw [mxA_snoc]; have h1 := HM1.out; have h2 := HM2.out; dsimp only; omega)
              obtain ⟨go, rfl⟩ := HOX.out.ptr HN.out (by omega)
              have hqv : q < vs2.length := by rw [HN.out]; exact hqn
              have hrow := HRX.out.own q hqv
              obtain ⟨va, vc, hsl⟩ := hrow.shape
              have HVQ : Hid (vs2[q]? = some (vs2.getD q undef)) := Lib.hid (by rw [List.getD_eq_getElem?_getD, List.getElem?_eq_getElem hqv]; rfl)
              obtain ⟨U, hU⟩ : ∃ U, rowP A q = U := ⟨_, rfl⟩
              have HUE := Lib.hid hU
              rw [hU] at hrow hsl
              obtain ⟨m, hm⟩ : ∃ m, U.length = m := ⟨_, rfl⟩
              rw [hm] at hsl
              rw [hsl] at hrow
              have HVS := Lib.hid hsl
              have HM := Lib.hid hm
              have HLN : Hid (m ≤ 40) := Lib.hid (by rw [← hm, ← hU]; have h1 := rowP_len A q; rw [HLP.out] at h1; omega)
              have c1 := OwnV.cell HOX.out HN.out HVQ.out
              rw [hsl] at c1
              have HRW := Lib.hid hrow
              obtain ⟨cur, hcur, hcb⟩ := OwnV.box HOX.out HN.out
              have os := hcur.lt
              have HCUR := Lib.hid hcur
              have n0 := HBDX.out.at HCS0.out (by rw [HCS.out.1]; decide)
              have ns := HBDX.out.lt
              have HSZN := Lib.hid HSZ.out
              clear hsl hrow hm hU hcur
              go_upto_region 14 with (fail)
              refine wp_region_z (fun y => y.cell? ⟨w.heap.size + 1, i, none⟩ = some (.int .i64 q) ∧ y.cell? ⟨go, q, none⟩ = some (.slice va m vc) ∧ y.cell? ⟨wr.heap.size, 0, none⟩ = some (.string d.nm)) 17 (by kernel_rfl) ?_
              have hdr : Up x { x with drawn := x.drawn + 1 } := (Up.refl x).drew
              generalize ({ x with drawn := x.drawn + 1 } : World) = xd at hdr ⊢
              have HDR := Lib.hid hdr
              have HOD := Lib.hid (OwnL.up (fun _ _ _ _ h _ => h) HOX.out hdr)
              have HRD := Lib.hid (HRX.out.up hdr)
              have HSX : Hid (xd.cell? ⟨w.heap.size + 1, i, none⟩ = some (.int .i64 q) ∧ xd.cell? ⟨go, q, none⟩ = some (.slice va m vc) ∧ xd.cell? ⟨wr.heap.size, 0, none⟩ = some (.string d.nm)) := Lib.hid ⟨(hdr.cell _ _ ls).trans l2, (hdr.cell _ _ os).trans c1, (hdr.cell _ _ ns).trans n0⟩
              clear hdr l2 c1 n0
              refine anyZ_take (i := 0) (v := (.slice (some ⟨go, 0, none⟩) n oc3)) rfl (by kernel_rfl) (by kernel_rfl) (by kernel_rfl) (by kernel_rfl) (fun c a w h => h) (.inl ⟨by kernel_rfl, fun y hy => by obtain ⟨s1, s2, s3⟩ := hy; go_simp⟩) HSX.out ?_
              simp only [Act.put, List.getElem_toArray, List.getElem_cons_succ, List.getElem_cons_zero, List.setIfInBounds_toArray, List.set_cons_succ, List.set_cons_zero]
              refine anyZ_take (i := 1) (v := (.slice (some ⟨w.heap.size + 1, 0, none⟩) dn dn)) rfl (by kernel_rfl) (by kernel_rfl) (by kernel_rfl) (by kernel_rfl) (fun c a w h => h) (.inl ⟨by kernel_rfl, fun y hy => by obtain ⟨s1, s2, s3⟩ := hy; go_simp⟩) HSX.out ?_
              simp only [Act.put, List.getElem_toArray, List.getElem_cons_succ, List.getElem_cons_zero, List.setIfInBounds_toArray, List.set_cons_succ, List.set_cons_zero]
              refine anyZ_take (i := 2) (v := (.int .i64 i)) rfl (by kernel_rfl) (by kernel_rfl) (by kernel_rfl) (by kernel_rfl) (fun c a w h => h) (.inl ⟨by kernel_rfl, fun y hy => by obtain ⟨s1, s2, s3⟩ := hy; go_simp⟩) HSX.out ?_
              simp only [Act.put, List.getElem_toArray, List.getElem_cons_succ, List.getElem_cons_zero, List.setIfInBounds_toArray, List.set_cons_succ, List.set_cons_zero]
              refine anyZ_take (i := 3) (v := (.pointer (some ⟨w.heap.size + 1, i, none⟩))) rfl (by kernel_rfl) (by kernel_rfl) (by kernel_rfl) (by kernel_rfl) (fun c a w h => h) (.inl ⟨by kernel_rfl, fun y hy => by obtain ⟨s1, s2, s3⟩ := hy; go_simp⟩) HSX.out ?_
              simp only [Act.put, List.getElem_toArray, List.getElem_cons_succ, List.getElem_cons_zero, List.setIfInBounds_toArray, List.set_cons_succ, List.set_cons_zero]
              refine anyZ_take (i := 4) (v := (.int .i64 q)) rfl (by kernel_rfl) (by kernel_rfl) (by kernel_rfl) (by kernel_rfl) (fun c a w h => h) (.inl ⟨by kernel_rfl, fun y hy => by obtain ⟨s1, s2, s3⟩ := hy; go_simp⟩) HSX.out ?_
              simp only [Act.put, List.getElem_toArray, List.getElem_cons_succ, List.getElem_cons_zero, List.setIfInBounds_toArray, List.set_cons_succ, List.set_cons_zero]
              refine anyZ_take (i := 5) (v := (.slice (some ⟨go, 0, none⟩) n oc3)) rfl (by kernel_rfl) (by kernel_rfl) (by kernel_rfl) (by kernel_rfl) (fun c a w h => h) (.inl ⟨by kernel_rfl, fun y hy => by obtain ⟨s1, s2, s3⟩ := hy; go_simp⟩) HSX.out ?_
              simp only [Act.put, List.getElem_toArray, List.getElem_cons_succ, List.getElem_cons_zero, List.setIfInBounds_toArray, List.set_cons_succ, List.set_cons_zero]
              refine anyZ_take (i := 6) (v := (.slice (some ⟨w.heap.size + 1, 0, none⟩) dn dn)) rfl (by kernel_rfl) (by kernel_rfl) (by kernel_rfl) (by kernel_rfl) (fun c a w h => h) (.inl ⟨by kernel_rfl, fun y hy => by obtain ⟨s1, s2, s3⟩ := hy; go_simp⟩) HSX.out ?_
              simp only [Act.put, List.getElem_toArray, List.getElem_cons_succ, List.getElem_cons_zero, List.setIfInBounds_toArray, List.set_cons_succ, List.set_cons_zero]
              refine anyZ_take (i := 7) (v := (.int .i64 i)) rfl (by kernel_rfl) (by kernel_rfl) (by kernel_rfl) (by kernel_rfl) (fun c a w h => h) (.inl ⟨by kernel_rfl, fun y hy => by obtain ⟨s1, s2, s3⟩ := hy; go_simp⟩) HSX.out ?_
              simp only [Act.put, List.getElem_toArray, List.getElem_cons_succ, List.getElem_cons_zero, List.setIfInBounds_toArray, List.set_cons_succ, List.set_cons_zero]
              refine anyZ_take (i := 8) (v := (.pointer (some ⟨w.heap.size + 1, i, none⟩))) rfl (by kernel_rfl) (by kernel_rfl) (by kernel_rfl) (by kernel_rfl) (fun c a w h => h) (.inl ⟨by kernel_rfl, fun y hy => by obtain ⟨s1, s2, s3⟩ := hy; go_simp⟩) HSX.out ?_
              simp only [Act.put, List.getElem_toArray, List.getElem_cons_succ, List.getElem_cons_zero, List.setIfInBounds_toArray, List.set_cons_succ, List.set_cons_zero]
              refine anyZ_take (i := 9) (v := (.int .i64 q)) rfl (by kernel_rfl) (by kernel_rfl) (by kernel_rfl) (by kernel_rfl) (fun c a w h => h) (.inl ⟨by kernel_rfl, fun y hy => by obtain ⟨s1, s2, s3⟩ := hy; go_simp⟩) HSX.out ?_
              simp only [Act.put, List.getElem_toArray, List.getElem_cons_succ, List.getElem_cons_zero, List.setIfInBounds_toArray, List.set_cons_succ, List.set_cons_zero]
              refine anyZ_take (i := 10) (v := (.pointer (some ⟨go, q, none⟩))) rfl (by kernel_rfl) (by kernel_rfl) (by kernel_rfl) (by kernel_rfl) (fun c a w h => h) (.inl ⟨by kernel_rfl, fun y hy => by obtain ⟨s1, s2, s3⟩ := hy; go_simp⟩) HSX.out ?_
              simp only [Act.put, List.getElem_toArray, List.getElem_cons_succ, List.getElem_cons_zero, List.setIfInBounds_toArray, List.set_cons_succ, List.set_cons_zero]
              refine anyZ_take (i := 11) (v := (.slice va m vc)) rfl (by kernel_rfl) (by kernel_rfl) (by kernel_rfl) (by kernel_rfl) (fun c a w h => h) (.inl ⟨by kernel_rfl, fun y hy => by obtain ⟨s1, s2, s3⟩ := hy; go_simp⟩) HSX.out ?_
              simp only [Act.put, List.getElem_toArray, List.getElem_cons_succ, List.getElem_cons_zero, List.setIfInBounds_toArray, List.set_cons_succ, List.set_cons_zero]
              refine anyZ_take (i := 12) (v := (.pointer (some ⟨wr.heap.size, 0, none⟩))) rfl (by kernel_rfl) (by kernel_rfl) (by kernel_rfl) (by kernel_rfl) (fun c a w h => h) (.inl ⟨by kernel_rfl, fun y hy => by obtain ⟨s1, s2, s3⟩ := hy; go_simp⟩) HSX.out ?_
              simp only [Act.put, List.getElem_toArray, List.getElem_cons_succ, List.getElem_cons_zero, List.setIfInBounds_toArray, List.set_cons_succ, List.set_cons_zero]
              refine anyZ_take (i := 13) (v := (.string d.nm)) rfl (by kernel_rfl) (by kernel_rfl) (by kernel_rfl) (by kernel_rfl) (fun c a w h => h) (.inl ⟨by kernel_rfl, fun y hy => by obtain ⟨s1, s2, s3⟩ := hy; go_simp⟩) HSX.out ?_
              simp only [Act.put, List.getElem_toArray, List.getElem_cons_succ, List.getElem_cons_zero, List.setIfInBounds_toArray, List.set_cons_succ, List.set_cons_zero]
              refine anyZ_val (i := 14) (v := .slice (some ⟨xd.heap.size, 0, none⟩) 1 1) (w' := xd.alloc (.cells #[.string d.nm] 9)) rfl (by kernel_rfl) (by kernel_rfl) (by go_simp) (fun _ => ?_) ?_
              · have hu := (Up.refl xd).alloc (.cells #[.string d.nm] 9)
                obtain ⟨s1, s2, s3⟩ := HSX.out
                exact ⟨(hu.cell _ _ (Nat.lt_of_lt_of_le ls HDR.out.size)).trans s1, (hu.cell _ _ (Nat.lt_of_lt_of_le os HDR.out.size)).trans s2, (hu.cell _ _ (Nat.lt_of_lt_of_le ns HDR.out.size)).trans s3⟩
              simp only [Act.put, List.getElem_toArray, List.getElem_cons_succ, List.getElem_cons_zero, List.setIfInBounds_toArray, List.set_cons_succ, List.set_cons_zero]
              have HRWD := Lib.hid (OwnL.up (fun _ _ _ _ h _ => h) HRW.out (HDR.out.alloc (.cells #[.string d.nm] 9)))
              have h16 : (m + 1) * 16 ≤ 140737488355328 := by have := HLN.out; omega
              have hbs : w.heap.size + 1 ≤ (xd.alloc (.cells #[.string d.nm] 9)).heap.size := Nat.le_trans (Nat.le_of_lt ls) (HDR.out.alloc (.cells #[.string d.nm] 9)).size
              have HONE := Lib.hid (LsAt.one_str xd HSZN.out)
              have HAPP := Lib.hid (app_str (dst := 22) HRWD.out HM.out HONE.out h16 hbs)
              refine HAPP.out.elim fun ya h1 => h1.elim fun yc h2 => h2.elim fun y2 h3 => ?_
              have hap := h3.1
              have hoy := h3.2.1
              have hgy := h3.2.2.1
              have hby := h3.2.2.2
              have HOV2 := Lib.hid (own_keptL (OwnL.up (fun _ _ _ _ h _ => h) HOD.out ((Up.refl _).alloc (.cells #[.string d.nm] 9))) hgy (apart_ty (OwnL.up (fun _ _ _ _ h _ => h) HOD.out ((Up.refl _).alloc (.cells #[.string d.nm] 9))) HRWD.out (by decide)))
              have HBD2 := Lib.hid ((HBDX.out.up (HDR.out.alloc (.cells #[.string d.nm] 9))).keptS HRWD.out hgy (by decide))
              have HBP2 := Lib.hid ((HBP.out.up (HDR.out.alloc (.cells #[.string d.nm] 9))).keptS HRWD.out hgy (by decide))
              have HIL2 := Lib.hid (own_keptL (OwnL.up (fun _ _ _ _ h _ => h) HILX.out (HDR.out.alloc (.cells #[.string d.nm] 9))) hgy (apart_ty (OwnL.up (fun _ _ _ _ h _ => h) HILX.out (HDR.out.alloc (.cells #[.string d.nm] 9))) HRWD.out (by decide)))
              have HU2 := Lib.hid ((HUX.out.trans (HDR.out.alloc (.cells #[.string d.nm] 9))).grown' hgy (fun k e => by have := HRWD.out.base k e; omega))
              have HR2 : Hid (RowsA (w.heap.size + 1) y2 (vs2.set q (.slice ya (m + 1) yc)) (rowP (A ++ [(d.nm, q)]))) := Lib.hid (by
                refine (HRD.out.up ((Up.refl _).alloc (.cells #[.string d.nm] 9))).app hqv (by rw [HVS.out]; exact hgy) ?_ (fun j _ hj => by rw [rowP_snoc, if_neg hj]) (by rw [HVS.out]; exact hby)
                rw [rowP_snoc, if_pos rfl, HUE.out]
                exact hoy)
              have HAP := Lib.hid hap
              refine (OwnV.box HOV2.out HN.out).elim fun cur2 hcu => ?_
              have hcur2 := hcu.1
              have hfr := hcur2.frozen q
              have hc2 := OwnV.cell HOV2.out HN.out HVQ.out
              have hs2 := hcur2.lt
              clear hgy hby hap hoy hcur2 hcu h3
              refine anyZ_val (i := 15) (oi := { dst := some 76, op := .call { callee := .builtin .append, args := #[.tmp 72, .tmp 75], argTypes := #[22, 22] }, type := 22, pos := "depgraph.go:107", after := #[{ on := 11, ground := .data }, { on := 14, ground := .data }], guard := none }) (v := .slice ya (m + 1) yc) (w' := y2) rfl (by kernel_rfl) (by kernel_rfl) (exec_app (vx := .slice va m vc) (vy := .slice (some ⟨xd.heap.size, 0, none⟩) 1 1) (by rfl) (by rfl) HAP.out) (fun _ => ⟨OwnI.cell HIL2.out HLL.out (lq_i HLP.out), by rw [hc2, HVS.out], HBD2.out.at HCS0.out (by rw [HCS.out.1]; decide)⟩) ?_
              simp only [Act.put, List.getElem_toArray, List.getElem_cons_succ, List.getElem_cons_zero, List.setIfInBounds_toArray, List.set_cons_succ, List.set_cons_zero]
              refine anyZ_val (i := 16) (v := .pointer (some ⟨go, q, none⟩)) (w' := y2) rfl (by kernel_rfl) (by kernel_rfl) (by go_simp) (fun _ => ⟨OwnI.cell HIL2.out HLL.out (lq_i HLP.out), by rw [hc2, HVS.out], HBD2.out.at HCS0.out (by rw [HCS.out.1]; decide)⟩) ?_
              simp only [Act.put, List.getElem_toArray, List.getElem_cons_succ, List.getElem_cons_zero, List.setIfInBounds_toArray, List.set_cons_succ, List.set_cons_zero]
              refine anyZ_skip (i := 17) (w' := y2.setCell ⟨go, q, none⟩ (.slice ya (m + 1) yc)) rfl (by kernel_rfl) (by kernel_rfl) (by go_simp) (fun h => absurd rfl h) ?_
              simp only [Act.put, List.getElem_toArray, List.getElem_cons_succ, List.getElem_cons_zero, List.setIfInBounds_toArray, List.set_cons_succ, List.set_cons_zero]
              refine anyZ_done (by kernel_rfl) ?_
              have HLQ := Lib.hid (lq_next (A := A) (i := i) (dn := dn) (q := q) (x := d.nm))
              have HNX : Hid (levP (defs.take (i + 1)) = A ++ [(d.nm, q)]) := Lib.hid (by rw [HTK.out, HQ.out])
              go_wp2
              go_roundw
              case rel =>
                refine ⟨i + 1, vs2.set q (.slice ya (m + 1) yc), by go_num, by omega, HU2.out.grown' (set_by _ _ _ _) (fun k e => by cases e; have := HOV2.out.base _ rfl; dsimp only at this; omega), HBP2.out.kept (set_by _ _ _ _) (fun e => by have := Option.some.inj e; have := HOV2.out.base _ rfl; dsimp only at this; omega), ?_, OwnV.set HOV2.out HN.out hqn rfl, ?_, ?_⟩
                · rw [HNX.out, ← HLQ.out]
                  exact own_keptL HIL2.out (set_by _ _ _ _) (fun g' hg' e => apart_ty HIL2.out HOV2.out (by decide) g' hg' (by rw [e]; rfl))
                · rw [HNX.out, List.length_set, HN.out]; exact HNM.out
                · rw [HNX.out]
                  exact HR2.out.kept (set_by _ _ _ _) (fun g' e => by
                    obtain ⟨cur3, h3, -⟩ := OwnV.box HOV2.out HN.out
                    cases e
                    exact ⟨_, _, h3, by decide⟩)
              case measure => simp [intOf]; omega
    · obtain rfl : dn = i := by omega
      have HTK : Hid (defs.take dn = defs) := Lib.hid (List.take_of_length_le (by rw [HDN.out]; exact Nat.le_refl _))
      have HOV := Lib.hid hov
      have HRA := Lib.hid hra
      have HVL := Lib.hid hvl
      obtain ⟨oa2, oc2, rfl⟩ := hov.shape
      clear hup hbx hlv hov hvl hra
      go_wp2
      go_ret
      refine ⟨_, rfl, HU.out, ?_⟩
      have h1 := HRA.out
      have h2 := HVL.out
      have h3 := HMX.out
      rw [HTK.out] at h1 h2 h3
      unfold lvF
      exact rows_ls HOV.out h1 h2 (by omega) (fun j hj => by have h4 := rowP_len (levP defs) j; have h5 := levP_len defs; have := HDN.out; omega)
end Go.Proofs.YtpccaifhcmcegaaGreat
end
