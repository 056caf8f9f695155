/-
  expr.mapForms with the closure that copies forms. Printed by mkDgC4.py.
-/
import Derived.Test.YtpccaifhcmcegaaGreatHn

namespace Go.Proofs.YtpccaifhcmcegaaGreat
set_option linter.unusedSimpArgs false
open Go.ChangeShapes Go.WideShapes Go.ChangeAt Go.RowKit
set_option linter.unusedVariables false
set_option maxRecDepth 100000

/-- The copying function as a value. -/
abbrev cloV : Value := (.func (.func 60) #[] #[])
def MapC (n : Nat) : Prop := ∀ (X : Nat → Prop) (cs : Array Value) (e : Ex) (w : World), cs.size = 13 → (∀ b, X b → b < w.heap.size) → Fr X (fun y => exR n y (fun j => cs.getD j undef) e) w →
  Calls Tryz.prog 59 #[.agg cs, cloV] w fun r w' => ∃ ds : Array Value, r = .returned (.tuple #[.agg ds, .int .i64 0]) ∧ ds.size = 13 ∧ Up w w' ∧ Fr X (fun y => exR n y (fun j => ds.getD j undef) e) w'
theorem map_zero : MapC 0 := fun X cs e w _ _ h => (h.here : False).elim
/-- The parts of an expression. -/
theorem ex_parts {X : Nat → Prop} {f : Nat → Value} {n : Nat} {op : Int} {nm : ByteArray} {a d : Int} {ty : Typ} {lin : LinT} {ix : List Ix} {args : List Ex} {w : World} (h : Fr X (fun y => exR (n + 1) y f (.mk op nm a d ty lin ix args)) w) :
    f 9 = .int .i64 lin.1 ∧ LsAt 2 24 monR w (f 10) lin.2 ∧ Fr X (fun y => LsAt 4 72 ixR y (f 11) ix) w ∧ Fr X (fun y => LsAt 13 160 (exR n) y (f 12) args) w := by
  obtain ⟨h1, h2, h3, h4, h5, h6, h7, h8⟩ := h.here
  exact ⟨h6.1, h6.2, h.mono fun y hy => hy.2.2.2.2.2.2.1, h.mono fun y hy => hy.2.2.2.2.2.2.2⟩
theorem ex_join {X : Nat → Prop} {f g : Nat → Value} {n : Nat} {op : Int} {nm : ByteArray} {a d : Int} {ty : Typ} {lin : LinT} {ix : List Ix} {args : List Ex} {w w' : World} (h : Fr X (fun y => exR (n + 1) y f (.mk op nm a d ty lin ix args)) w)
    (hg : ∀ j, j < 9 → g j = f j) (h9 : g 9 = .int .i64 lin.1) (hl : Fr X (fun y => LsAt 2 24 monR y (g 10) lin.2) w') (hi : Fr X (fun y => LsAt 4 72 ixR y (g 11) ix) w') (ha : Fr X (fun y => LsAt 13 160 (exR n) y (g 12) args) w') : Fr X (fun y => exR (n + 1) y g (.mk op nm a d ty lin ix args)) w' := by
  obtain ⟨h1, h2, h3, h4, ⟨t0, t1, t2, t3, t4⟩, h6, h7, h8⟩ := h.here
  dsimp only at t0 t1 t2 t3 t4
  rw [← hg _ (by decide)] at h1 h2 h3 h4 t0 t1 t2 t3 t4
  exact fun y hy => ⟨h1, h2, h3, h4, ⟨t0, t1, t2, t3, t4⟩, ⟨h9, hl y hy⟩, hi y hy, ha y hy⟩
/-- Element i of a slice whose cells are known. -/
theorem SlAt.row4 {w : World} {a : Option Addr} {n c k : Nat} {F : Nat → Nat → Value} (h : SlAt w (.slice a n c) n k F) (hk : 0 < k) {i : Nat} (hi : i < n) {cs : Array Value} (hs : cs.size = k) (hc : ∀ j, j < k → cs.getD j undef = F i j) :
    ∃ g o, a = some ⟨g, o, none⟩ ∧ g < w.heap.size ∧ ∀ y, Up w y → y.rangeAt g (o + i * k) cs.toList := by
  obtain ⟨⟨a', c', e, h0, hx⟩, _⟩ := h
  cases e
  cases a with
  | none => have := h0 rfl; omega
  | some x =>
    obtain ⟨g1, g2, g3⟩ := hx x rfl (by omega)
    obtain ⟨g, o, sp⟩ := x
    have g1' : sp = none := g1
    subst g1'
    refine ⟨g, o, rfl, g2, fun y hy j v hv => ?_⟩
    have hj : j < k := by rw [← hs]; have := (List.getElem?_eq_some_iff.1 hv).1; simpa using this
    have e2 : v = F i j := by
      rw [← hc j hj, Array.getD_eq_getD_getElem?, ← Array.getElem?_toList, hv]; rfl
    rw [e2]
    exact (hy.cell _ _ g2).trans (g3 i j hi hj)
theorem ix_u : ∃ d, Tryz.prog.underlying 81 = some d ∧ d.isRow = true := ⟨_, Tryz.underlying81, rfl⟩
theorem ix_info : (Tryz.prog.info? 81).map (·.size) = some 4 := by kernel_rfl
theorem ix_elem {X : Nat → Prop} {w : World} {a : Option Addr} {n c : Nat} {F : Nat → Nat → Value} (h : SlAt w (.slice a n c) n 4 F) {i : Nat} (hi : i < n) {x : Ix} (hx : Fr X (fun y => ixR y (F i) x) w) :
    ∃ (g o : Nat) (va : Option Addr) (vc : Nat) (ta : Option Addr) (tc : Nat), a = some ⟨g, o, none⟩ ∧ g < w.heap.size ∧ LsAt 2 24 monR w (.slice va x.1.2.length vc) x.1.2 ∧ F i 2 = .string x.2.1 ∧ x.2.1.size ≤ maxLen ∧ Fr X (fun y => LsAt 2 32 linR y (.slice ta x.2.2.length tc) x.2.2) w ∧ F i 3 = .slice ta x.2.2.length tc ∧
      ∀ y, Up w y → (Instr.loadAt 81 (.pointer (some ⟨g, o + i * 4, none⟩))).run Tryz.prog y = .ok (.agg #[.int .i64 x.1.1, .slice va x.1.2.length vc, .string x.2.1, .slice ta x.2.2.length tc]) y := by
  obtain ⟨⟨h0, h1⟩, ⟨h2, h2'⟩, h3⟩ := hx.here
  have hF3 : Fr X (fun y => LsAt 2 32 linR y (F i 3) x.2.2) w := hx.mono fun y hy => hy.2.2
  obtain ⟨va, vc, e1, _⟩ := h1.shape
  obtain ⟨ta, tc, e3, _⟩ := h3.shape
  rw [e1] at h1
  rw [e3] at hF3
  obtain ⟨g, o, ea, hg, hr⟩ := h.row4 (by decide) hi (cs := #[.int .i64 x.1.1, .slice va x.1.2.length vc, .string x.2.1, .slice ta x.2.2.length tc]) rfl (fun j hj => by
    rcases (by omega : j = 0 ∨ j = 1 ∨ j = 2 ∨ j = 3) with rfl | rfl | rfl | rfl
    · exact h0.symm
    · exact e1.symm
    · exact h2.symm
    · exact e3.symm)
  obtain ⟨d, u1, u2⟩ := ix_u
  exact ⟨g, o, va, vc, ta, tc, ea, hg, h1, h2, h2', hF3, e3, fun y hy => run_cs u1 u2 ix_info rfl (hr y hy)⟩
theorem outL_store {P : Program} {ops : Array Oper} {K : Act → World → Prop} {a : Act} {x w' : World} {T : TypeId} {p V : Value} (hrun : (Instr.storeAt T p V).run P x = .ok () w') {dst : Option Nat} {x0 y0 : Operand} {ty : TypeId} {pos : String} {af : Array Edge} (hx : a.eval x0 = p) (hy : a.eval y0 = V)
    (h : K (a.put dst undef) w') : OutL P ops K { dst := dst, op := .store T x0 y0, type := ty, pos := pos, after := af, guard := none } a x :=
  ⟨rfl, .inr ⟨w', by
    unfold execOp
    simp only [hx, hy, hrun, Sem.run_bind, Sem.run_pure, Result.andThen_ok], h⟩⟩
theorem results_c1 {P : Program} {fn : Func} {tmps : Array Value} {a : Nat} {t : TypeId} {p : Addr} {v : Value} {w : World} (hr : fn.results = #[.cell a t]) (ha : tmps.getD a undef = .pointer (some p)) (hl : (loadVar t p).run P w = .ok v w) : (results fn tmps).run P w = .ok v w := by
  unfold results
  rw [hr]
  rw [Array.getD_eq_getD_getElem?] at ha
  simp [ha, hl, asAddr, Sem.run_bind, Sem.run_pure]
theorem results_c2 {P : Program} {fn : Func} {tmps : Array Value} {a s : Nat} {t : TypeId} {p : Addr} {v u : Value} {w : World} (hr : fn.results = #[.cell a t, .tmp s]) (ha : tmps.getD a undef = .pointer (some p)) (hs : tmps.getD s undef = u) (hl : (loadVar t p).run P w = .ok v w) : (results fn tmps).run P w = .ok (.tuple #[v, u]) w := by
  unfold results
  rw [hr]
  rw [Array.getD_eq_getD_getElem?] at ha hs
  simp [ha, hs, hl, asAddr, Sem.run_bind, Sem.run_pure]
theorem run_exV {w : World} {g o : Nat} {cs : Array Value} (hs : cs.size = 13) (hr : w.rangeAt g o cs.toList) : (loadVar 48 ⟨g, o, none⟩).run Tryz.prog w = .ok (.agg cs) w := by
  obtain ⟨d, h1, h2⟩ := ex_u
  have := run_loadVar_mid (P := Tryz.prog) w g o 48 cs.toList d hr h1 h2 (by rw [ex_i]; simp [hs])
  simpa using this

set_option maxHeartbeats 16000000 in
theorem map_step (n : Nat) (IH : MapC n) : MapC (n + 1) := by
  intro X cs e w hcs hX hfr
  obtain ⟨op, nm, av, dv, ty, lin, ix, args⟩ := e
  obtain ⟨p9, p10, p11, p12⟩ := ex_parts hfr
  obtain ⟨K, ml⟩ := lin
  obtain ⟨la, lc, e10, _⟩ := p10.shape
  obtain ⟨mm, hmm⟩ : ∃ q, ml.length = q := ⟨_, rfl⟩
  obtain ⟨n1, hn1⟩ : ∃ q, ix.length = q := ⟨_, rfl⟩
  obtain ⟨n2, hn2⟩ : ∃ q, args.length = q := ⟨_, rfl⟩
  obtain ⟨⟨ia, ic, e11, -⟩, hb1⟩ := p11.lsLen
  obtain ⟨⟨aa, ac, e12, -⟩, hb2⟩ := p12.lsLen
  obtain ⟨F1, hS1, hE1⟩ := Fr.ls ixR_k (by decide) p11
  obtain ⟨F2, hS2, hE2⟩ := Fr.ls (exR_k n) (by decide) p12
  dsimp only at e10 e11 e12 p9 p10
  rw [hmm] at e10
  rw [hn1] at e11 hb1
  rw [hn2] at e12 hb2
  rw [e11, hn1] at hS1
  rw [e12, hn2] at hS2
  rw [e10] at p10
  have hmI : (mm : Int) ≤ 140737488351232 := by have := p10.bytes; rw [hmm] at this; omega
  have h1I : (n1 : Int) ≤ 140737488351232 := by omega
  have h2I : (n2 : Int) ≤ 140737488351232 := by omega
  have HIH := Lib.hid IH
  have HX := Lib.hid hX
  have HFR := Lib.hid hfr
  have HCS := Lib.hid hcs
  have HN1 := Lib.hid hn1
  have HN2 := Lib.hid hn2
  have HB1 := Lib.hid hb1
  have HB2 := Lib.hid hb2
  have HS1 := Lib.hid hS1
  have HS2 := Lib.hid hS2
  have HE1 := Lib.hid hE1
  have HE2 := Lib.hid hE2
  have H9 := Lib.hid p9
  have H10 := Lib.hid e10
  have H11 := Lib.hid e11
  have H12 := Lib.hid e12
  have HCL := Lib.hid (fun y (hy : Up w y) => ex_clo K _ ml mm y (p10.up monR_up hy) hmm)
  have HU0 := Lib.hid (((Up.refl w).alloc (.cells cs 48)).alloc (.cells #[.int .i64 0, .string ByteArray.empty, .int .i64 0, .int .i64 0, .int .i64 0, .int .i64 0, .int .i64 0, .int .i64 0, .int .i64 0, .int .i64 0, .slice none 0 0, .slice none 0 0, .slice none 0 0] 48))
  have HLD := Lib.hid (run_ex (w := (w.alloc (.cells cs 48)).alloc (.cells #[.int .i64 0, .string ByteArray.empty, .int .i64 0, .int .i64 0, .int .i64 0, .int .i64 0, .int .i64 0, .int .i64 0, .int .i64 0, .int .i64 0, .slice none 0 0, .slice none 0 0, .slice none 0 0] 48)) hcs (((BoxC.new w 48 cs).up ((Up.refl _).alloc (.cells #[.int .i64 0, .string ByteArray.empty, .int .i64 0, .int .i64 0, .int .i64 0, .int .i64 0, .int .i64 0, .int .i64 0, .int .i64 0, .int .i64 0, .slice none 0 0, .slice none 0 0, .slice none 0 0] 48))).range))
  have HFL := Lib.hid (by have h1 := run_fill (P := Tryz.prog) (k := 13) ex_i ((w.alloc (.cells cs 48)).alloc (.cells #[.int .i64 0, .string ByteArray.empty, .int .i64 0, .int .i64 0, .int .i64 0, .int .i64 0, .int .i64 0, .int .i64 0, .int .i64 0, .int .i64 0, .slice none 0 0, .slice none 0 0, .slice none 0 0] 48)) (Z := #[.int .i64 0, .string ByteArray.empty, .int .i64 0, .int .i64 0, .int .i64 0, .int .i64 0, .int .i64 0, .int .i64 0, .int .i64 0, .int .i64 0, .slice none 0 0, .slice none 0 0, .slice none 0 0]) (cs := cs) rfl hcs (CsAt.one (exR_k (n + 1)) ⟨hcs, hfr.here⟩); simp only [World.size_alloc] at h1; exact h1)
  clear IH hX hfr hcs p11 p12 hS1 hS2 hE1 hE2 hn1 hn2 hb1 hb2 hmm p10
  go_enter Tryz.func59, Tryz.ntmps59
  go_upto_region 3 with (first
    | (refine st_load HLD.out (by rfl) ?_)
    | (refine st_store HFL.out (by rfl) (by rfl) ?_))
  have HU1 := Lib.hid (HU0.out.alloc (.cells cs 48))
  have HB61 : Hid (w.heap.size + 1 + 1 < (((w.alloc (.cells cs 48)).alloc (.cells #[.int .i64 0, .string ByteArray.empty, .int .i64 0, .int .i64 0, .int .i64 0, .int .i64 0, .int .i64 0, .int .i64 0, .int .i64 0, .int .i64 0, .slice none 0 0, .slice none 0 0, .slice none 0 0] 48)).alloc (.cells cs 48)).heap.size) := Lib.hid (by simp only [World.size_alloc]; omega)
  have HX1 := Lib.hid (((BoxC.new w 48 cs).up ((Up.refl _).alloc (.cells #[.int .i64 0, .string ByteArray.empty, .int .i64 0, .int .i64 0, .int .i64 0, .int .i64 0, .int .i64 0, .int .i64 0, .int .i64 0, .int .i64 0, .slice none 0 0, .slice none 0 0, .slice none 0 0] 48))).up ((Up.refl _).alloc (.cells cs 48)))
  have HZ1 := Lib.hid ((BoxC.new2 w (.cells cs 48) 48 #[.int .i64 0, .string ByteArray.empty, .int .i64 0, .int .i64 0, .int .i64 0, .int .i64 0, .int .i64 0, .int .i64 0, .int .i64 0, .int .i64 0, .slice none 0 0, .slice none 0 0, .slice none 0 0]).up ((Up.refl _).alloc (.cells cs 48)))
  have HR1 := Lib.hid (OwnF.box (base := w.heap.size) (show BoxC _ (w.heap.size + 1 + 1) _ _ from BoxC.new3 w (.cells cs 48) (.cells #[.int .i64 0, .string ByteArray.empty, .int .i64 0, .int .i64 0, .int .i64 0, .int .i64 0, .int .i64 0, .int .i64 0, .int .i64 0, .int .i64 0, .slice none 0 0, .slice none 0 0, .slice none 0 0] 48) 48 cs) HCS.out (by decide) (by omega))
  obtain ⟨W1, hW⟩ : ∃ W, ((w.alloc (.cells cs 48)).alloc (.cells #[.int .i64 0, .string ByteArray.empty, .int .i64 0, .int .i64 0, .int .i64 0, .int .i64 0, .int .i64 0, .int .i64 0, .int .i64 0, .int .i64 0, .slice none 0 0, .slice none 0 0, .slice none 0 0] 48)).alloc (.cells cs 48) = W := ⟨_, rfl⟩
  rw [hW] at HU1 HX1 HZ1 HR1 HB61 ⊢
  clear hW HFL HLD HU0
  have c9 := HX1.out.at p9 (by rw [HCS.out]; decide)
  have c10 := HX1.out.at e10 (by rw [HCS.out]; decide)
  clear p9 e10 e11 e12
  have bs := HX1.out.lt
  go_upto_region 6 with (first
    | (go_at_call 60; (with_reducible refine (HCL.out _ HU1.out).mono ?_); rintro e' W2 ⟨ua, uc, rfl, hy, hml⟩; have HW2 := Lib.hid hy; have HML := Lib.hid hml; clear hy hml; have HR2 := Lib.hid (own_up' HR1.out HW2.out); have HST := Lib.hid (show (Instr.storeAt 44 (.pointer (some ⟨w.heap.size + 1 + 1, 9, none⟩)) (.agg #[.int .i64 K, .slice ua mm uc])).run Tryz.prog W2 = .ok () (W2.setCells (w.heap.size + 1 + 1) 9 [.int .i64 K, .slice ua mm uc]) by have h1 := OwnF.store (P := Tryz.prog) (T := 44) (i := 0) (o := 9) (cells := #[.int .i64 K, .slice ua mm uc]) HR2.out (by decide) (by show 9 + 2 ≤ 13; decide) lin_info (by simp [Value.oneCell']); simpa using h1))
    | (refine st_store HST.out (by rfl) (by rfl) ?_))
  have HR3 := Lib.hid (show OwnF (W2.setCells (w.heap.size + 1 + 1) 9 [.int .i64 K, .slice ua mm uc]) w.heap.size 48 13 (.slice (some ⟨w.heap.size + 1 + 1, 0, none⟩) 1 1) 1 (putF (fun _ j => cs.getD j undef) 0 9 [.int .i64 K, .slice ua mm uc]) by have h1 := OwnF.put [.int .i64 K, .slice ua mm uc] HR2.out (i := 0) (o := 9) (by decide) (by show 9 + 2 ≤ 13; decide); simpa using h1)
  have hgb := setCells_by (w.heap.size + 1 + 1) [.int .i64 K, .slice ua mm uc] 9 W2
  have HU3 := Lib.hid ((HU1.out.trans HW2.out).grown' hgb (fun k e => by cases e; omega))
  have HX3 := Lib.hid ((HX1.out.up HW2.out).kept hgb (fun e => by have := Option.some.inj e; omega))
  have HZ3 := Lib.hid ((HZ1.out.up HW2.out).kept hgb (fun e => by have := Option.some.inj e; omega))
  have HL3 := Lib.hid (HML.out.to (Z := fun b => b < W1.heap.size ∨ W2.heap.size ≤ b) (Kp.of_by (X := fun b => b = w.heap.size + 1 + 1) hgb (fun g e => (Option.some.inj e).symm)) (fun i _ e => by have h1 := HR1.out; obtain ⟨g, c, e1, h2, h3⟩ := h1.ptr (by decide); cases e1; omega) (fun i hi h => by omega))
  obtain ⟨W3, hW⟩ : ∃ W, W2.setCells (w.heap.size + 1 + 1) 9 [.int .i64 K, .slice ua mm uc] = W := ⟨_, rfl⟩
  rw [hW] at HU3 HX3 HZ3 HR3 HL3 hgb ⊢
  have HS23 : Hid (W2.heap.size ≤ W3.heap.size) := Lib.hid hgb.size
  have HS12 := Lib.hid HW2.out.size
  clear hW hgb HST HR2 HX1 HZ1 HR1 HML HW2 c9 c10 bs HCL
  have c11 := HX3.out.at H11.out (by rw [HCS.out]; decide)
  have c12 := HX3.out.at H12.out (by rw [HCS.out]; decide)
  have bs := HX3.out.lt
  have HC1 := Lib.hid (clone_ix (.slice ia n1 ic) n1 F1 W3 (HS1.out.up HU3.out).here (fun i j hi hj => ixR_k.one w _ _ (HE1.out i (by rw [HN1.out]; exact hi)).here j hj) HB1.out)
  go_upto_region 8 with (first
    | (go_at_call 71; (with_reducible refine HC1.out.mono ?_); rintro e' W4 ⟨va, vc, rfl, hy, hro⟩; have HW4 := Lib.hid hy; have HRO := Lib.hid hro; clear hy hro; have HR4 := Lib.hid (own_up' HR3.out HW4.out); have q11 : W4.cell? ⟨w.heap.size + 1 + 1, 11, none⟩ = some (putF (fun _ j => cs.getD j undef) 0 9 [.int .i64 K, .slice ua mm uc] 0 11) := (by have h1 := OwnF.cell (i := 0) (j := 11) HR4.out (by decide) (by decide); simpa using h1); have qf := OwnF.frozen HR4.out (by decide) 11; have hz4 := HX3.out.up HW4.out; have z11 := hz4.at H11.out (by rw [HCS.out]; decide); clear hz4))
  have HR5 := Lib.hid (show OwnF (W4.setCell ⟨w.heap.size + 1 + 1, 11, none⟩ (.slice va n1 vc)) w.heap.size 48 13 (.slice (some ⟨w.heap.size + 1 + 1, 0, none⟩) 1 1) 1 (putF (putF (fun _ j => cs.getD j undef) 0 9 [.int .i64 K, .slice ua mm uc]) 0 11 [.slice va n1 vc]) by have h1 := OwnF.put [.slice va n1 vc] HR4.out (i := 0) (o := 11) (by decide) (by show 11 + 1 ≤ 13; decide); simpa [World.setCells] using h1)
  have hgb := set_by W4 (w.heap.size + 1 + 1) 11 (.slice va n1 vc)
  have HU5 := Lib.hid ((HU3.out.trans HW4.out).grown' hgb (fun k e => by cases e; omega))
  have HX5 := Lib.hid ((HX3.out.up HW4.out).kept hgb (fun e => by have := Option.some.inj e; omega))
  have HZ5 := Lib.hid ((HZ3.out.up HW4.out).kept hgb (fun e => by have := Option.some.inj e; omega))
  have hb6 : w.heap.size + 1 + 1 < W3.heap.size := by obtain ⟨g, c, e1, h2, h3⟩ := HR3.out.ptr (by decide); cases e1; exact h3
  have HB63 := Lib.hid hb6
  have HL5 := Lib.hid ((HL3.out.up HW4.out).to (Z := fun b => b < W1.heap.size ∨ W2.heap.size ≤ b) (Kp.of_by (X := fun b => b = w.heap.size + 1 + 1) hgb (fun g e => (Option.some.inj e).symm)) (fun i _ e => by have := HB61.out; omega) (fun i hi h => h))
  have HI5 := Lib.hid (show OwnF (W4.setCell ⟨w.heap.size + 1 + 1, 11, none⟩ (.slice va n1 vc)) W3.heap.size 81 4 (.slice va n1 vc) n1 F1 from own_kept HRO.out hgb (fun g hg e => by have := own_base HRO.out g hg; have := Option.some.inj e; omega))
  obtain ⟨W5, hW⟩ : ∃ W, W4.setCell ⟨w.heap.size + 1 + 1, 11, none⟩ (.slice va n1 vc) = W := ⟨_, rfl⟩
  have HS34 := Lib.hid HW4.out.size
  have HS45 : Hid (W4.heap.size ≤ W5.heap.size) := Lib.hid (by rw [← hW]; exact hgb.size)
  rw [hW] at HU5 HX5 HZ5 HR5 HL5 HI5 hgb ⊢
  have HE5 : Hid (∀ j (hj : j < ix.length), Fr (fun b => X b ∨ (w.heap.size ≤ b ∧ b < W5.heap.size)) (fun y => ixR y (F1 j) ix[j]) W5) := Lib.hid (fun j hj => ((HE1.out j hj).wide HU5.out).less fun i _ h => h.imp id fun h => h.1)
  have HVB : Hid (∀ g, (Value.slice va n1 vc).ownBlock = some g → W3.heap.size ≤ g ∧ g < W5.heap.size) := Lib.hid (fun g hg => ⟨own_base HI5.out g hg, own_lt HI5.out g hg⟩)
  clear hW hgb HR3 HR4 HX3 HZ3 HL3 HRO HW4 HC1 q11 qf z11 c11 c12 bs hb6 HB63
  have c12 := HX5.out.at H12.out (by rw [HCS.out]; decide)
  have bs := HX5.out.lt
  go_loopw [34] (fun iv wr => ∃ (i : Nat) (F : Nat → Nat → Value), iv = .int .i64 i ∧ i ≤ n1 ∧ Kp (fun b => (Value.slice va n1 vc).ownBlock = some b ∨ W5.heap.size ≤ b) W5 wr ∧ OwnF wr W3.heap.size 81 4 (.slice va n1 vc) n1 F ∧ ∀ j (hj : j < ix.length), Fr (fun b => X b ∨ (w.heap.size ≤ b ∧ b < W5.heap.size)) (fun y => ixR y (F j) ix[j]) wr) (fun iv _ => n1 - (intOf iv).toNat)
  case atStart => exact ⟨0, F1, rfl, Nat.zero_le _, Kp.refl _ _, HI5.out, HE5.out⟩
  case round =>
    rename World => wr
    obtain ⟨i, F, rfl, hi, hkp, hown, hel⟩ := hrel
    have HKP := Lib.hid hkp
    have HOW := Lib.hid hown
    have HEL := Lib.hid hel
    have hX35 : W3.heap.size ≤ W5.heap.size := by have h1 := HS34.out; have h2 := HS45.out; omega
    have hlow := own_base hown
    have HU := Lib.hid (hkp.after HU5.out fun b hb h => by rcases h with h | h; have := hlow b h; have := HS12.out; have := HS23.out; have := HB61.out; omega; have := HU5.out.size; omega)
    clear hkp hown hel HE5 HI5
    by_cases hlt : i < n1
    · have hltI : (i : Int) < n1 := by omega
      have hi1 : i < ix.length := by rw [HN1.out]; exact hlt
      obtain ⟨g1, vc', e1, hg1, hg1'⟩ := HOW.out.ptr (by omega)
      cases e1
      have hnK : ∀ b, b < W3.heap.size → ¬ ((Value.slice (some ⟨g1, 0, none⟩) n1 vc).ownBlock = some b ∨ W5.heap.size ≤ b) := fun b hb h => by rcases h with h | h; have := hlow b h; omega; omega
      have HXr := Lib.hid (show BoxC wr w.heap.size 48 cs from (HKP.out.block _ HX5.out.lt (hnK _ (by have := HS12.out; have := HS23.out; have := HB61.out; omega))).trans HX5.out)
      have HRr := Lib.hid (show OwnF wr w.heap.size 48 13 (.slice (some ⟨w.heap.size + 1 + 1, 0, none⟩) 1 1) 1 _ from own_kp HR5.out HKP.out (fun g e => by cases e; exact hnK (w.heap.size + 1 + 1) (by have := HS12.out; have := HS23.out; have := HB61.out; omega)))
      obtain ⟨g0, o0, ma, mc, ta, tc, rfl, hg0, hml, e2, hs2, hat, e3, hld⟩ := ix_elem HS1.out.here hlt (HE1.out i hi1)
      obtain ⟨x, hx⟩ : ∃ x, ix[i]'hi1 = x := ⟨_, rfl⟩
      rw [hx] at hml e2 hs2 hat e3 hld
      obtain ⟨⟨K2, ml2⟩, s2, at2⟩ := x
      dsimp only at hml e2 hs2 hat e3 hld
      obtain ⟨m2, hm2⟩ : ∃ q, ml2.length = q := ⟨_, rfl⟩
      obtain ⟨tn, htn⟩ : ∃ q, at2.length = q := ⟨_, rfl⟩
      rw [hm2] at hml hld
      rw [htn] at hat e3 hld
      have HXI := Lib.hid hx
      have HM2 := Lib.hid hm2
      have HTN := Lib.hid htn
      have HS2' := Lib.hid hs2
      have HAT := Lib.hid hat
      have HE2' := Lib.hid e2
      have HE3' := Lib.hid e3
      have hm2I : (m2 : Int) ≤ 140737488351232 := by have := hml.bytes; rw [hm2] at this; omega
      have htnI : (tn : Int) ≤ 140737488351232 := by have := hat.lsLen.2; rw [htn] at this; omega
      have HCL := Lib.hid (fun y (hy : Up w y) => ex_clo K2 _ ml2 m2 y (hml.up monR_up hy) hm2)
      have HLD := Lib.hid (hld wr HU.out)
      have HFL := Lib.hid (run_fill (P := Tryz.prog) (k := 4) ix_info wr (Z := #[.int .i64 0, .slice none 0 0, .string ByteArray.empty, .slice none 0 0]) (cs := #[.int .i64 K2, .slice ma m2 mc, .string s2, .slice ta tn tc]) rfl rfl (by simp [Value.oneCell']))
      have hg0' := Nat.lt_of_lt_of_le hg0 HU.out.size
      have c9 := HRr.out.cell (i := 0) (j := 11) (by decide) (by decide)
      clear hx hm2 htn hs2 hat e2 e3 hml hld hlow hnK c12 bs HX5 hg0
      go_upto_region 10 with (first
        | (refine st_load HLD.out (by rfl) ?_)
        | (refine st_store HFL.out (by rfl) (by rfl) ?_))
      have HUA := Lib.hid (HU.out.alloc (.cells #[.int .i64 K2, .slice ma m2 mc, .string s2, .slice ta tn tc] 81))
      have HAup := Lib.hid ((Up.refl wr).alloc (.cells #[.int .i64 K2, .slice ma m2 mc, .string s2, .slice ta tn tc] 81))
      have HBA := Lib.hid (BoxC.new wr 81 #[.int .i64 K2, .slice ma m2 mc, .string s2, .slice ta tn tc])
      have HXA := Lib.hid (HXr.out.up HAup.out)
      have HRA := Lib.hid (show OwnF (wr.alloc (.cells #[.int .i64 K2, .slice ma m2 mc, .string s2, .slice ta tn tc] 81)) w.heap.size 48 13 (.slice (some ⟨w.heap.size + 1 + 1, 0, none⟩) 1 1) 1 _ from own_up' HRr.out HAup.out)
      have HOA := Lib.hid (show OwnF (wr.alloc (.cells #[.int .i64 K2, .slice ma m2 mc, .string s2, .slice ta tn tc] 81)) W3.heap.size 81 4 (.slice (some ⟨g1, 0, none⟩) n1 vc) n1 F from own_up' HOW.out HAup.out)
      obtain ⟨Wa, hW⟩ : ∃ W, wr.alloc (.cells #[.int .i64 K2, .slice ma m2 mc, .string s2, .slice ta tn tc] 81) = W := ⟨_, rfl⟩
      have HWAS : Hid (Wa.heap.size = wr.heap.size + 1) := Lib.hid (by rw [← hW, World.size_alloc])
      rw [hW] at HUA HAup HBA HXA HRA HOA ⊢
      have s11 : Wa.cell? ⟨w.heap.size + 1 + 1, 11, none⟩ = some (.slice (some ⟨g1, 0, none⟩) n1 vc) := by
        have h1 := OwnF.cell (i := 0) (j := 11) HRA.out (by decide) (by decide)
        rw [putF_in (by decide) (by show 11 < 11 + 1; decide)] at h1
        simpa using h1
      have d0 : Wa.cell? ⟨wr.heap.size, 0, none⟩ = some (.int .i64 K2) := cell_of_row _ _ _ _ _ _ HBA.out
      have d1 : Wa.cell? ⟨wr.heap.size, 1, none⟩ = some (.slice ma m2 mc) := cell_of_row _ _ _ _ _ _ HBA.out
      have ds := HBA.out.lt
      have b6l : w.heap.size + 1 + 1 < Wa.heap.size := by obtain ⟨g, c, e1, h2, h3⟩ := OwnF.ptr HRA.out (by decide); cases e1; exact h3
      clear hW HFL HLD hg0' c9
      refine wp_region_late 12 9 _ (fun _ _ v x => ∃ a c, v = .tuple #[.agg #[.int .i64 K2, .slice a m2 c], .int .i64 0] ∧ Fr (fun b => b < Wa.heap.size) (fun y => LsAt 2 24 monR y (.slice a m2 c) ml2) x) (by kernel_rfl) (by kernel_rfl) rfl ?_
      simp only [List.take_succ_cons, List.take_zero, List.drop_succ_cons, List.drop_zero, Act.put]
      iterate 6 (refine wpMk_quiet anti_post (by kernel_rfl) ?_; go_big_quiet_step (fail); refine wpQuiet_nil ?_)
      refine wpMk_enter anti_post 60 #[.agg #[.int .i64 K2, .slice ma m2 mc]] (fun v x y ⟨a3, c3, h1, h2⟩ hu => ⟨a3, c3, h1, h2.up hu⟩) (by kernel_rfl) (fun x => by go_simp) (fun x hx => (HCL.out x (HUA.out.trans hx)).mono fun e w' ⟨a, c, h1, h2, h3⟩ => ⟨_, h1, h2, a, c, rfl, h3.less fun i _ h => Nat.lt_of_lt_of_le h hx.size⟩) ?_
      rintro v ⟨y, hy, ua2, uc2, rfl, -⟩
      simp only [Act.put, List.setIfInBounds_toArray, List.set_cons_succ, List.set_cons_zero]
      iterate 5 (refine wpMk_quiet anti_post (by kernel_rfl) ?_; go_big_quiet_step (fail); refine wpQuiet_nil ?_)
      refine wpMk_nil ?_
      rintro z hz ⟨-, a4, c4, hR, hF⟩
      simp only [Value.tuple.injEq, Value.agg.injEq, Array.mk.injEq, List.cons.injEq, Value.slice.injEq, true_and, and_true] at hR
      obtain ⟨rfl, rfl⟩ := hR
      have HZ := Lib.hid hz
      have HF := Lib.hid hF
      have HOZ := Lib.hid (show OwnF z W3.heap.size 81 4 (.slice (some ⟨g1, 0, none⟩) n1 vc) n1 F from own_up' HOA.out hz)
      have HST := Lib.hid (OwnF.store (P := Tryz.prog) (T := 44) (i := i) (o := 0) (cells := #[.int .i64 K2, .slice ua2 m2 uc2]) HOZ.out hlt (by show 0 + 2 ≤ 4; decide) lin_info (by simp [Value.oneCell']))
      clear hz hF hy
      refine outL_store HST.out (by rfl) (by rfl) ?_
      simp only [Act.put]
      have hgbz := setCells_by g1 [.int .i64 K2, .slice ua2 m2 uc2] (i * 4 + 0) z
      have HGW := Lib.hid (HVB.out g1 rfl)
      have hgl : w.heap.size + 1 + 1 < g1 := by have h1 := HGW.out.1; have h2 := HS12.out; have h3 := HS23.out; have h4 := HB61.out; omega
      have hg1w : g1 < wr.heap.size := hg1'
      have hWz := HZ.out.size
      have hWaw := HWAS.out
      have HUB := Lib.hid ((HUA.out.trans HZ.out).grown' hgbz (fun k e => by cases e; omega))
      have HXB := Lib.hid ((HXA.out.up HZ.out).kept hgbz (fun e => by have := Option.some.inj e; omega))
      have HBB := Lib.hid ((HBA.out.up HZ.out).kept hgbz (fun e => by have := Option.some.inj e; omega))
      have HRB := Lib.hid (show OwnF (z.setCells g1 (i * 4 + 0) [.int .i64 K2, .slice ua2 m2 uc2]) w.heap.size 48 13 (.slice (some ⟨w.heap.size + 1 + 1, 0, none⟩) 1 1) 1 _ from own_kept (own_up' HRA.out HZ.out) hgbz (fun g e h => by cases e; have := Option.some.inj h; dsimp only at this; omega))
      have HOB := Lib.hid (OwnF.put [.int .i64 K2, .slice ua2 m2 uc2] HOZ.out (i := i) (o := 0) hlt (by show 0 + 2 ≤ 4; decide))
      have HKB := Lib.hid (((Kp.of_up (X := fun b => b = g1 ∨ wr.heap.size ≤ b) (HAup.out.trans HZ.out)).trans (Kp.of_by (X := fun b => b = g1 ∨ wr.heap.size ≤ b) hgbz (fun g e => .inl (Option.some.inj e).symm)) (fun _ _ h => h) (fun _ _ h => h) : Kp (fun b => b = g1 ∨ wr.heap.size ≤ b) wr _))
      have HLB := Lib.hid (HF.out.to (Z := fun b => b < Wa.heap.size ∨ z.heap.size ≤ b) (Kp.of_by (X := fun b => b = g1) hgbz (fun g e => (Option.some.inj e).symm)) (fun j _ e => by omega) (fun j hj h => by omega))
      obtain ⟨F3, hS3, hE3⟩ := Fr.ls linR_k (by decide) HAT.out
      rw [HTN.out] at hS3
      have HS3 := Lib.hid hS3.here
      have HE3 := Lib.hid hE3
      obtain ⟨Wb, hW⟩ : ∃ W, z.setCells g1 (i * 4 + 0) [.int .i64 K2, .slice ua2 m2 uc2] = W := ⟨_, rfl⟩
      have HSB : Hid (z.heap.size ≤ Wb.heap.size) := Lib.hid (by rw [← hW]; exact hgbz.size)
      have hW' : z.setCells g1 (i * 4 + 0) (#[.int .i64 K2, .slice ua2 m2 uc2] : Array Value).toList = Wb := hW
      rw [hW'] 
      rw [hW] at HUB HXB HBB HRB HOB HKB HLB
      have HZS := Lib.hid hWz
      clear hW hW' hgbz hS3 hE3 HOZ HST HF HXA HBA HRA HOA HUA HXr HRr HOW s11 d0 d1 ds b6l hWz hWaw
      have s11 : Wb.cell? ⟨w.heap.size + 1 + 1, 11, none⟩ = some (.slice (some ⟨g1, 0, none⟩) n1 vc) := by
        have h1 := OwnF.cell (i := 0) (j := 11) HRB.out (by decide) (by decide)
        rw [putF_in (by decide) (by show 11 < 11 + 1; decide)] at h1
        simpa using h1
      have d3 : Wb.cell? ⟨wr.heap.size, 3, none⟩ = some (.slice ta tn tc) := cell_of_row _ _ _ _ _ _ HBB.out
      have ds := HBB.out.lt
      have b6l : w.heap.size + 1 + 1 < Wb.heap.size := by omega
      have HCI := Lib.hid (fun y (hy : Up Wb y) => clone_lin (.slice ta tn tc) tn F3 y (HS3.out.up (HUB.out.trans hy)) (fun k j hk hj => linR_k.one w _ _ (HE3.out k (by rw [HTN.out]; exact hk)).here j hj) (by have h1 := HAT.out.lsLen.2; rw [HTN.out] at h1; exact h1))
      go_upto_region 13 with (fail)
      refine wp_region_mk 8 (fun _ _ v x => ∃ a c, v = .slice a tn c ∧ OwnF x Wb.heap.size 44 2 (.slice a tn c) tn F3) (by kernel_rfl) (by kernel_rfl) ?_
      simp only [List.take_succ_cons, List.take_zero, List.drop_succ_cons, List.drop_zero, Act.put]
      iterate 5 (refine wpMk_quiet anti_post (by kernel_rfl) ?_; go_big_quiet_step (fail); refine wpQuiet_nil ?_)
      refine wpMk_enter anti_post 72 #[.slice ta tn tc] (fun v x y ⟨a3, c3, h1, h2⟩ hu => ⟨a3, c3, h1, own_up' h2 hu⟩) (by kernel_rfl) (fun x => by go_simp) (fun x hx => (HCI.out x hx).mono fun e w' ⟨a, c, h1, h2, h3⟩ => ⟨_, h1, h2, a, c, rfl, own_from h3 _ hx.size⟩) ?_
      rintro v ⟨y, hy, ra, rc, rfl, -⟩
      simp only [Act.put, List.setIfInBounds_toArray, List.set_cons_succ, List.set_cons_zero]
      iterate 2 (refine wpMk_quiet anti_post (by kernel_rfl) ?_; go_big_quiet_step (fail); refine wpQuiet_nil ?_)
      refine wpMk_nil ?_
      rintro z2 hz2 ⟨-, a4, c4, hR, hF⟩
      simp only [Value.slice.injEq, true_and, and_true] at hR
      obtain ⟨rfl, rfl⟩ := hR
      have HZ2 := Lib.hid hz2
      have HD2 := Lib.hid hF
      have HO2 := Lib.hid (show OwnF z2 W3.heap.size 81 4 (.slice (some ⟨g1, 0, none⟩) n1 vc) n1 _ from own_up' HOB.out hz2)
      have k3 := OwnF.cell HO2.out hlt (show 3 < 4 by decide)
      have kf := OwnF.frozen HO2.out (by omega) (i * 4 + 3)
      clear hz2 hF hy s11 d3 ds b6l
      have HB2' := Lib.hid (HBB.out.up HZ2.out)
      have d3 : z2.cell? ⟨wr.heap.size, 3, none⟩ = some (.slice ta tn tc) := cell_of_row _ _ _ _ _ _ HB2'.out
      go_upto_region 15 with (fail)
      have hgbz := set_by z2 g1 (i * 4 + 3) (.slice ra tn rc)
      have hzz := HZ2.out.size
      have hzb := HSB.out
      have hzs := HZS.out
      have hwa := HWAS.out
      have hg5 := HGW.out.2
      have HUC := Lib.hid ((HUB.out.trans HZ2.out).grown' hgbz (fun k e => by cases e; omega))
      have HXC := Lib.hid ((HXB.out.up HZ2.out).kept hgbz (fun e => by have := Option.some.inj e; omega))
      have HBC := Lib.hid (HB2'.out.kept hgbz (fun e => by have := Option.some.inj e; omega))
      have HRC := Lib.hid (show OwnF (z2.setCell ⟨g1, i * 4 + 3, none⟩ (.slice ra tn rc)) w.heap.size 48 13 (.slice (some ⟨w.heap.size + 1 + 1, 0, none⟩) 1 1) 1 _ from own_kept (own_up' HRB.out HZ2.out) hgbz (fun g e h => by cases e; have := Option.some.inj h; dsimp only at this; omega))
      have HOC := Lib.hid (show OwnF (z2.setCell ⟨g1, i * 4 + 3, none⟩ (.slice ra tn rc)) W3.heap.size 81 4 (.slice (some ⟨g1, 0, none⟩) n1 vc) n1 (putF (putF F i 0 [.int .i64 K2, .slice ua2 m2 uc2]) i 3 [.slice ra tn rc]) from OwnF.put [.slice ra tn rc] HO2.out (i := i) (o := 3) hlt (by show 3 + 1 ≤ 4; decide))
      have hdl := own_base HD2.out
      have hdu := own_lt HD2.out
      have HDC := Lib.hid (show OwnF (z2.setCell ⟨g1, i * 4 + 3, none⟩ (.slice ra tn rc)) Wb.heap.size 44 2 (.slice ra tn rc) tn F3 from own_kept HD2.out hgbz (fun g e h => by have h1 := hdl g e; have h2 := Option.some.inj h; omega))
      have HKC := Lib.hid (((HKB.out.trans (Kp.of_up (X := fun b => b = g1 ∨ wr.heap.size ≤ b) HZ2.out) (fun _ _ h => h) (fun _ _ h => h)).trans (Kp.of_by (X := fun b => b = g1 ∨ wr.heap.size ≤ b) hgbz (fun g e => .inl (Option.some.inj e).symm)) (fun _ _ h => h) (fun _ _ h => h) : Kp (fun b => b = g1 ∨ wr.heap.size ≤ b) wr _))
      have HLC := Lib.hid ((HLB.out.up HZ2.out).to (Z := fun b => b < Wa.heap.size ∨ z.heap.size ≤ b) (Kp.of_by (X := fun b => b = g1) hgbz (fun g e => (Option.some.inj e).symm)) (fun j _ e => by omega) (fun j hj h => h))
      obtain ⟨Wc, hW⟩ : ∃ W, z2.setCell ⟨g1, i * 4 + 3, none⟩ (.slice ra tn rc) = W := ⟨_, rfl⟩
      have HSC : Hid (z2.heap.size ≤ Wc.heap.size) := Lib.hid (by rw [← hW]; exact hgbz.size)
      have HDV : Hid (∀ g, (Value.slice ra tn rc).ownBlock = some g → Wb.heap.size ≤ g ∧ g < Wc.heap.size) := Lib.hid (fun g e => ⟨hdl g e, Nat.lt_of_lt_of_le (hdu g e) HSC.out⟩)
      rw [hW] at HUC HXC HBC HRC HOC HDC HKC HLC ⊢
      have HE7 : Hid (∀ k (hk : k < at2.length), Fr (fun b => X b ∨ (w.heap.size ≤ b ∧ b < Wc.heap.size)) (fun y => linR y (F3 k) at2[k]) Wc) := Lib.hid (fun k hk => ((HE3.out k hk).wide HUC.out).less fun i _ h => h.imp id fun h => h.1)
      have HZB := Lib.hid hzz
      clear hW hgbz hzz hzb hzs hwa hg5 hdl hdu HD2 HO2 HB2' HLB HKB HXB HRB HOB HBB HUB HCI d3 k3 kf HE3
      go_loopw [66] (fun kv y => ∃ (k : Nat) (G : Nat → Nat → Value), kv = .int .i64 k ∧ k ≤ tn ∧ Kp (fun b => (Value.slice ra tn rc).ownBlock = some b ∨ Wc.heap.size ≤ b) Wc y ∧ OwnF y Wb.heap.size 44 2 (.slice ra tn rc) tn G ∧ ∀ j (hj : j < at2.length), Fr (fun b => X b ∨ (w.heap.size ≤ b ∧ b < Wc.heap.size)) (fun z => linR z (G j) at2[j]) y) (fun kv _ => tn - (intOf kv).toNat)
      case atStart => exact ⟨0, F3, rfl, Nat.zero_le _, Kp.refl _ _, HDC.out, HE7.out⟩
      case round =>
        rename World => y
        obtain ⟨k, G, rfl, hk, hkp, hown, hel⟩ := hrel
        have HKY := Lib.hid hkp
        have HGY := Lib.hid hown
        have HEY := Lib.hid hel
        have hwc := HUC.out.size
        have hwb : wr.heap.size < Wb.heap.size := by have h1 := HWAS.out; have h2 := HZS.out; have h3 := HSB.out; omega
        have hbc : Wb.heap.size ≤ Wc.heap.size := by have h1 := HZB.out; have h2 := HSC.out; omega
        have hnK : ∀ b, b < Wb.heap.size → ¬ ((Value.slice ra tn rc).ownBlock = some b ∨ Wc.heap.size ≤ b) := fun b hb h => by rcases h with h | h; have := (HDV.out b h).1; omega; omega
        have hw0 : w.heap.size + 1 + 1 < g1 := hgl
        have HUY := Lib.hid (hkp.after HUC.out fun b hb => hnK b (by omega))
        have HXY := Lib.hid (show BoxC y w.heap.size 48 cs from (HKY.out.block _ HXC.out.lt (hnK _ (by omega))).trans HXC.out)
        have HBY := Lib.hid (show BoxC y wr.heap.size 81 #[.int .i64 K2, .slice ma m2 mc, .string s2, .slice ta tn tc] from (HKY.out.block _ HBC.out.lt (hnK _ (by omega))).trans HBC.out)
        have HRY := Lib.hid (show OwnF y w.heap.size 48 13 (.slice (some ⟨w.heap.size + 1 + 1, 0, none⟩) 1 1) 1 _ from own_kp HRC.out HKY.out (fun g e => by cases e; exact hnK (w.heap.size + 1 + 1) (by omega)))
        have HOY := Lib.hid (show OwnF y W3.heap.size 81 4 (.slice (some ⟨g1, 0, none⟩) n1 vc) n1 _ from own_kp HOC.out HKY.out (fun g e => by cases e; exact hnK g1 (by omega)))
        clear hkp hown hel HE7 HDC
        by_cases hlk : k < tn
        · have hlkI : (k : Int) < tn := by omega
          have hk1 : k < at2.length := by rw [HTN.out]; exact hlk
          obtain ⟨hh, rc', e1, hh1, hh2⟩ := HGY.out.ptr (by omega)
          cases e1
          obtain ⟨g3, o3, la3, lc3, rfl, hg3, hm3, hld⟩ := HAT.out.here.ln k hk1
          obtain ⟨x3, hx3⟩ : ∃ x, at2[k]'hk1 = x := ⟨_, rfl⟩
          rw [hx3] at hm3 hld
          obtain ⟨K3, ml3⟩ := x3
          dsimp only at hm3 hld
          obtain ⟨m3, hm3'⟩ : ∃ q, ml3.length = q := ⟨_, rfl⟩
          rw [hm3'] at hm3 hld
          have HX3' := Lib.hid hx3
          have hm3I : (m3 : Int) ≤ 140737488351232 := by have := hm3.bytes; rw [hm3'] at this; omega
          have HC3 := Lib.hid (fun u (hu : Up w u) => ex_clo K3 _ ml3 m3 u (hm3.up monR_up hu) hm3')
          have HLD := Lib.hid (hld y HUY.out)
          have HFL := Lib.hid (run_fill (P := Tryz.prog) (k := 2) lin_info y (Z := #[.int .i64 0, .slice none 0 0]) (cs := #[.int .i64 K3, .slice la3 m3 lc3]) rfl rfl (by simp [Value.oneCell']))
          have hg3' := Nat.lt_of_lt_of_le hg3 HUY.out.size
          have d3 : y.cell? ⟨wr.heap.size, 3, none⟩ = some (.slice (some ⟨g3, o3, none⟩) tn tc) := cell_of_row _ _ _ _ _ _ HBY.out
          have HKW := Lib.hid hnK
          clear hx3 hm3 hld hm3' hg3 hnK
          go_upto_region 17 with (first
            | (refine st_load HLD.out (by rfl) ?_)
            | (refine st_store HFL.out (by rfl) (by rfl) ?_))
          have HAY := Lib.hid ((Up.refl y).alloc (.cells #[.int .i64 K3, .slice la3 m3 lc3] 44))
          have HBD := Lib.hid (BoxC.new y 44 #[.int .i64 K3, .slice la3 m3 lc3])
          obtain ⟨Wd, hW⟩ : ∃ W, y.alloc (.cells #[.int .i64 K3, .slice la3 m3 lc3] 44) = W := ⟨_, rfl⟩
          have HWD : Hid (Wd.heap.size = y.heap.size + 1) := Lib.hid (by rw [← hW, World.size_alloc])
          rw [hW] at HAY HBD ⊢
          have HRD := Lib.hid (show OwnF Wd w.heap.size 48 13 (.slice (some ⟨w.heap.size + 1 + 1, 0, none⟩) 1 1) 1 _ from own_up' HRY.out HAY.out)
          have HOD := Lib.hid (show OwnF Wd W3.heap.size 81 4 (.slice (some ⟨g1, 0, none⟩) n1 vc) n1 _ from own_up' HOY.out HAY.out)
          have HGD := Lib.hid (show OwnF Wd Wb.heap.size 44 2 (.slice (some ⟨hh, 0, none⟩) tn rc) tn G from own_up' HGY.out HAY.out)
          have s11 : Wd.cell? ⟨w.heap.size + 1 + 1, 11, none⟩ = some (.slice (some ⟨g1, 0, none⟩) n1 vc) := by
            have h1 := OwnF.cell (i := 0) (j := 11) HRD.out (by decide) (by decide)
            rw [putF_in (by decide) (by show 11 < 11 + 1; decide)] at h1
            simpa using h1
          have r3 : Wd.cell? ⟨g1, i * 4 + 3, none⟩ = some (.slice (some ⟨hh, 0, none⟩) tn rc) := by
            have h1 := OwnF.cell (j := 3) HOD.out hlt (by decide)
            rw [putF_in (by decide) (by show 3 < 3 + 1; decide)] at h1
            simpa using h1
          have d0 : Wd.cell? ⟨y.heap.size, 0, none⟩ = some (.int .i64 K3) := cell_of_row _ _ _ _ _ _ HBD.out
          have d1 : Wd.cell? ⟨y.heap.size, 1, none⟩ = some (.slice la3 m3 lc3) := cell_of_row _ _ _ _ _ _ HBD.out
          have ds := HBD.out.lt
          have hwd := HWD.out
          have hys := HKY.out.size
          have b6l : w.heap.size + 1 + 1 < Wd.heap.size := by omega
          have g1l : g1 < Wd.heap.size := by omega
          have hhl : hh < Wd.heap.size := by omega
          have hys2 : y.heap.size ≤ Wd.heap.size := by omega
          clear hW HFL HLD hg3' d3 hwd
          refine wp_region_late 14 12 _ (fun _ _ v x => ∃ a c, v = .tuple #[.agg #[.int .i64 K3, .slice a m3 c], .int .i64 0] ∧ Fr (fun b => b < Wd.heap.size) (fun y => LsAt 2 24 monR y (.slice a m3 c) ml3) x) (by kernel_rfl) (by kernel_rfl) rfl ?_
          simp only [List.take_succ_cons, List.take_zero, List.drop_succ_cons, List.drop_zero, Act.put]
          iterate 9 (refine wpMk_quiet anti_post (by kernel_rfl) ?_; go_big_quiet_step (fail); refine wpQuiet_nil ?_)
          refine wpMk_enter anti_post 60 #[.agg #[.int .i64 K3, .slice la3 m3 lc3]] (fun v x y ⟨a3, c3, h1, h2⟩ hu => ⟨a3, c3, h1, h2.up hu⟩) (by kernel_rfl) (fun x => by go_simp) (fun x hx => (HC3.out x ((HUY.out.trans HAY.out).trans hx)).mono fun e w' ⟨a, c, h1, h2, h3⟩ => ⟨_, h1, h2, a, c, rfl, h3.less fun i _ h => Nat.lt_of_lt_of_le h hx.size⟩) ?_
          rintro v ⟨y', hy', ua3, uc3, rfl, -⟩
          simp only [Act.put, List.setIfInBounds_toArray, List.set_cons_succ, List.set_cons_zero]
          iterate 4 (refine wpMk_quiet anti_post (by kernel_rfl) ?_; go_big_quiet_step (fail); refine wpQuiet_nil ?_)
          refine wpMk_nil ?_
          rintro z3 hz3 ⟨-, a4, c4, hR, hF⟩
          simp only [Value.tuple.injEq, Value.agg.injEq, Array.mk.injEq, List.cons.injEq, Value.slice.injEq, true_and, and_true] at hR
          obtain ⟨rfl, rfl⟩ := hR
          have HZ3 := Lib.hid hz3
          have HF := Lib.hid hF
          have HGZ := Lib.hid (show OwnF z3 Wb.heap.size 44 2 (.slice (some ⟨hh, 0, none⟩) tn rc) tn G from own_up' HGD.out hz3)
          have HST := Lib.hid (OwnF.store (P := Tryz.prog) (T := 44) (i := k) (o := 0) (cells := #[.int .i64 K3, .slice ua3 m3 uc3]) HGZ.out hlk (by show 0 + 2 ≤ 2; decide) lin_info (by simp [Value.oneCell']))
          clear hz3 hF hy' s11 r3 d0 d1 ds b6l
          refine outL_store HST.out (by rfl) (by rfl) ?_
          simp only [Act.put]
          have hgbz := setCells_by hh [.int .i64 K3, .slice ua3 m3 uc3] (k * 2 + 0) z3
          have hz3s := HZ3.out.size
          have HGE := Lib.hid (OwnF.put [.int .i64 K3, .slice ua3 m3 uc3] HGZ.out (i := k) (o := 0) hlk (by show 0 + 2 ≤ 2; decide))
          have hhC : hh < Wc.heap.size := (HDV.out hh rfl).2
          have HKE := Lib.hid (((HKY.out.trans (Kp.of_up (X := fun b => (Value.slice (some ⟨hh, 0, none⟩) tn rc).ownBlock = some b ∨ Wc.heap.size ≤ b) (HAY.out.trans HZ3.out)) (fun _ _ h => h) (fun _ _ h => h)).trans (Kp.of_by (X := fun b => (Value.slice (some ⟨hh, 0, none⟩) tn rc).ownBlock = some b ∨ Wc.heap.size ≤ b) hgbz (fun g e => .inl e)) (fun _ _ h => h) (fun _ _ h => h) : Kp (fun b => (Value.slice (some ⟨hh, 0, none⟩) tn rc).ownBlock = some b ∨ Wc.heap.size ≤ b) Wc _))
          have HEE : Hid (∀ j (hj : j < at2.length), Fr (fun b => X b ∨ (w.heap.size ≤ b ∧ b < Wc.heap.size)) (fun z => linR z (putF G k 0 [.int .i64 K3, .slice ua3 m3 uc3] j) at2[j]) (z3.setCells hh (k * 2 + 0) [.int .i64 K3, .slice ua3 m3 uc3])) := Lib.hid (fun j hj => by
            have hk' : Kp (fun b => b = hh) z3 (z3.setCells hh (k * 2 + 0) [.int .i64 K3, .slice ua3 m3 uc3]) := Kp.of_by hgbz (fun g e => (Option.some.inj e).symm)
            by_cases e : j = k
            · subst e
              have hl : Fr (fun b => X b ∨ (w.heap.size ≤ b ∧ b < Wc.heap.size)) (fun z => LsAt 2 24 monR z (.slice ua3 m3 uc3) ml3) (z3.setCells hh (j * 2 + 0) [.int .i64 K3, .slice ua3 m3 uc3]) := HF.out.to hk' (fun b _ e => by omega) (fun b _ e => by rcases e with e | e; have := HX.out b e; omega; omega)
              rw [HX3'.out]
              exact hl.mono fun z h => ⟨by rw [putF_in (by decide) (by show 0 < 0 + 2; decide)]; rfl, by rw [putF_in (by decide) (by show 1 < 0 + 2; decide)]; exact h⟩
            · rw [putF_other e]
              exact (((HEY.out j hj).up (HAY.out.trans HZ3.out)).kp hk' (fun b _ e => .inr (by omega))))
          obtain ⟨We, hW⟩ : ∃ W, z3.setCells hh (k * 2 + 0) [.int .i64 K3, .slice ua3 m3 uc3] = W := ⟨_, rfl⟩
          have hW' : z3.setCells hh (k * 2 + 0) (#[.int .i64 K3, .slice ua3 m3 uc3] : Array Value).toList = We := hW
          rw [hW']
          rw [hW] at HGE HKE HEE
          clear hW hW' hgbz
          go_wp2
          go_roundw
          case rel => exact ⟨k + 1, _, by go_num, by omega, HKE.out, HGE.out, HEE.out⟩
          case measure => simp [intOf]; omega
        · obtain rfl : tn = k := by omega
          have hu5 := HU5.out.size
          have hg5 := HVB.out g1 rfl
          have h5r := HKP.out.size
          have hwa := HWAS.out
          have hzs := HZS.out
          have hzb := HSB.out
          have HKE := Lib.hid (HKC.out.trans HKY.out (Z := fun b => b = g1 ∨ wr.heap.size ≤ b) (fun _ _ h => h) (fun b hb h => absurd h (hnK b (by omega))))
          have HKF := Lib.hid (HKP.out.trans HKE.out (Z := fun b => (Value.slice (some ⟨g1, 0, none⟩) n1 vc).ownBlock = some b ∨ W5.heap.size ≤ b) (fun _ _ h => h) (fun b hb h => by rcases h with h | h; exact .inl (by rw [h]; rfl); exact .inr (by omega)))
          have HEF : Hid (∀ j (hj : j < ix.length), Fr (fun b => X b ∨ (w.heap.size ≤ b ∧ b < W5.heap.size)) (fun z => ixR z (putF (putF F i 0 [.int .i64 K2, .slice ua2 m2 uc2]) i 3 [.slice ra tn rc] j) ix[j]) y) := Lib.hid (fun j hj => by
            by_cases e : j = i
            · subst e
              have hx0 := HXI.out
              have h2 := (HEL.out j hj).here.2.1
              rw [hx0] at h2 ⊢
              have hl : Fr (fun b => X b ∨ (w.heap.size ≤ b ∧ b < W5.heap.size)) (fun z => LsAt 2 24 monR z (.slice ua2 m2 uc2) ml2) y := HLC.out.to HKY.out (fun b hb e => by rcases e with e | e; have := (HDV.out b e).1; omega; omega) (fun b hb e => by rcases e with e | e; have := HX.out b e; omega; omega)
              have ha : Fr (fun b => X b ∨ (w.heap.size ≤ b ∧ b < W5.heap.size)) (fun z => LsAt 2 32 linR z (.slice ra tn rc) at2) y := Fr.mkLs ⟨ra, rc, by rw [HTN.out], by rw [HTN.out]; exact own_cap HGY.out⟩ (HAT.out.lsLen.2) (by rw [HTN.out]; exact own_fr HGY.out (by omega) (fun g hg hX => by have h1 := (HDV.out g hg).1; rcases hX with hX | hX; have := HX.out g hX; omega; omega)) (fun q hq => (HEY.out q hq).less fun b _ e => e.imp id fun e => ⟨e.1, by omega⟩)
              intro z hz
              refine ⟨⟨?_, ?_⟩, ⟨?_, h2.2⟩, ?_⟩
              · rw [putF_out (by omega), putF_in (by decide) (by show 0 < 0 + 2; decide)]; rfl
              · rw [putF_out (by omega), putF_in (by decide) (by show 1 < 0 + 2; decide)]; exact hl z hz
              · rw [putF_out (by omega), putF_out (by show ¬ (0 ≤ 2 ∧ 2 < 0 + 2); omega)]; exact h2.1
              · rw [putF_in (by decide) (by show 3 < 3 + 1; decide)]; exact ha z hz
            · rw [putF_other e, putF_other e]
              exact (HEL.out j hj).kp HKE.out (fun b hb e => .inr (by rcases e with e | e; omega; omega)))
          clear hnK hu5 hg5 h5r hwa hzs hzb
          go_wp2
          go_roundw
          case rel => exact ⟨i + 1, _, by go_num, by omega, HKF.out, HOY.out, HEF.out⟩
          case measure => simp [intOf]; omega
    · obtain rfl : n1 = i := by omega
      have hlow3 := HU3.out.size
      have h61 := HB61.out
      have h12 := HS12.out
      have h23 := HS23.out
      have h5r := HKP.out.size
      have hnK : ∀ b, b < W3.heap.size → ¬ ((Value.slice va n1 vc).ownBlock = some b ∨ W5.heap.size ≤ b) := fun b hb h => by rcases h with h | h; have := hlow b h; omega; omega
      have HXr := Lib.hid (show BoxC wr w.heap.size 48 cs from (HKP.out.block _ HX5.out.lt (hnK _ (by omega))).trans HX5.out)
      have HZr := Lib.hid (show BoxC wr (w.heap.size + 1) 48 #[.int .i64 0, .string ByteArray.empty, .int .i64 0, .int .i64 0, .int .i64 0, .int .i64 0, .int .i64 0, .int .i64 0, .int .i64 0, .int .i64 0, .slice none 0 0, .slice none 0 0, .slice none 0 0] from (HKP.out.block _ HZ5.out.lt (hnK _ (by omega))).trans HZ5.out)
      have HRr := Lib.hid (show OwnF wr w.heap.size 48 13 (.slice (some ⟨w.heap.size + 1 + 1, 0, none⟩) 1 1) 1 _ from own_kp HR5.out HKP.out (fun g e => by cases e; exact hnK (w.heap.size + 1 + 1) (by omega)))
      have HLr := Lib.hid (HL5.out.to (Z := fun b => b < W1.heap.size ∨ W2.heap.size ≤ b) HKP.out (fun b hb e => by rcases e with e | e; have := hlow b e; omega; omega) (fun _ _ h => h))
      have HIr := Lib.hid (HEL.out)
      have c12 := HXr.out.at H12.out (by rw [HCS.out]; decide)
      have bs := HXr.out.lt
      have HB6r : Hid (w.heap.size + 1 + 1 < wr.heap.size) := Lib.hid (by omega)
      have HS5r : Hid (W5.heap.size ≤ wr.heap.size) := Lib.hid h5r
      clear hlow hnK HX5 HZ5 HR5 HL5 hlow3 h61 h12 h23 h5r hX35
      have HC2 := Lib.hid (clone_ex (.slice aa n2 ac) n2 F2 wr (HS2.out.up HU.out).here (fun i j hi hj => (exR_k n).one w _ _ (HE2.out i (by rw [HN2.out]; exact hi)).here j hj) HB2.out)
      go_upto_region 24 with (first
        | (go_at_call 73; (with_reducible refine HC2.out.mono ?_); rintro e' W6 ⟨wa, wc, rfl, hy, hro⟩; have HW6 := Lib.hid hy; have HRO := Lib.hid hro; clear hy hro; have HR6 := Lib.hid (own_up' HRr.out HW6.out); have q12 : W6.cell? ⟨w.heap.size + 1 + 1, 12, none⟩ = some (putF (putF (fun _ j => cs.getD j undef) 0 9 [.int .i64 K, .slice ua mm uc]) 0 11 [.slice va n1 vc] 0 12) := (by have h1 := OwnF.cell (i := 0) (j := 12) HR6.out (by decide) (by decide); simpa using h1); have qf := OwnF.frozen HR6.out (by decide) 12; have hz4 := HXr.out.up HW6.out; have z12 := hz4.at H12.out (by rw [HCS.out]; decide); clear hz4))
      have hgb := set_by W6 (w.heap.size + 1 + 1) 12 (.slice wa n2 wc)
      have h6r := HB6r.out
      have hws := HW6.out.size
      have HR7 := Lib.hid (show OwnF (W6.setCell ⟨w.heap.size + 1 + 1, 12, none⟩ (.slice wa n2 wc)) w.heap.size 48 13 (.slice (some ⟨w.heap.size + 1 + 1, 0, none⟩) 1 1) 1 (putF (putF (putF (fun _ j => cs.getD j undef) 0 9 [.int .i64 K, .slice ua mm uc]) 0 11 [.slice va n1 vc]) 0 12 [.slice wa n2 wc]) by have h1 := OwnF.put [.slice wa n2 wc] HR6.out (i := 0) (o := 12) (by decide) (by show 12 + 1 ≤ 13; decide); simpa [World.setCells] using h1)
      have HU7 := Lib.hid ((HU.out.trans HW6.out).grown' hgb (fun k e => by cases e; omega))
      have HX7 := Lib.hid ((HXr.out.up HW6.out).kept hgb (fun e => by have := Option.some.inj e; omega))
      have HZ7 := Lib.hid ((HZr.out.up HW6.out).kept hgb (fun e => by have := Option.some.inj e; omega))
      have hk7 : Kp (fun b => b = w.heap.size + 1 + 1) W6 (W6.setCell ⟨w.heap.size + 1 + 1, 12, none⟩ (.slice wa n2 wc)) := Kp.of_by hgb (fun g e => (Option.some.inj e).symm)
      have HL7 := Lib.hid ((HLr.out.up HW6.out).to (Z := fun b => b < W1.heap.size ∨ W2.heap.size ≤ b) hk7 (fun i _ e => by have := HB61.out; omega) (fun i hi h => h))
      have HO7 := Lib.hid (show OwnF (W6.setCell ⟨w.heap.size + 1 + 1, 12, none⟩ (.slice wa n2 wc)) W3.heap.size 81 4 (.slice va n1 vc) n1 F from own_kept (own_up' HOW.out HW6.out) hgb (fun g hg e => by have h1 := (HVB.out g hg).1; have h2 := Option.some.inj e; have := HB61.out; have := HS12.out; have := HS23.out; omega))
      have HI7 : Hid (∀ j (hj : j < ix.length), Fr (fun b => X b ∨ (w.heap.size ≤ b ∧ b < W5.heap.size) ∨ wr.heap.size ≤ b) (fun z => ixR z (F j) ix[j]) (W6.setCell ⟨w.heap.size + 1 + 1, 12, none⟩ (.slice wa n2 wc))) := Lib.hid (fun j hj => ((HIr.out j hj).wide HW6.out).to hk7 (fun b _ e => .inl (.inr ⟨by omega, by have := HS12.out; have := HS23.out; have := HB61.out; have := HS34.out; have := HS45.out; omega⟩)) (fun b _ e => by rcases e with e | e | e; exact .inl (.inl e); exact .inl (.inr e); exact .inr e))
      have HJ7 := Lib.hid (show OwnF (W6.setCell ⟨w.heap.size + 1 + 1, 12, none⟩ (.slice wa n2 wc)) wr.heap.size 48 13 (.slice wa n2 wc) n2 F2 from own_kept HRO.out hgb (fun g hg e => by have := own_base HRO.out g hg; have := Option.some.inj e; omega))
      obtain ⟨W7, hW⟩ : ∃ W, W6.setCell ⟨w.heap.size + 1 + 1, 12, none⟩ (.slice wa n2 wc) = W := ⟨_, rfl⟩
      rw [hW] at HU7 HX7 HZ7 HR7 HL7 HO7 HI7 HJ7 hgb ⊢
      have HS67 : Hid (wr.heap.size ≤ W7.heap.size) := Lib.hid (by have := hgb.size; omega)
      have HWB : Hid (∀ g, (Value.slice wa n2 wc).ownBlock = some g → wr.heap.size ≤ g ∧ g < W7.heap.size) := Lib.hid (fun g hg => ⟨own_base HJ7.out g hg, own_lt HJ7.out g hg⟩)
      have HE7 : Hid (∀ j (hj : j < args.length), Fr (fun b => X b ∨ (w.heap.size ≤ b ∧ b < W7.heap.size)) (fun y => exR n y (F2 j) args[j]) W7) := Lib.hid (fun j hj => ((HE2.out j hj).wide HU7.out).less fun i _ h => h.imp id fun h => h.1)
      clear hW hgb hk7 h6r hws HR6 HRr HXr HZr HLr HIr HRO HW6 HC2 q12 qf z12 c12 bs HEL HOW HU HKP
      go_loopw [98] (fun iv y => ∃ (j : Nat) (G : Nat → Nat → Value), iv = .int .i64 j ∧ j ≤ n2 ∧ Kp (fun b => (Value.slice wa n2 wc).ownBlock = some b ∨ W7.heap.size ≤ b) W7 y ∧ OwnF y wr.heap.size 48 13 (.slice wa n2 wc) n2 G ∧ ∀ k (hk : k < args.length), Fr (fun b => X b ∨ (w.heap.size ≤ b ∧ b < W7.heap.size)) (fun z => exR n z (G k) args[k]) y) (fun iv _ => n2 - (intOf iv).toNat)
      case atStart => exact ⟨0, F2, rfl, Nat.zero_le _, Kp.refl _ _, HJ7.out, HE7.out⟩
      case round =>
        rename World => y
        obtain ⟨j, G, rfl, hj, hkp, hown, hel⟩ := hrel
        have HKY := Lib.hid hkp
        have HGY := Lib.hid hown
        have HEY := Lib.hid hel
        have hs67 := HS67.out
        have hb6r := HB6r.out
        have hu7 := HU7.out.size
        have hnK : ∀ b, b < wr.heap.size → ¬ ((Value.slice wa n2 wc).ownBlock = some b ∨ W7.heap.size ≤ b) := fun b hb h => by rcases h with h | h; have := (HWB.out b h).1; omega; omega
        have HUY := Lib.hid (hkp.after HU7.out fun b hb => hnK b (by omega))
        have HRY := Lib.hid (show OwnF y w.heap.size 48 13 (.slice (some ⟨w.heap.size + 1 + 1, 0, none⟩) 1 1) 1 _ from own_kp HR7.out HKY.out (fun g e => by cases e; exact hnK (w.heap.size + 1 + 1) (by omega)))
        clear hkp hown hel HE7 HJ7
        by_cases hlt : j < n2
        · have hltI : (j : Int) < n2 := by omega
          have hj1 : j < args.length := by rw [HN2.out]; exact hlt
          obtain ⟨g2, wc', e1, hg2, hg2'⟩ := HGY.out.ptr (by omega)
          cases e1
          obtain ⟨es, hes, hec⟩ : ∃ es : Array Value, es.size = 13 ∧ ∀ k, k < 13 → es.getD k undef = F2 j k := ⟨((List.range 13).map (F2 j)).toArray, by simp, fun k hk => by
            have : ((List.range 13).map (F2 j)).toArray[k]? = some (F2 j k) := by simp [hk]
            rw [Array.getD_eq_getD_getElem?, this]; rfl⟩
          obtain ⟨g4, o4, rfl, hg4, hra⟩ := HS2.out.here.row4 (by decide) hlt hes hec
          have hee : Fr X (fun z => exR n z (fun k => es.getD k undef) args[j]) w := (HE2.out j hj1).mono fun z hz => (exR_k n).congr _ _ _ _ hz fun k hk => (hec k hk).symm
          have HLD := Lib.hid (run_ex hes (hra y HUY.out))
          have HFL := Lib.hid (run_fill (P := Tryz.prog) (k := 13) ex_i y (Z := #[.int .i64 0, .string ByteArray.empty, .int .i64 0, .int .i64 0, .int .i64 0, .int .i64 0, .int .i64 0, .int .i64 0, .int .i64 0, .int .i64 0, .slice none 0 0, .slice none 0 0, .slice none 0 0]) (cs := es) rfl hes (CsAt.one (exR_k n) ⟨hes, hee.here⟩))
          have HES := Lib.hid hes
          have HEE := Lib.hid hee
          have hg4' := Nat.lt_of_lt_of_le hg4 HUY.out.size
          clear hra hes hec hee hg4 hnK
          go_upto_region 26 with (first
            | (refine st_load HLD.out (by rfl) ?_)
            | (refine st_store HFL.out (by rfl) (by rfl) ?_))
          have HAY := Lib.hid ((Up.refl y).alloc (.cells es 48))
          have HBF := Lib.hid (BoxC.new y 48 es)
          obtain ⟨Wf, hW⟩ : ∃ W, y.alloc (.cells es 48) = W := ⟨_, rfl⟩
          rw [hW] at HAY HBF ⊢
          have HRF := Lib.hid (show OwnF Wf w.heap.size 48 13 (.slice (some ⟨w.heap.size + 1 + 1, 0, none⟩) 1 1) 1 _ from own_up' HRY.out HAY.out)
          have HGF := Lib.hid (show OwnF Wf wr.heap.size 48 13 (.slice (some ⟨g2, 0, none⟩) n2 wc) n2 G from own_up' HGY.out HAY.out)
          have HLE := Lib.hid (fun x (hx : Up Wf x) => run_ex HES.out ((HBF.out.up hx).range))
          have s12 : Wf.cell? ⟨w.heap.size + 1 + 1, 12, none⟩ = some (.slice (some ⟨g2, 0, none⟩) n2 wc) := by
            have h1 := OwnF.cell (i := 0) (j := 12) HRF.out (by decide) (by decide)
            rw [putF_in (by decide) (by show 12 < 12 + 1; decide)] at h1
            simpa using h1
          have hyf := HAY.out.size
          have hy7 := HKY.out.size
          have g7 := (HWB.out g2 rfl).2
          have b6l : w.heap.size + 1 + 1 < Wf.heap.size := by omega
          have g2l : g2 < Wf.heap.size := by omega
          have HEA := Lib.hid ((HEE.out.wide (HUY.out.trans HAY.out)).less (Z := fun b => X b ∨ (w.heap.size ≤ b ∧ b < W7.heap.size)) fun b _ e => e.imp id fun e => e.1)
          have HCF := Lib.hid (fun x (hx : Up Wf x) => HIH.out (fun b => X b ∨ (w.heap.size ≤ b ∧ b < W7.heap.size)) es args[j] x HES.out (fun b e => by have := hx.size; rcases e with e | e; have := HX.out b e; omega; omega) (HEA.out.up hx))
          clear hW HFL HLD hg4'
          refine wp_region_late 10 8 _ (fun _ _ v x => ∃ ds : Array Value, v = .tuple #[.agg ds, .int .i64 0] ∧ ds.size = 13 ∧ Fr (fun b => X b ∨ (w.heap.size ≤ b ∧ b < W7.heap.size)) (fun z => exR n z (fun k => ds.getD k undef) args[j]) x) (by kernel_rfl) (by kernel_rfl) rfl ?_
          simp only [List.take_succ_cons, List.take_zero, List.drop_succ_cons, List.drop_zero, Act.put]
          iterate 3 (refine wpMk_quiet anti_post (by kernel_rfl) ?_; go_big_quiet_step (fail); refine wpQuiet_nil ?_)
          refine wpMk_load anti_post HLE.out (by rfl) ?_
          simp only [Act.put, List.setIfInBounds_toArray, List.set_cons_succ, List.set_cons_zero]
          iterate 1 (refine wpMk_quiet anti_post (by kernel_rfl) ?_; go_big_quiet_step (fail); refine wpQuiet_nil ?_)
          refine wpMk_enter anti_post 59 #[.agg es, cloV] (fun v x y ⟨ds, h1, h2, h3⟩ hu => ⟨ds, h1, h2, h3.up hu⟩) (by kernel_rfl) (fun x => by go_simp) (fun x hx => (HCF.out x hx).mono fun e w' ⟨ds, h1, h2, h3, h4⟩ => ⟨_, h1, h3, ds, rfl, h2, h4⟩) ?_
          rintro v ⟨y', hy', ds, rfl, -⟩
          simp only [Act.put, List.setIfInBounds_toArray, List.set_cons_succ, List.set_cons_zero]
          iterate 4 (refine wpMk_quiet anti_post (by kernel_rfl) ?_; go_big_quiet_step (fail); refine wpQuiet_nil ?_)
          refine wpMk_nil ?_
          rintro z hz ⟨-, ds4, hR, hsz, hF⟩
          simp only [Value.tuple.injEq, Value.agg.injEq, Array.mk.injEq, List.cons.injEq, and_true] at hR
          obtain rfl := hR
          have HZ := Lib.hid hz
          have HF := Lib.hid hF
          have HDS := Lib.hid hsz
          have HGZ := Lib.hid (show OwnF z wr.heap.size 48 13 (.slice (some ⟨g2, 0, none⟩) n2 wc) n2 G from own_up' HGF.out hz)
          have HST := Lib.hid (OwnF.store (P := Tryz.prog) (T := 48) (i := j) (o := 0) (cells := ds) HGZ.out hlt (by rw [hsz]; decide) (by rw [hsz]; exact ex_i) (CsAt.one (exR_k n) ⟨hsz, hF.here⟩))
          clear hz hF hsz hy' s12 b6l
          refine outL_store HST.out (by rfl) (by rfl) ?_
          simp only [Act.put]
          have hgbz := setCells_by g2 ds.toList (j * 13 + 0) z
          have hzs := HZ.out.size
          have HGE := Lib.hid (OwnF.put ds.toList HGZ.out (i := j) (o := 0) hlt (by rw [Array.length_toList, HDS.out]; decide))
          have HKE := Lib.hid (((HKY.out.trans (Kp.of_up (X := fun b => (Value.slice (some ⟨g2, 0, none⟩) n2 wc).ownBlock = some b ∨ W7.heap.size ≤ b) (HAY.out.trans HZ.out)) (fun _ _ h => h) (fun _ _ h => h)).trans (Kp.of_by (X := fun b => (Value.slice (some ⟨g2, 0, none⟩) n2 wc).ownBlock = some b ∨ W7.heap.size ≤ b) hgbz (fun g e => .inl e)) (fun _ _ h => h) (fun _ _ h => h) : Kp (fun b => (Value.slice (some ⟨g2, 0, none⟩) n2 wc).ownBlock = some b ∨ W7.heap.size ≤ b) W7 _))
          have hw2 : w.heap.size ≤ g2 := by have := HU7.out.size; omega
          have HEK : Hid (∀ k (hk : k < args.length), Fr (fun b => X b ∨ (w.heap.size ≤ b ∧ b < W7.heap.size)) (fun u => exR n u (putF G j 0 ds.toList k) args[k]) (z.setCells g2 (j * 13 + 0) ds.toList)) := Lib.hid (fun k hk => by
            have hk' : Kp (fun b => b = g2) z (z.setCells g2 (j * 13 + 0) ds.toList) := Kp.of_by hgbz (fun g e => (Option.some.inj e).symm)
            by_cases e : k = j
            · subst e
              refine (HF.out.kp hk' (fun b _ e => .inr ⟨by omega, by omega⟩)).mono fun u hu => (exR_k n).congr _ _ _ _ hu fun q hq => ?_
              rw [putF_in (Nat.zero_le _) (by rw [Array.length_toList, HDS.out]; omega), Nat.sub_zero, Array.getD_eq_getD_getElem?, List.getD_eq_getElem?_getD, Array.getElem?_toList]
            · rw [putF_other e]
              exact ((HEY.out k hk).up (HAY.out.trans HZ.out)).kp hk' (fun b _ e => .inr ⟨by omega, by omega⟩))
          obtain ⟨We, hW⟩ : ∃ W, z.setCells g2 (j * 13 + 0) ds.toList = W := ⟨_, rfl⟩
          rw [hW] at HGE HKE HEK ⊢
          clear hW hgbz
          go_wp2
          go_roundw
          case rel => exact ⟨j + 1, _, by go_num, by omega, HKE.out, HGE.out, HEK.out⟩
          case measure => simp [intOf]; omega
        · obtain rfl : n2 = j := by omega
          have h61 := HB61.out
          have h12 := HS12.out
          have h23 := HS23.out
          have h34 := HS34.out
          have h45 := HS45.out
          have h5r := HS5r.out
          obtain ⟨ds, hbx, hds, hdc⟩ := HRY.out.boxC
          have hZ := (HKY.out.block _ HZ7.out.lt (hnK _ (by omega))).trans HZ7.out
          have HZY := Lib.hid (show BoxC y (w.heap.size + 1) 48 #[.int .i64 0, .string ByteArray.empty, .int .i64 0, .int .i64 0, .int .i64 0, .int .i64 0, .int .i64 0, .int .i64 0, .int .i64 0, .int .i64 0, .slice none 0 0, .slice none 0 0, .slice none 0 0] from hZ)
          have HLD := Lib.hid (run_ex hds hbx.range)
          have h9 : ds.getD 9 undef = .int .i64 K := by rw [hdc 9 (by decide), putF_out (by omega), putF_out (by omega), putF_in (by decide) (by show 9 < 9 + 2; decide)]; rfl
          have h10 : ds.getD 10 undef = .slice ua mm uc := by rw [hdc 10 (by decide), putF_out (by omega), putF_out (by omega), putF_in (by decide) (by show 10 < 9 + 2; decide)]; rfl
          have h11 : ds.getD 11 undef = .slice va n1 vc := by rw [hdc 11 (by decide), putF_out (by omega), putF_in (by decide) (by show 11 < 11 + 1; decide)]; rfl
          have h12' : ds.getD 12 undef = .slice wa n2 wc := by rw [hdc 12 (by decide), putF_in (by decide) (by show 12 < 12 + 1; decide)]; rfl
          have hlo : ∀ k, k < 9 → ds.getD k undef = cs.getD k undef := fun k hk => by rw [hdc k (by omega), putF_out (by omega), putF_out (by omega), putF_out (by show ¬ (9 ≤ k ∧ k < 9 + 2); omega)]
          have hkr := setRow_by y (w.heap.size + 1) ds
          have hk' : Kp (fun b => b = w.heap.size + 1) y (y.setRow (w.heap.size + 1) ds) := Kp.of_by hkr (fun g e => (Option.some.inj e).symm)
          have hlin : Fr X (fun z => LsAt 2 24 monR z (ds.getD 10 undef) ml) (y.setRow (w.heap.size + 1) ds) := by
            rw [h10]
            exact (HL7.out.to (Z := fun b => b < W1.heap.size ∨ W2.heap.size ≤ b) HKY.out (fun b hb e => by rcases e with e | e; have := (HWB.out b e).1; have := HB6r.out; omega; omega) (fun _ _ h => h)).to hk' (fun b _ e => by omega) (fun b hb e => by have := HX.out b e; omega)
          have hidx : Fr X (fun z => LsAt 4 72 ixR z (ds.getD 11 undef) ix) (y.setRow (w.heap.size + 1) ds) := by
            rw [h11]
            have hO : OwnF (y.setRow (w.heap.size + 1) ds) W3.heap.size 81 4 (.slice va n1 vc) n1 F := own_kept (own_kp HO7.out HKY.out (fun g e => hnK g (by have := (HVB.out g e).2; omega))) hkr (fun g e h => by have := (HVB.out g e).1; have := Option.some.inj h; omega)
            refine Fr.mkLs ⟨va, vc, by rw [HN1.out], by rw [HN1.out]; exact own_cap hO⟩ (by rw [HN1.out]; exact HB1.out) (by rw [HN1.out]; exact own_fr hO (by omega) (fun g e hx => by have := (HVB.out g e).1; have := HX.out g hx; omega)) (fun q hq => ?_)
            exact ((HI7.out q hq).to (Z := fun b => X b ∨ (w.heap.size ≤ b ∧ b < W5.heap.size)) HKY.out (fun b hb e => by rcases e with e | e; exact .inr (.inr (HWB.out b e).1); omega) (fun b _ e => by rcases e with e | e; exact .inl e; exact .inr (.inl e))).to hk' (fun b _ e => .inr ⟨by omega, by omega⟩) (fun b _ e => .inl e)
          have harg : Fr X (fun z => LsAt 13 160 (exR n) z (ds.getD 12 undef) args) (y.setRow (w.heap.size + 1) ds) := by
            rw [h12']
            have hO : OwnF (y.setRow (w.heap.size + 1) ds) wr.heap.size 48 13 (.slice wa n2 wc) n2 G := own_kept HGY.out hkr (fun g e h => by have := (HWB.out g e).1; have := Option.some.inj h; omega)
            refine Fr.mkLs ⟨wa, wc, by rw [HN2.out], by rw [HN2.out]; exact own_cap hO⟩ (by rw [HN2.out]; exact HB2.out) (by rw [HN2.out]; exact own_fr hO (by omega) (fun g e hx => by have := (HWB.out g e).1; have := HX.out g hx; omega)) (fun q hq => ?_)
            exact (HEY.out q hq).to hk' (fun b _ e => .inr ⟨by omega, by omega⟩) (fun b _ e => .inl e)
          have HJN := Lib.hid (ex_join HFR.out hlo h9 hlin hidx harg)
          have HPT := Lib.hid (run_put (P := Tryz.prog) (k := 13) ex_i HZY.out rfl hds (CsAt.one (exR_k (n + 1)) ⟨hds, HJN.out.here⟩))
          have HRB := Lib.hid (HZY.out.row ds)
          have HUF := Lib.hid (HUY.out.grown' hkr (fun k e => by cases e; exact Nat.le_succ _))
          have HDS := Lib.hid hds
          have HLR := Lib.hid (run_exV hds HRB.out.range)
          clear h61 h12 h23 h34 h45 h5r hbx hds hdc hZ h9 h10 h11 h12' hlo hkr hk' hlin hidx harg hnK
          go_wp2_with (first
            | (refine st_load HLD.out (by rfl) ?_)
            | (refine st_store HPT.out (by rfl) (by rfl) ?_))
          refine bodyPost_ret (v := .tuple #[.agg ds, .int .i64 0]) ?_ rfl ⟨ds, rfl, HDS.out, HUF.out, HJN.out⟩
          exact results_c2 (by rfl) (by rfl) (by rfl) HLR.out
/-- The copy of an expression. -/
theorem ex_mapForms : ∀ n : Nat, MapC n := fun n => by
  induction n with
  | zero => exact map_zero
  | succ n ih => exact map_step n ih
end Go.Proofs.YtpccaifhcmcegaaGreat

