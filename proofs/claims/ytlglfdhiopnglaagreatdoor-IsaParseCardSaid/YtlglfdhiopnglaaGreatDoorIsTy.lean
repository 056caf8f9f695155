/-
  The reference 47, reading: parsedType. Printed by mkIsTy.py.
-/
import Derived.Test.YtlglfdhiopnglaaGreatDoorIsPa
import Derived.Test.YtlglfdhiopnglaaGreatDoorIsOn
import Derived.Test.YtlglfdhiopnglaaGreatDoorMd
namespace Go.Proofs.YtlglfdhiopnglaaGreatDoor
open Go.ChangeShapes Go.WideShapes Go.ChangeAt Go.RowKit
set_option linter.unusedVariables false
set_option linter.unusedSimpArgs false
set_option maxRecDepth 100000

/-- A new row, in a region whose operations may lean on it. -/
theorem wpMd_rowT {P : Program} {ops : Array Oper} {md : Region.Mode} {w : World} {M : FuncId → Array Value → Value → World → Prop} {L : Act → Facts → Prop} (hL : AntiF w L) {k : Nat} {o : Oper} {rest : List Oper} {a : Act} {S : Facts} (cs : Array Value) (t : TypeId) (m : Nat)
    (hw : Region.wanted o (yielded ops a.tmps) = true) (hrun : ∀ x, (execOp a.eval o).run P x = .ok (.value (.slice (some ⟨x.heap.size, 0, none⟩) m m)) (x.alloc (.cells cs t (0, 0))))
    (h : ∀ b, w.heap.size ≤ b → ∀ S', More S S' → (∀ x, S' k x → x.heap[b]? = some (.cells cs t (0, 0))) → wpMd P md ops M w L (k + 1) rest (a.put o.dst (.slice (some ⟨b, 0, none⟩) m m)) S') : wpMd P md ops M w L k (o :: rest) a S := by
  refine wpMd_any hL (fun v y => ∃ b, v = .slice (some ⟨b, 0, none⟩) m m ∧ w.heap.size ≤ b ∧ y.heap[b]? = some (.cells cs t (0, 0))) (fun v x y ⟨b, h1, h2, h3⟩ hu => ⟨b, h1, h2, by rw [hu.heap b (Array.getElem?_eq_some_iff.1 h3).1]; exact h3⟩) hw
    (fun x hx _ => ⟨_, _, hrun x, (Up.refl x).alloc _, x.heap.size, rfl, hx.size, heap_alloc_new x _⟩) (fun v ⟨y, _, b, h1, h2, _⟩ => ?_)
  subst h1
  refine wpMd_more hL _ _ _ _ _ (More.upd (fun _ _ h => h) k (fun x ⟨⟨b', h4, h5, h6⟩, _⟩ => ?_)) (h b h2 _ (more_upd _ _ _) fun _ hx => upd_new hx)
  cases h4
  exact h6
theorem plcG_bd (s : List UInt8) : ∀ (L : List (List UInt8)) (i : Int), 0 ≤ i → -1 ≤ plcG s L i ∧ plcG s L i ≤ i + L.length
  | [], i, h => by constructor <;> simp [plcG] <;> omega
  | w :: r, i, h => by
    rw [plcG]
    split
    · rw [List.length_cons]; omega
    · have := plcG_bd s r (i + 1) (by omega)
      rw [List.length_cons]; omega
theorem plcF_bd (L : List (List UInt8)) (s : List UInt8) : -1 ≤ plcF L s ∧ plcF L s ≤ L.length := by
  have := plcG_bd s L 0 (by omega)
  unfold plcF; omega
def ptM (r o : Int) (f : FuncId) (args : Array Value) (v : Value) (_ : World) : Prop := (∃ b s, args = #[.slice b 4 4, s] ∧ v = .int .i64 r) ∨ (∃ b s, args = #[.slice b 2 2, s] ∧ v = .int .i64 o)
theorem ptM_up (r o : Int) (f : FuncId) (args : Array Value) (v : Value) (x y : World) (h : ptM r o f args v x) (_ : Up x y) : ptM r o f args v y := h
theorem rndRow (x : World) (b : Nat) (h : x.heap[b]? = some (.cells #[.string { data := #[102, 108, 111, 111, 114] }, .string { data := #[99, 101, 105, 108] }, .string { data := #[122, 101, 114, 111] }, .string { data := #[101, 118, 101, 110] }] 9 (0, 0))) : StrsAt x (.slice (some ⟨b, 0, none⟩) 4 4) (rndsL.map bst) :=
  ⟨⟨some ⟨b, 0, none⟩, 4, rfl, fun e => (nomatch e), fun a ha hl => by
    cases ha
    refine ⟨rfl, (Array.getElem?_eq_some_iff.1 h).1, fun i j hi hj => ?_⟩
    obtain rfl : j = 0 := by omega
    have hi : i < 4 := hi
    rcases (by omega : i = 0 ∨ i = 1 ∨ i = 2 ∨ i = 3) with rfl | rfl | rfl | rfl <;> exact cell_of_row _ _ _ _ _ _ h⟩, by decide⟩
theorem ovrRow (x : World) (b : Nat) (h : x.heap[b]? = some (.cells #[.string { data := #[115, 97, 116] }, .string { data := #[119, 114, 97, 112] }] 9 (0, 0))) : StrsAt x (.slice (some ⟨b, 0, none⟩) 2 2) (ovrsL.map bst) :=
  ⟨⟨some ⟨b, 0, none⟩, 2, rfl, fun e => (nomatch e), fun a ha hl => by
    cases ha
    refine ⟨rfl, (Array.getElem?_eq_some_iff.1 h).1, fun i j hi hj => ?_⟩
    obtain rfl : j = 0 := by omega
    have hi : i < 2 := hi
    rcases (by omega : i = 0 ∨ i = 1) with rfl | rfl <;> exact cell_of_row _ _ _ _ _ _ h⟩, by decide⟩
/-- One text of a list. -/
theorem StrsC.get {w : World} {a : Option Addr} {n c : Nat} {l : List (List UInt8)} (h : StrsC w (.slice a n c) l) (i : Nat) (hi : i < l.length) : ∃ g o, a = some ⟨g, o, none⟩ ∧ g < w.heap.size ∧ w.cell? ⟨g, o + i, none⟩ = some (.string (bst (l.getD i []))) := by
  obtain ⟨a', c', e, hc, hs⟩ := h
  cases e
  obtain ⟨g, o, ha, hg, hcell⟩ := StrsAt.get hs rfl i hi
  refine ⟨g, o, ha, hg, ?_⟩
  have e2 : (l.map bst).getD i ⟨#[]⟩ = bst (l.getD i []) := by
    rw [List.getD_eq_getElem?_getD, List.getElem?_map, List.getD_eq_getElem?_getD]
    cases l[i]? <;> rfl
  rw [← e2]; exact hcell
theorem bst_lit (a b : List UInt8) : ((bst a).toList == b) = decide (a = b) := by
  rw [bst_list]
  by_cases h : a = b
  · subst h; simp
  · simp [h]
theorem bne_lit {a b : List UInt8} {q : Bool} (h : ((bst a).toList == b) = q) : ((bst a).toList != b) = !q := by rw [bne, h]

set_option maxHeartbeats 8000000 in
theorem r47_parsedType (v : Value) (L : List (List UInt8)) (w : World) (hv : StrsC w v L) (hL : L.length ≤ 20000) (hT : ∀ T ∈ L, T.length ≤ 10000) :
    Calls Tryz.prog 71 #[v] w fun e w' => e = .returned (.tuple #[typV (ptyF L).1, .bool (ptyF L).2]) ∧ Up w w' := by
  obtain ⟨R, hR⟩ : ∃ R, ptyF L = R := ⟨_, rfl⟩
  rw [hR]
  unfold ptyF at hR
  obtain ⟨m, hm⟩ : ∃ m, L.length = m := ⟨_, rfl⟩
  have hmI : (m : Int) ≤ 20000 := by omega
  obtain ⟨a, c, e, hc, hs⟩ := id hv
  rw [hm] at e hc
  subst e
  have HV := Lib.hid hv
  have HM := Lib.hid hm
  have HC := Lib.hid hc
  have HTL : Hid (∀ i, (L.getD i []).length ≤ 10000) := Lib.hid (fun i => by
    rw [List.getD_eq_getElem?_getD]
    cases hk : L[i]? with
    | none => exact Nat.zero_le _
    | some t => exact hT t (List.mem_of_getElem? hk))
  rw [hm] at hR
  have HR := Lib.hid hR
  have HU0 : Hid (Up w (w.alloc (.cells #[.int .i64 0, .int .i64 0, .int .i64 0, .int .i64 0, .int .i64 0] 40))) := Lib.hid ((Up.refl w).alloc _)
  have B0 : Hid (BoxC (w.alloc (.cells #[.int .i64 0, .int .i64 0, .int .i64 0, .int .i64 0, .int .i64 0] 40)) w.heap.size 40 #[.int .i64 0, .int .i64 0, .int .i64 0, .int .i64 0, .int .i64 0]) := Lib.hid (BoxC.new w _ _)
  clear hv hs hT hR hm hL hc
  by_cases h1 : m = 1
  · subst h1
    obtain ⟨g, off, rfl, hg, hc0⟩ := HV.out.get 0 (by rw [HM.out]; decide)
    rw [Nat.add_zero] at hc0
    obtain ⟨T0, hT0⟩ : ∃ t, L.getD 0 [] = t := ⟨_, rfl⟩
    rw [hT0] at hc0 HR
    clear hT0
    have q1 := bst_lit T0 [102, 114, 97, 99]
    have q2 := bst_lit T0 [105, 110, 116]
    obtain ⟨S0, hS0⟩ : ∃ t, bst T0 = t := ⟨_, rfl⟩
    rw [hS0] at hc0 q1 q2
    clear hS0
    by_cases e1 : T0 = [102, 114, 97, 99]
    · have HE : Hid (R = ((1, 0, 0, 0, 0), true)) := Lib.hid (by rw [← HR.out, if_pos ⟨rfl, e1⟩])
      rw [decide_eq_true e1] at q1
      clear q2 e1 HR
      go_enter Tryz.func71, Tryz.ntmps71
      go_wp2
      have HF := Lib.hid ((Up.refl w).alloc (.cells #[.int .i64 (1), .int .i64 (0), .int .i64 (0), .int .i64 (0), .int .i64 (0)] 40))
      refine bodyPost_ret (v := .tuple #[.agg #[.int .i64 (1), .int .i64 (0), .int .i64 (0), .int .i64 (0), .int .i64 (0)], .bool (true)]) (by simp [results, Tryz.results71, go_sem, *]) rfl ?_
      exact ⟨by rw [HE.out]; (try rfl), HF.out⟩
    by_cases e2 : T0 = [105, 110, 116]
    · have HE : Hid (R = ((3, 0, 0, 0, 0), true)) := Lib.hid (by rw [← HR.out, if_neg (fun h => e1 h.2), if_pos ⟨rfl, e2⟩])
      rw [decide_eq_false e1] at q1
      rw [decide_eq_true e2] at q2
      clear e2 e1 HR
      go_enter Tryz.func71, Tryz.ntmps71
      go_wp2
      have HF := Lib.hid ((Up.refl w).alloc (.cells #[.int .i64 (3), .int .i64 (0), .int .i64 (0), .int .i64 (0), .int .i64 (0)] 40))
      refine bodyPost_ret (v := .tuple #[.agg #[.int .i64 (3), .int .i64 (0), .int .i64 (0), .int .i64 (0), .int .i64 (0)], .bool (true)]) (by simp [results, Tryz.results71, go_sem, *]) rfl ?_
      exact ⟨by rw [HE.out]; (try rfl), HF.out⟩
    have HE : Hid (R = (y0, false)) := Lib.hid (by rw [← HR.out, if_neg (fun h => e1 h.2), if_neg (fun h => e2 h.2), if_pos (.inl (by decide))])
    rw [decide_eq_false e1] at q1
    rw [decide_eq_false e2] at q2
    clear e2 e1 HR
    go_enter Tryz.func71, Tryz.ntmps71
    go_wp2
    have HF := Lib.hid ((Up.refl w).alloc (.cells #[.int .i64 (0), .int .i64 (0), .int .i64 (0), .int .i64 (0), .int .i64 (0)] 40))
    refine bodyPost_ret (v := .tuple #[.agg #[.int .i64 (0), .int .i64 (0), .int .i64 (0), .int .i64 (0), .int .i64 (0)], .bool (false)]) (by simp [results, Tryz.results71, go_sem, *]) rfl ?_
    exact ⟨by rw [HE.out]; (try rfl), HF.out⟩
  have m1 : ((m : Int) == 1) = false := by simp; omega
  by_cases h5 : m = 5
  · subst h5
    obtain ⟨g, off, rfl, hg, hc0⟩ := HV.out.get 0 (by rw [HM.out]; decide)
    rw [Nat.add_zero] at hc0
    have hcl : ∀ i, i < 5 → w.cell? ⟨g, off + i, none⟩ = some (.string (bst (L.getD i []))) := fun i hi => by
      obtain ⟨g', o', e, _, h⟩ := HV.out.get i (by rw [HM.out]; exact hi)
      cases e; exact h
    have hc1 := hcl 1 (by decide)
    have hc2 := hcl 2 (by decide)
    have hc3 := hcl 3 (by decide)
    have hc4 := hcl 4 (by decide)
    clear hcl
    have HI1 := Lib.hid (fun y => r47_integer (L.getD 1 []) (r01_Parse _ (HTL.out 1)) y)
    have HI2 := Lib.hid (fun y => r47_integer (L.getD 2 []) (r01_Parse _ (HTL.out 2)) y)
    have HR1 : Hid ((if L.getD 0 [] ≠ [102, 105, 120] then (y0, false) else ((2, (intF (L.getD 1 [])).1, (intF (L.getD 2 [])).1, plcF rndsL (L.getD 3 []) + 1, plcF ovrsL (L.getD 4 []) + 1), (intF (L.getD 1 [])).2 && (intF (L.getD 2 [])).2)) = R) := Lib.hid (by
      have h := HR.out
      rw [if_neg (fun h => by cases h.1), if_neg (fun h => by cases h.1)] at h
      rw [← h]
      by_cases e : L.getD 0 [] = [102, 105, 120]
      · rw [if_neg (by simpa using e), if_neg (by simpa using e)]
      · rw [if_pos e, if_pos (.inr e)])
    have q0 := bst_lit (L.getD 0 []) [102, 105, 120]
    have HP3 := Lib.hid (fun (x : World) b (h : x.heap[b]? = some (.cells #[.string { data := #[102, 108, 111, 111, 114] }, .string { data := #[99, 101, 105, 108] }, .string { data := #[122, 101, 114, 111] }, .string { data := #[101, 118, 101, 110] }] 9 (0, 0))) => r47_place (.slice (some ⟨b, 0, none⟩) 4 4) rndsL (L.getD 3 []) x (rndRow x b h) (by decide))
    have HP4 := Lib.hid (fun (x : World) b (h : x.heap[b]? = some (.cells #[.string { data := #[115, 97, 116] }, .string { data := #[119, 114, 97, 112] }] 9 (0, 0))) => r47_place (.slice (some ⟨b, 0, none⟩) 2 2) ovrsL (L.getD 4 []) x (ovrRow x b h) (by decide))
    have p3 := plcF_bd rndsL (L.getD 3 [])
    have p4 := plcF_bd ovrsL (L.getD 4 [])
    rw [show rndsL.length = 4 from rfl] at p3
    rw [show ovrsL.length = 2 from rfl] at p4
    clear HR m1 HTL h1
    generalize plcF rndsL (L.getD 3 []) = r at *
    generalize plcF ovrsL (L.getD 4 []) = ov at *
    generalize intF (L.getD 1 []) = i1 at *
    generalize intF (L.getD 2 []) = i2 at *
    obtain ⟨bits, ok⟩ := i1
    obtain ⟨frac, is⟩ := i2
    generalize bst (L.getD 1 []) = S1 at *
    generalize bst (L.getD 2 []) = S2 at *
    generalize bst (L.getD 3 []) = S3 at *
    generalize bst (L.getD 4 []) = S4 at *
    by_cases e0 : L.getD 0 [] = [102, 105, 120]
    · have HE : Hid (R = ((2, bits, frac, r + 1, ov + 1), ok && is)) := Lib.hid (by rw [← HR1.out, if_neg (by simpa using e0)])
      rw [decide_eq_true e0] at q0
      have qn := bne_lit q0
      clear e0 HR1
      generalize bst (L.getD 0 []) = S0 at *
      obtain ⟨p31, p32⟩ := p3
      obtain ⟨p41, p42⟩ := p4
      go_enter Tryz.func71, Tryz.ntmps71
      go_upto_region 9 with (first
        | (go_at_call 99; (first | (with_reducible refine (HI1.out _).mono ?_) | (with_reducible refine (HI2.out _).mono ?_)); rintro e x ⟨rfl, hx⟩; replace HU0 := Lib.hid (HU0.out.trans hx); replace B0 := Lib.hid (B0.out.up hx); clear hx; (try clear d0 d1 d2 d3 d4 dg); have d0 := cell_up HU0.out hc0; have d1 := cell_up HU0.out hc1; have d2 := cell_up HU0.out hc2; have d3 := cell_up HU0.out hc3; have d4 := cell_up HU0.out hc4; have dg := Nat.lt_of_lt_of_le hg HU0.out.size))
      clear hc0 hc1 hc2 hc3 hc4 q0 qn HI1 HI2
      refine wp_region_md 16 (ptM r ov) (by kernel_rfl) (by kernel_rfl) ?_
      simp only [List.take_succ_cons, List.take_zero, List.drop_succ_cons, List.drop_zero]
      iterate 2 (refine wpMd_quietG antiF_post (by kernel_rfl) ?_; intro S hm hk; clear hm hk; go_big_quiet_step (fail); refine wpQuiet_nil ?_)
      refine wpMd_rowT antiF_post #[.string { data := #[102, 108, 111, 111, 114] }, .string { data := #[99, 101, 105, 108] }, .string { data := #[122, 101, 114, 111] }, .string { data := #[101, 118, 101, 110] }] 9 4 (by kernel_rfl) (fun x => by go_simp) ?_
      rintro b3 hb3 S hm hk
      have HF3 := Lib.hid hk
      clear hm hk hb3
      simp only [Act.put, List.setIfInBounds_toArray, List.set_cons_succ, List.set_cons_zero]
      iterate 3 (refine wpMd_quietG antiF_post (by kernel_rfl) ?_; intro S hm hk; replace HF3 := Lib.hid (fun x hx => HF3.out x (hm _ x hx)); clear hm hk; go_big_quiet_step (fail); refine wpQuiet_nil ?_)
      refine wpMd_enterG antiF_post 68 #[.slice (some ⟨b3, 0, none⟩) 4 4, .string S3] (ptM_up r ov _ _) (by kernel_rfl) (fun x => by go_simp) (fun x hx hd => ?_) ?_
      · exact (HP3.out x b3 (HF3.out x (hd { on := 2, ground := Ground.data } (by simp) rfl))).mono fun e x' ⟨h1, h2⟩ => ⟨_, h1, h2, .inl ⟨_, _, rfl, rfl⟩⟩
      rintro v ⟨y', hy', hM⟩ S hm hk
      rcases hM with ⟨_, _, hM, rfl⟩ | ⟨_, _, hM, _⟩
      rotate_left
      · simp at hM
      clear hm hk hy' hM y' HF3
      simp only [Act.put, List.setIfInBounds_toArray, List.set_cons_succ, List.set_cons_zero]
      refine wpMd_quietG antiF_post (by kernel_rfl) ?_; intro S hm hk; clear hm hk; go_big_quiet_step (fail); refine wpQuiet_nil ?_
      refine wpMd_rowT antiF_post #[.string { data := #[115, 97, 116] }, .string { data := #[119, 114, 97, 112] }] 9 2 (by kernel_rfl) (fun x => by go_simp) ?_
      rintro b4 hb4 S hm hk
      have HF4 := Lib.hid hk
      clear hm hk hb4
      simp only [Act.put, List.setIfInBounds_toArray, List.set_cons_succ, List.set_cons_zero]
      iterate 3 (refine wpMd_quietG antiF_post (by kernel_rfl) ?_; intro S hm hk; replace HF4 := Lib.hid (fun x hx => HF4.out x (hm _ x hx)); clear hm hk; go_big_quiet_step (fail); refine wpQuiet_nil ?_)
      refine wpMd_enterG antiF_post 68 #[.slice (some ⟨b4, 0, none⟩) 2 2, .string S4] (ptM_up r ov _ _) (by kernel_rfl) (fun x => by go_simp) (fun x hx hd => ?_) ?_
      · exact (HP4.out x b4 (HF4.out x (hd { on := 8, ground := Ground.data } (by simp) rfl))).mono fun e x' ⟨h1, h2⟩ => ⟨_, h1, h2, .inr ⟨_, _, rfl, rfl⟩⟩
      rintro v ⟨y', hy', hM⟩ S hm hk
      rcases hM with ⟨_, _, hM, _⟩ | ⟨_, _, hM, rfl⟩
      · simp at hM
      clear hm hk hy' hM y' HF4
      simp only [Act.put, List.setIfInBounds_toArray, List.set_cons_succ, List.set_cons_zero]
      iterate 2 (refine wpMd_quietG antiF_post (by kernel_rfl) ?_; intro S hm hk; clear hm hk; go_big_quiet_step (fail); refine wpQuiet_nil ?_)
      refine wpMd_allocG antiF_post #[.int .i64 0, .int .i64 0, .int .i64 0, .int .i64 0, .int .i64 0] 40 (by kernel_rfl) (fun x => by go_simp) ?_
      rintro bt hbt S hm hk
      have HFT := Lib.hid hk
      clear hm hk
      simp only [Act.put, List.setIfInBounds_toArray, List.set_cons_succ, List.set_cons_zero]
      refine wpMd_nil ?_
      intro z hz hS
      have HBT : Hid (BoxC z bt 40 #[.int .i64 0, .int .i64 0, .int .i64 0, .int .i64 0, .int .i64 0]) := Lib.hid (HFT.out z (hS 15))
      clear HFT hS
      replace HU0 := Lib.hid (HU0.out.trans hz)
      have hbtw := Nat.lt_of_lt_of_le B0.out.lt hbt
      replace B0 := Lib.hid (B0.out.up hz)
      have HPB := Lib.hid hbt
      clear hbt hz d0 d1 d2 d3 d4 dg
      obtain ⟨x0, x1, x2, x3, x4⟩ := HBT.out.five
      have xf := HBT.out.frozen
      have xs := HBT.out.lt
      obtain ⟨c0, c1, c2, c3, c4⟩ := B0.out.five
      have cf := B0.out.frozen
      have cs := B0.out.lt
      have ne1 : (bt = w.heap.size) = False := by simp; omega
      have ne2 : (w.heap.size = bt) = False := by simp; omega
      have hwb : w.heap.size ≤ bt := by omega
      have HF := Lib.hid (((((((((HU0.out.setCell (p := ⟨bt, 0, none⟩) hwb (.int .i64 2)).setCell (p := ⟨bt, 1, none⟩) hwb (.int .i64 bits)).setCell (p := ⟨bt, 2, none⟩) hwb (.int .i64 frac)).setCell (p := ⟨bt, 3, none⟩) hwb (.int .i64 (r + 1))).setCell (p := ⟨bt, 4, none⟩) hwb (.int .i64 (ov + 1))).setCell (p := ⟨w.heap.size, 0, none⟩) (Nat.le_refl _) (.int .i64 2)).setCell (p := ⟨w.heap.size, 1, none⟩) (Nat.le_refl _) (.int .i64 bits)).setCell (p := ⟨w.heap.size, 2, none⟩) (Nat.le_refl _) (.int .i64 frac)).setCell (p := ⟨w.heap.size, 3, none⟩) (Nat.le_refl _) (.int .i64 (r + 1)) |>.setCell (p := ⟨w.heap.size, 4, none⟩) (Nat.le_refl _) (.int .i64 (ov + 1)))
      clear hwb hbtw
      cases ok
      · go_wp2
        refine bodyPost_ret (v := .tuple #[.agg #[.int .i64 2, .int .i64 bits, .int .i64 frac, .int .i64 (r + 1), .int .i64 (ov + 1)], .bool false]) (by simp [results, Tryz.results71, go_sem, *]) rfl ?_
        exact ⟨by rw [HE.out]; rfl, HF.out⟩
      · go_wp2
        refine bodyPost_ret (v := .tuple #[.agg #[.int .i64 2, .int .i64 bits, .int .i64 frac, .int .i64 (r + 1), .int .i64 (ov + 1)], .bool is]) (by simp [results, Tryz.results71, go_sem, *]) rfl ?_
        exact ⟨by rw [HE.out]; rfl, HF.out⟩
    · have HE : Hid (R = (y0, false)) := Lib.hid (by rw [← HR1.out, if_pos e0])
      rw [decide_eq_false e0] at q0
      have qn := bne_lit q0
      clear e0 HR1 p3 p4 HI1 HI2 HP3 HP4 hc1 hc2 hc3 hc4
      generalize bst (L.getD 0 []) = S0 at *
      go_enter Tryz.func71, Tryz.ntmps71
      go_wp2
      have HF := Lib.hid ((Up.refl w).alloc (.cells #[.int .i64 (0), .int .i64 (0), .int .i64 (0), .int .i64 (0), .int .i64 (0)] 40))
      refine bodyPost_ret (v := .tuple #[.agg #[.int .i64 (0), .int .i64 (0), .int .i64 (0), .int .i64 (0), .int .i64 (0)], .bool (false)]) (by simp [results, Tryz.results71, go_sem, *]) rfl ?_
      exact ⟨by rw [HE.out]; (try rfl), HF.out⟩
  · have m5 : ((m : Int) == 5) = false := by simp; omega
    have m5n : ((m : Int) != 5) = true := by rw [bne, m5]; rfl
    have HE : Hid (R = (y0, false)) := Lib.hid (by rw [← HR.out, if_neg (fun h => h1 h.1), if_neg (fun h => h1 h.1), if_pos (.inl h5)])
    clear HR h1 h5
    go_enter Tryz.func71, Tryz.ntmps71
    go_wp2
    have HF := Lib.hid ((Up.refl w).alloc (.cells #[.int .i64 (0), .int .i64 (0), .int .i64 (0), .int .i64 (0), .int .i64 (0)] 40))
    refine bodyPost_ret (v := .tuple #[.agg #[.int .i64 (0), .int .i64 (0), .int .i64 (0), .int .i64 (0), .int .i64 (0)], .bool (false)]) (by simp [results, Tryz.results71, go_sem, *]) rfl ?_
    exact ⟨by rw [HE.out]; (try rfl), HF.out⟩
end Go.Proofs.YtlglfdhiopnglaaGreatDoor
