/-
  The examples of the law's package. Printed by mkDgXm.py.
-/
import Derived.Test.YtpccaifhcmcegaaGreatHl
import Derived.Test.YtpccaifhcmcegaaGreatHq
import Derived.Test.YtpccaifhcmcegaaGreatHz
namespace Go.Proofs.YtpccaifhcmcegaaGreat
set_option linter.unusedSimpArgs false
open Go.ChangeShapes Go.WideShapes Go.ChangeAt Go.RowKit
set_option linter.unusedVariables false
set_option maxRecDepth 100000

set_option maxHeartbeats 4000000 in
theorem law_read (s : ByteArray) (w : World) (hs : s.size ≤ maxLen) :
    Calls Tryz.prog 12 #[.string s] w fun e w' => e = .returned (.agg #[.int .i64 3, .string s, .int .i64 0, .int .i64 0, .int .i64 0, .int .i64 0, .int .i64 0, .int .i64 0, .int .i64 0, .int .i64 0, .slice none 0 0, .slice none 0 0, .slice none 0 0]) ∧ Up w w' := by
  have HFL := Lib.hid (run_fill (P := Tryz.prog) (k := 13) ex_i w (Z := #[.int .i64 0, .string ByteArray.empty, .int .i64 0, .int .i64 0, .int .i64 0, .int .i64 0, .int .i64 0, .int .i64 0, .int .i64 0, .int .i64 0, .slice none 0 0, .slice none 0 0, .slice none 0 0]) (cs := #[.int .i64 3, .string s, .int .i64 0, .int .i64 0, .int .i64 0, .int .i64 0, .int .i64 0, .int .i64 0, .int .i64 0, .int .i64 0, .slice none 0 0, .slice none 0 0, .slice none 0 0]) rfl rfl (by simp [Value.oneCell']))
  have HBX := Lib.hid (BoxC.new w 48 #[.int .i64 3, .string s, .int .i64 0, .int .i64 0, .int .i64 0, .int .i64 0, .int .i64 0, .int .i64 0, .int .i64 0, .int .i64 0, .slice none 0 0, .slice none 0 0, .slice none 0 0])
  go_enter Tryz.func12, Tryz.ntmps12
  go_wp2_with (refine st_store HFL.out (by rfl) (by rfl) ?_)
  exact bodyPost_ret (v := .agg #[.int .i64 3, .string s, .int .i64 0, .int .i64 0, .int .i64 0, .int .i64 0, .int .i64 0, .int .i64 0, .int .i64 0, .int .i64 0, .slice none 0 0, .slice none 0 0, .slice none 0 0]) (results_c1 (by rfl) (by rfl) (run_exV rfl HBX.out.range)) rfl ⟨rfl, (Up.refl w).alloc _⟩
theorem ty_info : (Tryz.prog.info? 38).map (·.size) = some 5 := by kernel_rfl
theorem run_build3 {T E : TypeId} {k B : Nat} (hT : RowT T E k B) (hk : k ≤ 1000) {c1 c2 c3 : Array Value} (h1 : c1.size = k) (h2 : c2.size = k) (h3 : c3.size = k) (w : World) :
    (Instr.buildSlice T 3 #[(0, .agg c1), (1, .agg c2), (2, .agg c3)]).run Tryz.prog w = .ok (.slice (some ⟨w.heap.size, 0, none⟩) 3 3) (w.alloc (.cells (c1 ++ c2 ++ c3) E)) := by
  obtain ⟨i, z, i0, i1, i2, i3, i4⟩ := hT.info
  have hp := hT.pos
  refine run_buildSlice w T E 3 _ (c1 ++ c2 ++ c3) i z hT.sl i0 i1 (by rw [i2]; omega) (by rw [i2]; omega) ?_
  rw [i2]
  have h := Great.fill_whole (s := k) hp [.agg c1, .agg c2, .agg c3] ((Array.range (3 * k)).map (z.cells[· % z.cells.size]!)) (fun v hv => by
    simp only [List.mem_cons, List.not_mem_nil, or_false] at hv
    rcases hv with rfl | rfl | rfl
    · exact h1
    · exact h2
    · exact h3) (by simp)
  have e : c1 ++ c2 ++ c3 = (c1.toList ++ (c2.toList ++ c3.toList)).toArray := by apply Array.ext'; simp
  rw [e]
  simpa [Value.cells] using h
theorem ex_dfR (n s : ByteArray) (hn : n.size ≤ maxLen) (hs : s.size ≤ maxLen) (W : World) : defR 1 W (fun j => (#[.string n, .int .i64 1, .int .i64 0, .int .i64 0, .int .i64 0, .int .i64 0, .slice none 0 0, .slice none 0 0, .int .i64 0, .int .i64 3, .string s, .int .i64 0, .int .i64 0, .int .i64 0, .int .i64 0, .int .i64 0, .int .i64 0, .int .i64 0, .int .i64 0, .slice none 0 0, .slice none 0 0, .slice none 0 0] : Array Value).getD j undef) ⟨n, exT, [], [], 0, rdE s⟩ :=
  ⟨⟨rfl, hn⟩, ⟨rfl, rfl, rfl, rfl, rfl⟩, LsAt.nil _ _ _ _, LsAt.nil _ _ _ _, rfl, rfl, ⟨rfl, hs⟩, rfl, rfl, ⟨rfl, rfl, rfl, rfl, rfl⟩, ⟨rfl, LsAt.nil _ _ _ _⟩, LsAt.nil _ _ _ _, LsAt.nil _ _ _ _⟩
theorem wpMk_build3 {ops : Array Oper} {w : World} {M : FuncId → Array Value → Value → World → Prop} {L : Act → (World → Prop) → Prop} (hL : AntiS (w := w) L) {rest : List Oper} {a : Act} {S : World → Prop} {T E : TypeId} {k B : Nat} (hT : RowT T E k B) (hk : k ≤ 1000) {c1 c2 c3 : Array Value} (h1 : c1.size = k) (h2 : c2.size = k) (h3 : c3.size = k) {dst : Option Nat} {y1 y2 y3 : Operand} {ty : TypeId} {pos : String} {af : Array Edge} (hy1 : a.eval y1 = .agg c1) (hy2 : a.eval y2 = .agg c2) (hy3 : a.eval y3 = .agg c3)
    (h : ∀ b, w.heap.size ≤ b → wpMk Tryz.prog ops M w L rest (a.put dst (.slice (some ⟨b, 0, none⟩) 3 3)) (fun x => S x ∧ x.heap[b]? = some (.cells (c1 ++ c2 ++ c3) E (0, 0)))) : wpMk Tryz.prog ops M w L ({ dst := dst, op := .buildSlice T 3 #[(0, y1), (1, y2), (2, y3)], type := ty, pos := pos, after := af, guard := none } :: rest) a S := by
  refine wpMk_any hL (fun v y => ∃ b, v = .slice (some ⟨b, 0, none⟩) 3 3 ∧ w.heap.size ≤ b ∧ y.heap[b]? = some (.cells (c1 ++ c2 ++ c3) E (0, 0))) (fun v x y ⟨b, h1, h2, h3⟩ hu => ⟨b, h1, h2, by rw [hu.heap b (Array.getElem?_eq_some_iff.1 h3).1]; exact h3⟩) rfl
    (fun x hx => ⟨_, _, by
      unfold execOp
      have e : (#[(0, y1), (1, y2), (2, y3)].map fun (p : Nat × Operand) => (p.1, a.eval p.2)) = #[(0, Value.agg c1), (1, Value.agg c2), (2, Value.agg c3)] := by simp [hy1, hy2, hy3]
      simp only [e, run_build3 hT hk h1 h2 h3, Sem.run_bind, Sem.run_pure, Result.andThen_ok], (Up.refl x).alloc _, x.heap.size, rfl, hx.size, heap_alloc_new x _⟩) (fun v ⟨y, _, b, h1, h2, _⟩ => ?_)
  subst h1
  refine wpMk_anti hL _ _ _ _ (fun x _ ⟨h3, b', h4, h5, h6⟩ => ?_) (h b h2)
  cases h4
  exact ⟨h3, h6⟩
theorem cat3_get {c1 c2 c3 : Array Value} {k : Nat} (h1 : c1.size = k) (h2 : c2.size = k) (h3 : c3.size = k) (i j : Nat) (hi : i < 3) (hj : j < k) : (c1 ++ c2 ++ c3)[i * k + j]? = some ((if i = 0 then c1 else if i = 1 then c2 else c3).getD j undef) := by
  have key : ∀ c : Array Value, c.size = k → c[j]? = some (c.getD j undef) := fun c hc => by
    rw [Array.getD_eq_getD_getElem?, Array.getElem?_eq_getElem (by omega)]; rfl
  rcases (by omega : i = 0 ∨ i = 1 ∨ i = 2) with rfl | rfl | rfl
  · rw [Nat.zero_mul, Nat.zero_add, Array.getElem?_append_left (by rw [Array.size_append]; omega), Array.getElem?_append_left (by omega), if_pos rfl]
    exact key c1 h1
  · rw [Nat.one_mul, Array.getElem?_append_left (by rw [Array.size_append]; omega), Array.getElem?_append_right (by omega), h1, Nat.add_sub_cancel_left, if_neg (by decide), if_pos rfl]
    exact key c2 h2
  · rw [Array.getElem?_append_right (by rw [Array.size_append]; omega), Array.size_append, h1, h2, show 2 * k + j - (k + k) = j by omega, if_neg (by decide), if_neg (by decide)]
    exact key c3 h3
theorem lay_strs (W : World) (l : List ByteArray) (n : Nat) (cs : Array Value) (hn : l.length = n) (hc : cs = (l.map Value.string).toArray) (hl : ∀ s ∈ l, s.size ≤ 5) (hk : n ≤ 1000) : LsAt 1 16 strR (W.alloc (.cells cs 9)) (.slice (some ⟨W.heap.size, 0, none⟩) n n) l := by
  subst hn hc
  refine ⟨⟨_, _, rfl, Nat.le_refl _⟩, by omega, fun i _ => (l.map Value.string).getD i undef, SlAt.lay W 9 _ _ 1 _ (by omega) (fun i j hi hj => ?_), fun i hi => ?_⟩
  · obtain rfl : j = 0 := by omega
    rw [Nat.mul_one, Nat.add_zero, List.getElem?_toArray, List.getD_eq_getElem?_getD, List.getElem?_eq_getElem (by rw [List.length_map]; exact hi)]; rfl
  · refine ⟨?_, by have := hl _ (List.getElem_mem hi); unfold maxLen; omega⟩
    show (l.map Value.string).getD i undef = _
    rw [List.getD_eq_getElem?_getD, List.getElem?_map, List.getElem?_eq_getElem hi]; rfl
theorem open_strs {f : FuncId} {args : Array Value} {x : World} {B n : Nat} {l : List ByteArray} (h : Calls Tryz.prog f args x fun e y => ∃ u, e = .returned u ∧ Up x y ∧ LsN B y u l) {m : List ByteArray} (hl : l = m) (hn : m.length = n) :
    Calls Tryz.prog f args x fun e y => ∃ a c, e = .returned (.slice a n c) ∧ Up x y ∧ LsAt 1 16 strR y (.slice a n c) m := by
  subst hl hn
  exact h.mono fun e y ⟨u, he, hu, hl⟩ => by
    obtain ⟨a, c, rfl, _⟩ := hl.1.shape
    exact ⟨a, c, he, hu, hl.1⟩
/-- What Levels returns of the examples' program. -/
theorem ex_Levels {v : Value} {x : World} (h : ProgAt 1 x v exP) : Calls Tryz.prog 13 #[v] x fun e y => ∃ (g o : Nat) (lc : Nat) (ra : Option Addr) (rc : Nat) (rb : Option Addr) (rd : Nat), e = .returned (.slice (some ⟨g, o, none⟩) 2 lc) ∧ Up x y ∧ g < y.heap.size ∧ y.cell? ⟨g, o, none⟩ = some (.slice ra 2 rc) ∧ y.cell? ⟨g, o + 1, none⟩ = some (.slice rb 1 rd) ∧ LsAt 1 16 strR y (.slice ra 2 rc) [bB, bD] ∧ LsAt 1 16 strR y (.slice rb 1 rd) [bC] :=
  (p_Levels 1 exP v x h ex_tot (by decide)).mono fun e y ⟨u, he, hu, hl⟩ => by
    rw [ex_lv] at hl
    obtain ⟨a, c, rfl, _⟩ := id hl.shape
    obtain ⟨g, o, f, e0, hg, hf, h0⟩ := hl.elem 0 (by decide)
    obtain ⟨g', o', f', e1, hg', hf', h1⟩ := hl.elem 1 (by decide)
    subst e0
    cases e1
    have h0 : LsAt 1 16 strR y (f 0) [bB, bD] := h0
    have h1 : LsAt 1 16 strR y (f' 0) [bC] := h1
    obtain ⟨ra, rc, r0, _⟩ := h0.shape
    obtain ⟨rb, rd, r1, _⟩ := h1.shape
    have c0 := hf 0 (by decide)
    have c1 := hf' 0 (by decide)
    rw [r0] at c0 h0
    rw [r1] at c1 h1
    exact ⟨g, o, c, ra, rc, rb, rd, he, hu, hg, c0, c1, h0, h1⟩
/-- What TopoSort returns of it. -/
theorem ex_Topo {v : Value} {x : World} (h : ProgAt 1 x v exP) : Calls Tryz.prog 6 #[v] x fun e y => ∃ (q0 q1 q2 q4 : Value) (da : Option Addr) (dc : Nat), e = .returned (.tuple #[.agg #[q0, q1, q2, .slice da 3 dc, q4], .int .i64 0]) ∧ Up x y ∧ (#[q0, q1, q2, .slice da 3 dc, q4] : Array Value).all (·.oneCell') = true :=
  (p_TopoSort 1 exP v x h ex_tot (by decide)).mono fun e y ⟨u, he, hu, hp⟩ => by
    obtain ⟨l, h1, h2⟩ := ex_topo
    rw [topoF_some h1] at he hp
    obtain ⟨sa, sc, ca, cc, pa, pc, da, dc, oa, oc, rfl, -⟩ := hp.open
    dsimp only at he
    rw [h2] at he
    exact ⟨_, _, _, _, da, dc, he, hu, by simp [Value.oneCell']⟩
theorem ex_Rm {v : Value} {x : World} (h : ProgAt 1 x v exP) : Calls Tryz.prog 18 #[v] x fun e y => ∃ (q0 q1 q2 q4 : Value) (da : Option Addr) (dc : Nat), e = .returned (.agg #[q0, q1, q2, .slice da 2 dc, q4]) ∧ Up x y :=
  (p_RemoveDead 1 exP v x h ex_tot (by decide) (by decide)).mono fun e y ⟨u, he, hu, hp⟩ => by
    obtain ⟨sa, sc, ca, cc, pa, pc, da, dc, oa, oc, rfl, -⟩ := hp.open
    rw [ex_rm] at he
    exact ⟨_, _, _, _, da, dc, he, hu⟩
theorem ls3 {α : Type} {k B : Nat} {R : Rel α} {E : TypeId} {W : World} {b : Nat} {c1 c2 c3 : Array Value} {x1 x2 x3 : α} (h1 : c1.size = k) (h2 : c2.size = k) (h3 : c3.size = k) (hB : B ≤ 1000000) (h : W.heap[b]? = some (.cells (c1 ++ c2 ++ c3) E (0, 0))) (d1 : R W (fun j => c1.getD j undef) x1) (d2 : R W (fun j => c2.getD j undef) x2) (d3 : R W (fun j => c3.getD j undef) x3) : LsAt k B R W (.slice (some ⟨b, 0, none⟩) 3 3) [x1, x2, x3] := by
  refine ⟨⟨_, 3, rfl, Nat.le_refl _⟩, by show 3 * B ≤ _; omega, fun i j => (if i = 0 then c1 else if i = 1 then c2 else c3).getD j undef, ⟨⟨_, _, rfl, (fun h => nomatch h), fun y hy _ => ?_⟩, by simp⟩, fun i hi => ?_⟩
  · cases hy
    refine ⟨rfl, (Array.getElem?_eq_some_iff.1 h).1, fun i j hi hj => ?_⟩
    rw [cell_of_row _ _ _ _ _ _ h]
    show (c1 ++ c2 ++ c3)[0 + i * k + j]? = _
    rw [Nat.zero_add]
    exact cat3_get h1 h2 h3 i j hi hj
  · have h3 : i < 3 := hi
    rcases (by omega : i = 0 ∨ i = 1 ∨ i = 2) with rfl | rfl | rfl
    · exact d1
    · exact d2
    · exact d3
theorem ls_exP {W : World} {b : Nat} (h : W.heap[b]? = some (.cells (#[.string bB, .int .i64 1, .int .i64 0, .int .i64 0, .int .i64 0, .int .i64 0, .slice none 0 0, .slice none 0 0, .int .i64 0, .int .i64 3, .string bA, .int .i64 0, .int .i64 0, .int .i64 0, .int .i64 0, .int .i64 0, .int .i64 0, .int .i64 0, .int .i64 0, .slice none 0 0, .slice none 0 0, .slice none 0 0] ++ #[.string bC, .int .i64 1, .int .i64 0, .int .i64 0, .int .i64 0, .int .i64 0, .slice none 0 0, .slice none 0 0, .int .i64 0, .int .i64 3, .string bB, .int .i64 0, .int .i64 0, .int .i64 0, .int .i64 0, .int .i64 0, .int .i64 0, .int .i64 0, .int .i64 0, .slice none 0 0, .slice none 0 0, .slice none 0 0] ++ #[.string bD, .int .i64 1, .int .i64 0, .int .i64 0, .int .i64 0, .int .i64 0, .slice none 0 0, .slice none 0 0, .int .i64 0, .int .i64 3, .string bA, .int .i64 0, .int .i64 0, .int .i64 0, .int .i64 0, .int .i64 0, .int .i64 0, .int .i64 0, .int .i64 0, .slice none 0 0, .slice none 0 0, .slice none 0 0]) 50 (0, 0))) : LsAt 22 272 (defR 1) W (.slice (some ⟨b, 0, none⟩) 3 3) exP.defs :=
  have hz : ∀ s : ByteArray, s.size ≤ 5 → s.size ≤ maxLen := fun s h => by unfold maxLen; omega
  ls3 rfl rfl rfl (by decide) h (ex_dfR bB bA (hz _ (by decide)) (hz _ (by decide)) W) (ex_dfR bC bB (hz _ (by decide)) (hz _ (by decide)) W) (ex_dfR bD bA (hz _ (by decide)) (hz _ (by decide)) W)

set_option maxHeartbeats 16000000 in
theorem law_examples (w : World) : Calls Tryz.prog 5 #[] w fun e w' => e = .returned (.bool true) ∧ Up w w' := by
  have hz : ∀ s : ByteArray, s.size ≤ 5 → s.size ≤ maxLen := fun s h => by unfold maxLen; omega
  have HRA := Lib.hid (fun y => law_read ⟨#[97]⟩ y (hz _ (by decide)))
  have HRB := Lib.hid (fun y => law_read ⟨#[98]⟩ y (hz _ (by decide)))
  have HFT := Lib.hid (run_fill (P := Tryz.prog) (k := 5) ty_info w (Z := #[.int .i64 0, .int .i64 0, .int .i64 0, .int .i64 0, .int .i64 0]) (cs := #[.int .i64 1, .int .i64 0, .int .i64 0, .int .i64 0, .int .i64 0]) rfl rfl (by simp [Value.oneCell']))
  have HBT := Lib.hid (BoxC.new w 38 #[.int .i64 1, .int .i64 0, .int .i64 0, .int .i64 0, .int .i64 0])
  have HU0 := Lib.hid ((Up.refl w).alloc (.cells #[.int .i64 1, .int .i64 0, .int .i64 0, .int .i64 0, .int .i64 0] 38))
  clear hz
  go_enter Tryz.func5, Tryz.ntmps5
  go_upto_region 2 with (refine st_store HFT.out (by rfl) (by rfl) ?_)
  obtain ⟨W, hW⟩ : ∃ W, w.alloc (.cells #[.int .i64 1, .int .i64 0, .int .i64 0, .int .i64 0, .int .i64 0] 38) = W := ⟨_, rfl⟩
  rw [hW] at HBT HU0 ⊢
  obtain ⟨t0, t1, t2, t3, t4⟩ := HBT.out.five
  have ts := HBT.out.lt
  clear hW HFT
  refine wp_region_mk 16 (fun f args v x => ∀ s : ByteArray, args = #[.string s] → v = .agg #[.int .i64 3, .string s, .int .i64 0, .int .i64 0, .int .i64 0, .int .i64 0, .int .i64 0, .int .i64 0, .int .i64 0, .int .i64 0, .slice none 0 0, .slice none 0 0, .slice none 0 0]) (by kernel_rfl) (by kernel_rfl) ?_
  simp only [List.take_succ_cons, List.take_zero, List.drop_succ_cons, List.drop_zero, Act.put]
  iterate 2 (refine wpMk_quiet anti_post (by kernel_rfl) ?_; go_big_quiet_step (fail); refine wpQuiet_nil ?_)
  refine wpMk_build anti_post rowT_par (by decide) (cs := #[.string bA, .int .i64 1, .int .i64 0, .int .i64 0, .int .i64 0, .int .i64 0, .slice none 0 0]) rfl (by rfl) ?_
  intro b1 hb1
  simp only [Act.put, List.setIfInBounds_toArray, List.set_cons_succ, List.set_cons_zero]
  iterate 1 (refine wpMk_quiet anti_post (by kernel_rfl) ?_; go_big_quiet_step (fail); refine wpQuiet_nil ?_)
  refine wpMk_enter anti_post 12 #[.string ⟨#[97]⟩] (fun v x y h hu => h) (by kernel_rfl) (fun x => by go_simp) (fun x hx => (HRA.out x).mono fun e w' ⟨h1, h2⟩ => ⟨_, h1, h2, fun s hs => by cases hs; rfl⟩) ?_
  rintro v1 ⟨y1, -, hv1⟩
  obtain rfl := hv1 _ rfl
  simp only [Act.put, List.setIfInBounds_toArray, List.set_cons_succ, List.set_cons_zero]
  iterate 2 (refine wpMk_quiet anti_post (by kernel_rfl) ?_; go_big_quiet_step (fail); refine wpQuiet_nil ?_)
  refine wpMk_enter anti_post 12 #[.string ⟨#[98]⟩] (fun v x y h hu => h) (by kernel_rfl) (fun x => by go_simp) (fun x hx => (HRB.out x).mono fun e w' ⟨h1, h2⟩ => ⟨_, h1, h2, fun s hs => by cases hs; rfl⟩) ?_
  rintro v2 ⟨y2, -, hv2⟩
  obtain rfl := hv2 _ rfl
  simp only [Act.put, List.setIfInBounds_toArray, List.set_cons_succ, List.set_cons_zero]
  iterate 2 (refine wpMk_quiet anti_post (by kernel_rfl) ?_; go_big_quiet_step (fail); refine wpQuiet_nil ?_)
  refine wpMk_enter anti_post 12 #[.string ⟨#[97]⟩] (fun v x y h hu => h) (by kernel_rfl) (fun x => by go_simp) (fun x hx => (HRA.out x).mono fun e w' ⟨h1, h2⟩ => ⟨_, h1, h2, fun s hs => by cases hs; rfl⟩) ?_
  rintro v3 ⟨y3, -, hv3⟩
  obtain rfl := hv3 _ rfl
  simp only [Act.put, List.setIfInBounds_toArray, List.set_cons_succ, List.set_cons_zero]
  iterate 1 (refine wpMk_quiet anti_post (by kernel_rfl) ?_; go_big_quiet_step (fail); refine wpQuiet_nil ?_)
  refine wpMk_build3 anti_post rowT_def (by decide) (c1 := #[.string bB, .int .i64 1, .int .i64 0, .int .i64 0, .int .i64 0, .int .i64 0, .slice none 0 0, .slice none 0 0, .int .i64 0, .int .i64 3, .string bA, .int .i64 0, .int .i64 0, .int .i64 0, .int .i64 0, .int .i64 0, .int .i64 0, .int .i64 0, .int .i64 0, .slice none 0 0, .slice none 0 0, .slice none 0 0]) (c2 := #[.string bC, .int .i64 1, .int .i64 0, .int .i64 0, .int .i64 0, .int .i64 0, .slice none 0 0, .slice none 0 0, .int .i64 0, .int .i64 3, .string bB, .int .i64 0, .int .i64 0, .int .i64 0, .int .i64 0, .int .i64 0, .int .i64 0, .int .i64 0, .int .i64 0, .slice none 0 0, .slice none 0 0, .slice none 0 0]) (c3 := #[.string bD, .int .i64 1, .int .i64 0, .int .i64 0, .int .i64 0, .int .i64 0, .slice none 0 0, .slice none 0 0, .int .i64 0, .int .i64 3, .string bA, .int .i64 0, .int .i64 0, .int .i64 0, .int .i64 0, .int .i64 0, .int .i64 0, .int .i64 0, .int .i64 0, .slice none 0 0, .slice none 0 0, .slice none 0 0]) rfl rfl rfl (by rfl) (by rfl) (by rfl) ?_
  intro b2 hb2
  simp only [Act.put, List.setIfInBounds_toArray, List.set_cons_succ, List.set_cons_zero]
  refine wpMk_rowT anti_post #[.string ⟨#[99]⟩] 9 1 (by kernel_rfl) (fun x => by go_simp) ?_
  intro b4 hb4
  simp only [Act.put, List.setIfInBounds_toArray, List.set_cons_succ, List.set_cons_zero]
  iterate 1 (refine wpMk_quiet anti_post (by kernel_rfl) ?_; go_big_quiet_step (fail); refine wpQuiet_nil ?_)
  refine wpMk_alloc anti_post #[.slice none 0 0, .slice none 0 0, .slice none 0 0, .slice none 0 0, .slice none 0 0] 27 (by kernel_rfl) (fun x => by go_simp) ?_
  intro b5 hb5
  simp only [Act.put, List.setIfInBounds_toArray, List.set_cons_succ, List.set_cons_zero]
  refine wpMk_nil ?_
  rintro z hz hall
  obtain ⟨⟨⟨⟨⟨⟨⟨-, k1⟩, -⟩, -⟩, -⟩, k2⟩, k4⟩, k5⟩ := hall
  have hz' : ∀ s : ByteArray, s.size ≤ 5 → s.size ≤ maxLen := fun s h => by unfold maxLen; omega
  have HK5 := Lib.hid (show BoxC z b5 27 #[.slice none 0 0, .slice none 0 0, .slice none 0 0, .slice none 0 0, .slice none 0 0] from k5)
  have hne : ∀ (b : Nat) (cs : Array Value) (T : TypeId), z.heap[b]? = some (.cells cs T (0, 0)) → T ≠ 27 → b ≠ b5 := fun b cs T h hT e => by
    subst e
    rw [h] at k5
    cases k5
    exact hT rfl
  have HPT := Lib.hid (run_put (P := Tryz.prog) (k := 5) prog_info k5 (cs := #[.slice none 0 0, .slice none 0 0, .slice (some ⟨b1, 0, none⟩) 1 1, .slice (some ⟨b2, 0, none⟩) 3 3, .slice (some ⟨b4, 0, none⟩) 1 1]) rfl rfl (by simp [Value.oneCell']))
  have HBX := Lib.hid (HK5.out.row #[.slice none 0 0, .slice none 0 0, .slice (some ⟨b1, 0, none⟩) 1 1, .slice (some ⟨b2, 0, none⟩) 3 3, .slice (some ⟨b4, 0, none⟩) 1 1])
  have k1' : (z.setRow b5 #[.slice none 0 0, .slice none 0 0, .slice (some ⟨b1, 0, none⟩) 1 1, .slice (some ⟨b2, 0, none⟩) 3 3, .slice (some ⟨b4, 0, none⟩) 1 1]).heap[b1]? = _ := (setRow_other _ _ _ _ (hne b1 _ _ k1 (by decide))).trans k1
  have k2' : (z.setRow b5 #[.slice none 0 0, .slice none 0 0, .slice (some ⟨b1, 0, none⟩) 1 1, .slice (some ⟨b2, 0, none⟩) 3 3, .slice (some ⟨b4, 0, none⟩) 1 1]).heap[b2]? = _ := (setRow_other _ _ _ _ (hne b2 _ _ k2 (by decide))).trans k2
  have k4' : (z.setRow b5 #[.slice none 0 0, .slice none 0 0, .slice (some ⟨b1, 0, none⟩) 1 1, .slice (some ⟨b2, 0, none⟩) 3 3, .slice (some ⟨b4, 0, none⟩) 1 1]).heap[b4]? = _ := (setRow_other _ _ _ _ (hne b4 _ _ k4 (by decide))).trans k4
  have HPG : Hid (ProgAt 1 (z.setRow b5 #[.slice none 0 0, .slice none 0 0, .slice (some ⟨b1, 0, none⟩) 1 1, .slice (some ⟨b2, 0, none⟩) 3 3, .slice (some ⟨b4, 0, none⟩) 1 1]) (.agg #[.slice none 0 0, .slice none 0 0, .slice (some ⟨b1, 0, none⟩) 1 1, .slice (some ⟨b2, 0, none⟩) 3 3, .slice (some ⟨b4, 0, none⟩) 1 1]) exP) := Lib.hid (ProgAt.mk (LsAt.nil _ _ _ _) (LsAt.nil _ _ _ _) (LsAt.blk rfl (by decide) k1' ⟨⟨rfl, hz' _ (by decide)⟩, ⟨rfl, rfl, rfl, rfl, rfl⟩, LsAt.nil _ _ _ _⟩) (ls_exP k2') (LsAt.blk rfl (by decide) k4' ⟨rfl, hz' _ (by decide)⟩))
  have HU1 := Lib.hid ((HU0.out.trans hz).grown' (setRow_by z b5 #[.slice none 0 0, .slice none 0 0, .slice (some ⟨b1, 0, none⟩) 1 1, .slice (some ⟨b2, 0, none⟩) 3 3, .slice (some ⟨b4, 0, none⟩) 1 1]) (fun k e => by cases e; have := HU0.out.size; omega))
  clear k1 k2 k4 k5 k1' k2' k4' hne hz hv1 hv2 hv3 HK5 t0 t1 t2 t3 t4 ts hz'
  go_upto_region 3 with (refine st_store HPT.out (by rfl) (by rfl) ?_)
  obtain ⟨V, hV⟩ : ∃ V, z.setRow b5 #[.slice none 0 0, .slice none 0 0, .slice (some ⟨b1, 0, none⟩) 1 1, .slice (some ⟨b2, 0, none⟩) 3 3, .slice (some ⟨b4, 0, none⟩) 1 1] = V := ⟨_, rfl⟩
  rw [hV] at HBX HPG HU1 ⊢
  clear hV HPT
  obtain ⟨pc, hpc⟩ : ∃ q : Array Value, #[.slice none 0 0, .slice none 0 0, .slice (some ⟨b1, 0, none⟩) 1 1, .slice (some ⟨b2, 0, none⟩) 3 3, .slice (some ⟨b4, 0, none⟩) 1 1] = q := ⟨_, rfl⟩
  have hps : pc.size = 5 := by rw [← hpc]; rfl
  rw [hpc] at HBX HPG
  clear hpc
  have HLP := Lib.hid (fun x (hx : Up V x) => run_cs (P := Tryz.prog) Tryz.underlying27 rfl prog_info hps ((HBX.out.up hx).range))
  have HPX := Lib.hid (fun x (hx : Up V x) => HPG.out.up hx)
  clear hps
  go_upto_region 6 with (first
    | (go_at_call 14; (with_reducible refine HS2.out.mono ?_); rintro e' x3 ⟨rfl, hy⟩; have HV3 := Lib.hid ((HV2.out.alloc (.cells #[.string ⟨#[99]⟩] 9)).trans hy); clear hy)
    | (go_at_call 14; (with_reducible refine HS1.out.mono ?_); rintro e' x2 ⟨rfl, hy⟩; have HV2 := Lib.hid ((HV1.out.alloc (.cells #[.string ⟨#[98]⟩, .string ⟨#[100]⟩] 9)).trans hy); have hxx := ((Up.refl x1).alloc (.cells #[.string ⟨#[98]⟩, .string ⟨#[100]⟩] 9)).trans hy; have c1 : x2.cell? ⟨g1, o1 + 1, none⟩ = some (.slice rb 1 rd) := (hxx.cell _ _ hg1).trans c1; have hg2 : g1 < x2.heap.size := Nat.lt_of_lt_of_le hg1 hxx.size; have H1' := Lib.hid (H1.out.up strR_up hxx); have HS2 := Lib.hid (base_Strings (.slice rb 1 rd) (.slice (some ⟨x2.heap.size, 0, none⟩) 1 1) [bC] [bC] (x2.alloc (.cells #[.string ⟨#[99]⟩] 9)) (H1'.out.up strR_up ((Up.refl x2).alloc _)) (lay_strs x2 [bC] 1 #[.string ⟨#[99]⟩] rfl rfl (by decide) (by decide)) true (decide_eq_true rfl)); clear hxx; clear hy)
    | (go_at_call 13; (with_reducible refine (ex_Levels (HPX.out V (Up.refl V))).mono ?_); rintro e' x1 ⟨g1, o1, lc1, ra, rc, rb, rd, rfl, hy, hg1, c0, c1, h0, h1⟩; have HV1 := Lib.hid hy; have H0 := Lib.hid h0; have H1 := Lib.hid h1; have HS1 := Lib.hid (base_Strings (.slice ra 2 rc) (.slice (some ⟨x1.heap.size, 0, none⟩) 2 2) [bB, bD] [bB, bD] (x1.alloc (.cells #[.string ⟨#[98]⟩, .string ⟨#[100]⟩] 9)) (H0.out.up strR_up ((Up.refl x1).alloc _)) (lay_strs x1 [bB, bD] 2 #[.string ⟨#[98]⟩, .string ⟨#[100]⟩] rfl rfl (by decide) (by decide)) true (decide_eq_true rfl)); clear hy h0 h1)
    | (refine st_load (HLP.out V (Up.refl V)) (by rfl) ?_))
  have HT4 := Lib.hid (ex_Topo (HPX.out x3 HV3.out))
  have HLP3 := Lib.hid (HLP.out x3 HV3.out)
  clear c0 c1 hg1 hg2 H0 H1 H1' HS1 HS2
  have hfd := run_defsF
  obtain ⟨pcV, hpv⟩ : ∃ q, Value.agg pc = q := ⟨_, rfl⟩
  rw [hpv] at HLP HPX HLP3 HT4
  clear hpv
  go_wp2_with (first
    | (go_at_call 14; (with_reducible refine HSd.out.mono ?_); rintro e' y5 ⟨rfl, hy⟩; have HVe := Lib.hid ((HVd.out.alloc (.cells #[.string ⟨#[97]⟩, .string ⟨#[98]⟩, .string ⟨#[99]⟩] 9)).trans hy); clear hy)
    | (go_at_call 19; (with_reducible refine HIc.out.mono ?_); rintro e' y4 ⟨ma, mc, rfl, hy, hl⟩; have HVd := Lib.hid (HVc.out.trans hy); have HAd := Lib.hid hl; have HSd := Lib.hid (base_Strings (.slice ma 3 mc) (.slice (some ⟨y4.heap.size, 0, none⟩) 3 3) [bA, bB, bC] [bA, bB, bC] (y4.alloc (.cells #[.string ⟨#[97]⟩, .string ⟨#[98]⟩, .string ⟨#[99]⟩] 9)) (HAd.out.up strR_up ((Up.refl y4).alloc _)) (lay_strs y4 [bA, bB, bC] 3 #[.string ⟨#[97]⟩, .string ⟨#[98]⟩, .string ⟨#[99]⟩] rfl rfl (by decide) (by decide)) true (decide_eq_true rfl)); clear hy hl)
    | (refine st_loadG HLc.out (by rfl) (by rfl) ?_)
    | (go_at_call 18; (with_reducible refine HIb.out.mono ?_); rintro e' y3 ⟨r0, r1, r2, r4, ea, ec, rfl, hy⟩; have HVc := Lib.hid (HVb.out.trans hy); have HLc := Lib.hid (HLP.out _ HVc.out); have HIc := Lib.hid (open_strs (n := 3) (p_Between 1 exP pcV ⟨#[97]⟩ ⟨#[99]⟩ _ (HPX.out _ HVc.out) (by decide) ex_tot (by decide)) ex_btw rfl); clear hy)
    | (refine st_loadG HLb.out (by rfl) (by rfl) ?_)
    | (go_at_call 14; (with_reducible refine HSa.out.mono ?_); rintro e' y2 ⟨rfl, hy⟩; have HVb := Lib.hid ((HVa.out.alloc (.cells #[.string ⟨#[97]⟩, .string ⟨#[98]⟩, .string ⟨#[99]⟩] 9)).trans hy); have HLb := Lib.hid (HLP.out _ HVb.out); have HIb := Lib.hid (ex_Rm (HPX.out _ HVb.out)); clear hy)
    | (go_at_call 17; (with_reducible refine HI9.out.mono ?_); rintro e' y1 ⟨ka, kc, rfl, hy, hl⟩; have HVa := Lib.hid ((HV9.out.alloc (.cells #[.string ⟨#[99]⟩] 9)).trans hy); have HAa := Lib.hid hl; have HSa := Lib.hid (base_Strings (.slice ka 3 kc) (.slice (some ⟨y1.heap.size, 0, none⟩) 3 3) [bA, bB, bC] [bA, bB, bC] (y1.alloc (.cells #[.string ⟨#[97]⟩, .string ⟨#[98]⟩, .string ⟨#[99]⟩] 9)) (HAa.out.up strR_up ((Up.refl y1).alloc _)) (lay_strs y1 [bA, bB, bC] 3 #[.string ⟨#[97]⟩, .string ⟨#[98]⟩, .string ⟨#[99]⟩] rfl rfl (by decide) (by decide)) true (decide_eq_true rfl)); clear hy hl)
    | (refine st_loadG HL9.out (by rfl) (by rfl) ?_)
    | (go_at_call 14; (with_reducible refine HS8.out.mono ?_); rintro e' x9 ⟨rfl, hy⟩; have HV9 := Lib.hid ((HV8.out.alloc (.cells #[.string ⟨#[98]⟩, .string ⟨#[100]⟩] 9)).trans hy); have HL9 := Lib.hid (HLP.out _ HV9.out); have HI9 := Lib.hid (open_strs (n := 3) (p_Reachable 1 exP pcV (.slice (some ⟨x9.heap.size, 0, none⟩) 1 1) [bC] (x9.alloc (.cells #[.string ⟨#[99]⟩] 9)) (HPX.out _ (HV9.out.alloc _)) (lay_strs x9 [bC] 1 #[.string ⟨#[99]⟩] rfl rfl (by decide) (by decide)) (by decide) ex_tot (by decide)) ex_rchC rfl); clear hy)
    | (go_at_call 16; (with_reducible refine HI7.out.mono ?_); rintro e' x8 ⟨ja, jc, rfl, hy, hl⟩; have HV8 := Lib.hid (HV7.out.trans hy); have HA8 := Lib.hid hl; have HS8 := Lib.hid (base_Strings (.slice ja 2 jc) (.slice (some ⟨x8.heap.size, 0, none⟩) 2 2) [bB, bD] [bB, bD] (x8.alloc (.cells #[.string ⟨#[98]⟩, .string ⟨#[100]⟩] 9)) (HA8.out.up strR_up ((Up.refl x8).alloc _)) (lay_strs x8 [bB, bD] 2 #[.string ⟨#[98]⟩, .string ⟨#[100]⟩] rfl rfl (by decide) (by decide)) true (decide_eq_true rfl)); clear hy hl)
    | (refine st_loadG HL7.out (by rfl) (by rfl) ?_)
    | (go_at_call 14; (with_reducible refine HS6.out.mono ?_); rintro e' x7 ⟨rfl, hy⟩; have HV7 := Lib.hid ((HV6.out.alloc (.cells #[.string ⟨#[98]⟩] 9)).trans hy); have HL7 := Lib.hid (HLP.out _ HV7.out); have HI7 := Lib.hid (open_strs (n := 2) (p_Consumers 1 exP pcV ⟨#[97]⟩ _ (HPX.out _ HV7.out) (by decide) ex_tot (by decide)) ex_cons rfl); clear hy)
    | (go_at_call 15; (with_reducible refine HI5.out.mono ?_); rintro e' x6 ⟨ia, ic, rfl, hy, hl⟩; have HV6 := Lib.hid (HV5.out.trans hy); have HA6 := Lib.hid hl; have HS6 := Lib.hid (base_Strings (.slice ia 1 ic) (.slice (some ⟨x6.heap.size, 0, none⟩) 1 1) [bB] [bB] (x6.alloc (.cells #[.string ⟨#[98]⟩] 9)) (HA6.out.up strR_up ((Up.refl x6).alloc _)) (lay_strs x6 [bB] 1 #[.string ⟨#[98]⟩] rfl rfl (by decide) (by decide)) true (decide_eq_true rfl)); clear hy hl)
    | (refine st_loadG HL5.out (by rfl) (by rfl) ?_)
    | (refine st_store HFL.out (by rfl) (by rfl) ?_)
    | (go_at_call 6; (with_reducible refine HT4.out.mono ?_); rintro e' x4 ⟨q0, q1, q2, q4, da, dc, rfl, hy, hq⟩; have HV4 := Lib.hid (HV3.out.trans hy); have HFL := Lib.hid (run_fill (P := Tryz.prog) prog_info x4 (Z := #[.slice none 0 0, .slice none 0 0, .slice none 0 0, .slice none 0 0, .slice none 0 0]) (cs := #[q0, q1, q2, .slice da 3 dc, q4]) rfl rfl hq); have d3 : (x4.alloc (.cells #[q0, q1, q2, .slice da 3 dc, q4] 27)).cell? ⟨x4.heap.size, 3, none⟩ = some (.slice da 3 dc) := (BoxC.new x4 27 #[q0, q1, q2, .slice da 3 dc, q4]).five.2.2.2.1; have HV5 := Lib.hid (HV4.out.alloc (.cells #[q0, q1, q2, .slice da 3 dc, q4] 27)); have HL5 := Lib.hid (HLP.out _ HV5.out); have HI5 := Lib.hid (open_strs (n := 1) (p_Inputs 1 exP pcV ⟨#[99]⟩ _ (HPX.out _ HV5.out) ex_tot) ex_in rfl); clear hy hq)
    | (refine st_load HLP3.out (by rfl) ?_))
  go_ret
  exact ⟨rfl, HU1.out.trans HVe.out⟩
end Go.Proofs.YtpccaifhcmcegaaGreat

