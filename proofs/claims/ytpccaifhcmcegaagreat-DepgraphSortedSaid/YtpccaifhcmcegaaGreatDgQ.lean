/-
  Walk and Reads of the program's expr.
-/
import Derived.Test.YtpccaifhcmcegaaGreatHg

namespace Go.Proofs.YtpccaifhcmcegaaGreat
set_option linter.unusedSimpArgs false
open Go.Shelf Go.ChangeShapes Go.WideShapes Go.ChangeAt Go.RowKit
set_option linter.unusedVariables false
set_option maxRecDepth 100000

attribute [local go_sem] Oper.semAt_some
set_option maxHeartbeats 4000000 in
theorem walk1_stops (F : Fence) (hd : F.depth = none) (n : Nat) (h56 : F.fn 67) (h57 : F.fn 68) (hro : F.round = none) (w0 w1 : World) (hw : Up w0 w1) (Bt : Nat) (k : Nat) (e : Ex) (cs : Array Value) (hbx : BoxC w1 Bt 48 cs) (hc : CsAt 13 (exR k) w0 cs e) (ht : tot e ≤ 1500) :
    SeqStopsK F n Tryz.prog 67 #[.pointer (some ⟨Bt, 0, none⟩)] (fun x : Nd w0 => #[.agg x.1.1]) (KpE w0.heap.size) (fun ys => ys.map (fun x => x.1.2) = nodes e) (fun _ => True) (nodes e).length w1 := by
  intro l J Jx W hW hJ hJx hY h0
  have hdd : ∀ k : Nat, (F.depth.isSome = true → 1 ≤ k) := fun k h => by rw [hd] at h; cases h
  have hbW : BoxC W Bt 48 cs := hbx.up hW
  have hb : Below w0.heap.size w0 W := Up.trans hw hW
  have HLD := Lib.hid (run_ex hc.1 hbW.range)
  have hY' : ∀ m pre (x : Nd w0) W1, J pre W1 → pre.length < (nodes e).length → YieldAt F m Tryz.prog l #[.agg x.1.1] W1 fun e' W' => (e' = .returned (.bool true) ∧ J (pre ++ [x]) W' ∧ KpE w0.heap.size W1 W') ∨ (e' = .returned (.bool false) ∧ Jx (pre ++ [x]) W') := fun m pre x W1 h1 h2 => by
    obtain ⟨fn, tmps, assign, body, hy, hR⟩ := hY pre x W1 h1 h2
    exact ⟨fn, tmps, assign, body, hy, ⟨hR.1, fun c cs _ => hR.2 c cs (fun d h => by rw [hd] at h; cases h)⟩⟩
  have HP := Lib.hid (walk_in F hd h57 hro w0 l W.heap.size (nodes e).length J Jx hJ hY' k (n - 1) e cs [] W hc ht hb h0 (by simp))
  clear hY hY' hJ hJx h0 hbx hbW hc
  obtain ⟨ne, hne⟩ : ∃ ne, nodes e = ne := ⟨_, rfl⟩
  rw [hne] at HP ⊢
  clear hne
  refine callsIn_of_wp Tryz.func67 rfl h56 ?_ hro
  simp only [Tryz.ntmps67, List.size_toArray, List.length_cons, List.length_nil, Nat.reduceAdd, Nat.reduceSub, Array.replicate_succ, Array.replicate_zero, List.push_toArray, List.append_toArray, List.nil_append, List.cons_append]
  gi_wp2_with (first
    | (refine si_load HLD.out (by rfl) ?_)
    | ((try refine ⟨hdd _, ?_⟩); gi_at_call 68; refine HP.out.mono ?_; clear HP; rintro e' W1 (⟨rfl, ys, h1, h2, h3⟩ | ⟨rfl, q, hx⟩)))
  · go_end0
    exact ⟨⟨_, rfl⟩, .inl ⟨ys, h1, by simpa using h2⟩⟩
  · go_end0
    exact ⟨⟨_, rfl⟩, .inr ⟨q, trivial, hx⟩⟩
set_option maxHeartbeats 4000000 in
theorem walk0_in (F : Fence) (n : Nat) (h44 : F.fn 56) (hro : F.round = none) (cs : Array Value) (w : World) :
    CallsIn F n Tryz.prog 56 #[.agg cs] w fun e w' => e = .returned (.func (.func 67) #[] #[.pointer (some ⟨w.heap.size, 0, none⟩)]) ∧ w' = w.alloc (.cells cs 48) := by
  refine callsIn_of_wp Tryz.func56 rfl h44 ?_ hro
  simp only [Tryz.ntmps56, List.size_toArray, List.length_cons, List.length_nil, Nat.reduceAdd, Nat.reduceSub, Array.replicate_succ, Array.replicate_zero, List.push_toArray, List.append_toArray, List.nil_append, List.cons_append]
  gi_wp2
  go_ret
  exact ⟨rfl, rfl⟩
theorem cells_ne {W : World} {g : Nat} {cs : Array Value} {t : TypeId} {fr : Nat × Nat} {row : Option Nat} (h : W.heap[g]? = some (.cells cs t fr)) (hr : ∀ r, row = some r → ∃ o : Obj, W.heap[r]? = some o ∧ o.isCells = false) : some g ≠ row := fun e => by
  obtain ⟨o, ho, hc⟩ := hr g e.symm
  rw [h] at ho
  cases ho
  cases hc
/-- What a round's walk has kept. -/
structure Rnd (B n₀ : Nat) (W W' : World) : Prop where
  from_ : KeepsFrom B W W'
  kp : KpE n₀ W W'
theorem Rnd.refl (B n₀ : Nat) (W : World) : Rnd B n₀ W W := ⟨KeepsFrom.refl _ _, KpE.refl _ _⟩
theorem Rnd.trans {B n₀ : Nat} {X Y Z : World} (h : Rnd B n₀ X Y) (k : Rnd B n₀ Y Z) : Rnd B n₀ X Z := ⟨h.from_.trans k.from_, h.kp.trans k.kp⟩
theorem Rnd.up {B n₀ : Nat} {W W' : World} (h : Up W W') (hn : n₀ ≤ W.heap.size) : Rnd B n₀ W W' := ⟨⟨h.size, fun k o _ hk _ => (h.heap k (Array.getElem?_eq_some_iff.1 hk).1).trans hk⟩, KpE.up h hn⟩
theorem Rnd.row {B n₀ : Nat} {W W' : World} {row : Option Nat} (hg : W.grownBy W' row) (hn : n₀ ≤ W.heap.size) (hr : ∀ g, row = some g → n₀ ≤ g ∧ ∃ cs t, W.heap[g]? = some (.cells cs t (0, 0)) ∧ t ≠ 48) : Rnd B n₀ W W' := by
  refine ⟨⟨hg.size, fun k o _ hk ho => (hg.block k (Array.getElem?_eq_some_iff.1 hk).1 fun e => ?_).trans hk⟩, ⟨(Below.refl n₀ W).grown hg hn fun k e => (hr k e).1, fun g cs fr hk => (hg.block g (Array.getElem?_eq_some_iff.1 hk).1 fun e => ?_).trans hk⟩⟩
  · obtain ⟨_, cs, t, h, _⟩ := hr k e.symm
    rw [h] at hk; cases hk; cases ho
  · obtain ⟨_, cs', t, h, hne⟩ := hr g e.symm
    rw [h] at hk; cases hk; exact hne rfl
theorem Rnd.set {B n₀ : Nat} {W : World} {g : Nat} {cs : Array Value} {t : TypeId} (h : BoxC W g t cs) (hn : n₀ ≤ g) (hne : t ≠ 48) (o : Nat) (u : Value) : Rnd B n₀ W (W.setCell ⟨g, o, none⟩ u) :=
  Rnd.row (row := some g) ⟨rfl, rfl, rfl, by simp [World.setCell], fun k hk hne => Below.heap_setCell _ _ _ _ (fun e => hne (congrArg some e))⟩ (by have := h.lt; omega) (fun g' e => by cases e; exact ⟨hn, cs, t, h, hne⟩)
theorem setCell_by (W : World) (g o : Nat) (u : Value) : W.grownBy (W.setCell ⟨g, o, none⟩ u) (some g) := ⟨rfl, rfl, rfl, by simp [World.setCell], fun k hk hne => Below.heap_setCell _ _ _ _ (fun e => hne (congrArg some e))⟩
theorem ix_i : (Tryz.prog.info? 81).map (·.size) = some 4 := by kernel_rfl
theorem run_ix {w : World} {g o : Nat} {cs : Array Value} (hs : cs.size = 4) (hr : w.rangeAt g o cs.toList) : (Instr.loadAt 81 (.pointer (some ⟨g, o, none⟩))).run Tryz.prog w = .ok (.agg cs) w :=
  run_cs Tryz.underlying81 rfl ix_i hs hr
theorem OwnL.blkQ {α : Type} {k : Nat} {R : Rel α} {base : Nat} {e : TypeId} {w : World} {v : Value} {l : List α} (h : OwnL k R base e w v l) : ∀ g, v.ownBlock = some g → ∃ cs, w.heap[g]? = some (.cells cs e (0, 0)) := fun g hg => by
  obtain ⟨F, h1, _⟩ := h
  rcases h1.2 with ⟨rfl, _⟩ | ⟨g', cap, cur, rfl, _, hh, _⟩
  · cases hg
  · have e : g' = g := by simpa [Value.ownBlock] using hg
    rw [← e]
    exact ⟨_, hh⟩
theorem set_ne' (w : World) (b o b' o' : Nat) (v : Value) (h : b ≠ b') : (w.setCell ⟨b, o, none⟩ v).cell? ⟨b', o', none⟩ = w.cell? ⟨b', o', none⟩ := World.cell?_setCell_other _ _ _ _ (fun e => h (congrArg Addr.block e))
theorem BoxC.one {w : World} {g : Nat} {t : TypeId} {a : Value} (h : BoxC w g t #[a]) : w.cell? ⟨g, 0, none⟩ = some a := cell_of_row _ _ _ _ _ _ h
theorem LsN.put {B : Nat} {w : World} {v : Value} {l : List ByteArray} (h : LsN B w v l) {D : Nat} {o : Obj} (hD : w.heap[D]? = some o) (ho : o.isCells = false) (o' : Obj) : LsN B (w.putObj D o') v l := by
  obtain ⟨⟨h1, hb, F, ⟨⟨a, c, e, h0, hx⟩, hm⟩, hR⟩, hN⟩ := h
  refine ⟨⟨h1, hb, F, ⟨⟨a, c, e, h0, fun x hx' hp => ?_⟩, hm⟩, hR⟩, hN⟩
  obtain ⟨g1, g2, g3⟩ := hx x hx' hp
  refine ⟨g1, by rw [World.putObj_size]; exact g2, fun i j hi hj => ?_⟩
  have hne : x.block ≠ D := fun e' => by
    have h := g3 i j hi hj
    rw [World.cell?, e', hD] at h
    cases o <;> first | (cases h; done) | (cases ho; done) | (simp at h; done)
  exact (World.cell?_of_block (w := w) (a := ⟨x.block, x.off + i * 1 + j, none⟩) (World.putObj_heap_other hne)).trans (g3 i j hi hj)
theorem OwnR.fromQ {α : Type} {k : Nat} {R0 : (Nat → Value) → α → Prop} {base B : Nat} {e : TypeId} {w : World} {v : Value} {l : List α} (h : OwnR k R0 base e w v l) (hB : B ≤ base) : OwnR k R0 B e w v l := let ⟨F, h1, h2⟩ := h; ⟨F, own_from h1 B hB, h2⟩
/-- The names of the nodes that have come. -/
def namesN {w0 : World} (pre : List (Nd w0)) : List ByteArray := pre.flatMap fun x => nm1 x.1.2
theorem namesN_snoc {w0 : World} (pre : List (Nd w0)) (x : Nd w0) : namesN (pre ++ [x]) = namesN pre ++ nm1 x.1.2 := by simp [namesN]
theorem nm1_le (e : Ex) : (nm1 e).length ≤ tot e := by
  have h1 := names_len e
  obtain ⟨op, nm, a, d, ty, lin, ix, args⟩ := e
  rw [nodes, List.flatMap_cons, List.length_append] at h1
  omega
theorem namesN_len {w0 : World} : ∀ (pre : List (Nd w0)), (namesN pre).length ≤ 1500 * pre.length
  | [] => by simp [namesN]
  | x :: r => by
    have h := namesN_len r
    have h2 := nm1_le x.1.2
    have h3 := x.2.2
    unfold namesN at h ⊢
    rw [List.flatMap_cons, List.length_append, List.length_cons]
    omega
/-- Between two rounds: the box of the names, its row. -/
def RdI (w : World) (pre : List (Nd w)) (W : World) : Prop := (∃ v, BoxC W (w.heap.size + 1) 22 #[v] ∧ OwnS (w.heap.size + 2) W v (namesN pre)) ∧ Up w W
theorem RdI.own (w : World) (B : Nat) (hB : w.heap.size ≤ B) : OwnFrom B (RdI w) := fun s W W' row ⟨⟨v, h1, h2⟩, h3⟩ hg hr => by
  have hr' : ∀ r, row = some r → ∃ o : Obj, W.heap[r]? = some o ∧ o.isCells = false := fun r e => (hr r e).2
  refine ⟨⟨v, h1.kept hg (cells_ne h1 hr'), own_keptL h2 hg fun g hg' => ?_⟩, h3.grown' hg fun k e => Nat.le_trans hB (hr k e).1⟩
  obtain ⟨F, hF, _⟩ := h2
  rcases hF.2 with ⟨rfl, _⟩ | ⟨g', cap, cur, rfl, _, hh, _⟩
  · cases hg'
  · have e : g' = g := by simpa [Value.ownBlock] using hg'
    subst e
    exact cells_ne hh hr'

set_option maxHeartbeats 16000000 in
theorem ex_Reads_in (N : Nat) (e : Ex) (v : Value) (w : World) (hv : ExAt N w v e) (ht : tot e ≤ 1500) :
    CallsIn Fence.wide 8 Tryz.prog 32 #[v] w fun e' w' => ∃ u, e' = .returned u ∧ Up w w' ∧ LsN w.heap.size w' u (readsF e) := by
  obtain ⟨cs, hc, rfl⟩ : ∃ cs : Array Value, CsAt 13 (exR N) w cs e ∧ v = .agg cs := by
    obtain ⟨f, rfl, hf⟩ := hv
    exact ⟨_, ⟨rfl, exR_congr N hf fun j hj => by
      match j, hj with
      | 0, _ | 1, _ | 2, _ | 3, _ | 4, _ | 5, _ | 6, _ | 7, _ | 8, _ | 9, _ | 10, _ | 11, _ | 12, _ => rfl⟩, rfl⟩
  have h1 : 1 ≤ 8 := by decide
  have hb0 := BoxC.new w 48 cs
  have HW0 := Lib.hid ((((Up.refl w).alloc (.cells cs 48)).alloc (.cells #[.slice none 0 0] 22)).alloc (.cells cs 48))
  have HLD := Lib.hid (run_ex hc.1 (hb0.up ((Up.refl _).alloc (.cells #[.slice none 0 0] 22))).range)
  have HBO := Lib.hid ((BoxC.new2 w (.cells cs 48) 22 #[.slice none 0 0]).up ((Up.refl _).alloc (.cells cs 48)))
  have HBE := Lib.hid (BoxC.new3 w (.cells cs 48) (.cells #[.slice none 0 0] 22) 48 cs)
  refine callsIn_of_wp_marks Tryz.func32 rfl trivial ?_ rfl
  simp only [Tryz.ntmps32, List.size_toArray, List.length_cons, List.length_nil, Nat.reduceAdd, Nat.reduceSub, Array.replicate_succ, Array.replicate_zero, List.push_toArray, List.append_toArray, List.nil_append, List.cons_append]
  gi_wp2_with (first
    | (refine si_load HLD.out (by rfl) ?_)
    | ((try refine ⟨trivial, ?_⟩); gi_at_call 56; refine (walk0_in Fence.wide (8 - 1) trivial rfl _ _).mono ?_; rintro e' w' ⟨rfl, rfl⟩))
  obtain ⟨W0, hW0⟩ : ∃ x, (((w.alloc (.cells cs 48)).alloc (.cells #[.slice none 0 0] 22)).alloc (.cells cs 48)) = x := ⟨_, rfl⟩
  have hsz : W0.heap.size = w.heap.size + 3 := by rw [← hW0]; simp only [World.size_alloc]
  rw [hW0] at HW0 HBO HBE ⊢
  clear hb0 HLD hW0
  refine wpIn_rangeFunc_ownH rfl h1 (gf := 67) (lb := #[.pointer (some ⟨w.heap.size + 1 + 1, 0, none⟩)]) rfl trivial (enters_of Tryz.func67 (by kernel_rfl) rfl)
    (walk1_stops Fence.wide rfl (8 - 1) trivial trivial rfl w W0 HW0.out (w.heap.size + 1 + 1) N e cs HBE.out hc ht) (fun h k => h.trans k) (KpE.put (by omega)) (Below.refl _ _) (fun _ => rfl)
    (RdI w) (fun _ _ _ => False) (RdI.own w _ (by omega)) (fun _ _ _ _ _ hs _ _ => hs)
    ⟨⟨_, HBO.out, OwnL.nil⟩, HW0.out⟩
    (fun x a' W => ∃ Bx, w.heap.size + 1 < Bx ∧ BoxC W Bx 48 x.1.1 ∧ a' = { tmps := #[.agg cs, .pointer (some ⟨w.heap.size, 0, none⟩), .slice none 0 0, .pointer (some ⟨w.heap.size + 1, 0, none⟩), .pointer (some ⟨Bx, 0, none⟩), undef, undef, .agg cs, .func (.func 67) #[] #[.pointer (some ⟨w.heap.size + 1 + 1, 0, none⟩)], .agg x.1.1, undef, undef, undef, undef, undef, undef, undef, undef, undef, undef, undef, undef, undef, undef, undef, undef, undef, undef, undef, undef, undef, undef, undef, undef, undef, undef], defers := [] })
    (fun x a' _ X Y row hs hg hr => by obtain ⟨Bx, g1, g2, g3⟩ := hs; exact ⟨Bx, g1, g2.kept hg (cells_ne g2 fun r e => (hr r e).2), g3⟩)
    ?assign ?body ?done ?stop
  case assign =>
    rintro l pre x W K hI hK
    obtain ⟨⟨k, hxc⟩, hxt⟩ := x.2
    have HFL := Lib.hid (run_fill (P := Tryz.prog) (k := 13) ex_i W (Z := #[.int .i64 0, .string ByteArray.empty, .int .i64 0, .int .i64 0, .int .i64 0, .int .i64 0, .int .i64 0, .int .i64 0, .int .i64 0, .int .i64 0, .slice none 0 0, .slice none 0 0, .slice none 0 0]) (cs := x.1.1) rfl hxc.1 (hxc.one (exR_k k)))
    have HI := Lib.hid hI
    clear hI hxc
    gi_wp2_with (refine si_store HFL.out (by rfl) (by rfl) ?_)
    obtain ⟨⟨v, g1, g2⟩, g3⟩ := HI.out
    exact hK _ _ (Rnd.up ((Up.refl W).alloc _) g3.size).from_ (KpE.up ((Up.refl W).alloc _) g3.size) ⟨⟨v, g1.up ((Up.refl W).alloc _), OwnL.up (fun _ _ _ _ h _ => h) g2 ((Up.refl W).alloc _)⟩, g3.alloc _⟩ ⟨W.heap.size, by have := g1.lt; omega, BoxC.new W 48 x.1.1, rfl⟩
  case body =>
    rintro l pre x a' W hl - ⟨⟨v, hbv, hrow⟩, hU⟩ ⟨Bx, hBx, hbX, rfl⟩ hlt
    have hlp := namesN_len pre
    have hpl : pre.length ≤ 1500 := by have := nodes_len e; omega
    obtain ⟨⟨kx, hxc⟩, hxt⟩ := x.2
    obtain ⟨xa, xc, g0, g1, gsz, g11, hix⟩ := exR_fields hxc.2
    have HNM : Hid (nm1 x.1.2 = (if opE x.1.2 = 3 then [nmE x.1.2] else []) ++ ((ixE x.1.2).map (·.2.1)).filter nonE) := Lib.hid rfl
    have hixl : (ixE x.1.2).length ≤ 1500 := by
      have h : ∀ e : Ex, (ixE e).length ≤ tot e := fun e => by
        obtain ⟨op, nm, a, d, ty, lin, ix, args⟩ := e
        rw [tot]; simp only [ixE]; omega
      exact Nat.le_trans (h _) hxt
    obtain ⟨op, hop⟩ : ∃ op, opE x.1.2 = op := ⟨_, rfl⟩
    obtain ⟨nm, hnm⟩ : ∃ nm, nmE x.1.2 = nm := ⟨_, rfl⟩
    obtain ⟨ix, hixe⟩ : ∃ ix, ixE x.1.2 = ix := ⟨_, rfl⟩
    rw [hop] at g0 HNM
    rw [hnm] at g1 gsz HNM
    rw [hixe] at g11 hix HNM hixl
    obtain ⟨xn, hxn⟩ : ∃ q, ix.length = q := ⟨_, rfl⟩
    rw [hxn] at g11 hix hixl
    have c0 := hbX.at g0 (by rw [hxc.1]; decide)
    have c1 := hbX.at g1 (by rw [hxc.1]; decide)
    have c11 := hbX.at g11 (by rw [hxc.1]; decide)
    have bX := hbX.lt
    obtain ⟨va, vc, rfl⟩ := hrow.shape
    obtain ⟨P0, hP0⟩ : ∃ P0, namesN pre = P0 := ⟨_, rfl⟩
    rw [hP0] at hrow hbv hlp
    obtain ⟨m, hm⟩ : ∃ m, P0.length = m := ⟨_, rfl⟩
    rw [hm] at hrow hbv hlp
    have hxnI : (xn : Int) ≤ 1500 := by omega
    have hm2 : m ≤ 2250000 := by omega
    have HSZ0 := Lib.hid gsz
    have HIX := Lib.hid hix
    have HXN := Lib.hid hxn
    have HXN2 := Lib.hid hixl
    have HM0 := Lib.hid hm
    have HR0 := Lib.hid hrow
    have HB0 := Lib.hid hbv
    have HU0 := Lib.hid hU
    have HBX := Lib.hid hbX
    have HP0 := Lib.hid hP0
    have cb : W.cell? ⟨w.heap.size + 1, 0, none⟩ = some (.slice va m vc) := cell_of_row _ _ _ _ _ _ hbv
    have bl := hbv.lt
    have HG11 := Lib.hid g11
    have HXS := Lib.hid hxc.1
    have hnW : w.heap.size ≤ W.heap.size := hU.size
    clear hrow hbv hU hbX hP0 hm hix hxn hxc g0 g1 gsz g11 hop hnm hixe hlt hpl hlp hixl hxt
    by_cases h3 : op = 3
    · have q3 : (op == 3) = true := by simpa using h3
      have HNX : Hid (namesN pre ++ nm1 x.1.2 = (P0 ++ [nm]) ++ (ix.map (·.2.1)).filter nonE) := Lib.hid (by rw [HNM.out, if_pos h3, HP0.out, List.append_assoc])
      obtain ⟨P1, hP1⟩ : ∃ P1, P0 ++ [nm] = P1 := ⟨_, rfl⟩
      have HP1 := Lib.hid hP1
      have HP1L : Hid (P1.length ≤ 2250001) := Lib.hid (by rw [← hP1, List.length_append, HM0.out]; simp only [List.length_cons, List.length_nil]; omega)
      rw [hP1] at HNX
      clear h3 hP1
      gi_wp2_with (gi_at_builtin; refine si_app (mm := 1) rowT_str strQ_one HM0.out (by rfl) (H := OwnL.up (fun _ _ _ _ h _ => h) HR0.out ((Up.refl _).alloc _)) (S := LsAt.one_str _ HSZ0.out) (by omega) (by decide) (by have := HB0.out.lt; simp only [World.size_alloc] at this ⊢; omega) (by rfl) (by rfl) ?_; intro ua uc w2 h1 h2 h3; have HR2 := Lib.hid h1; have HG2 := Lib.hid h2; have hb2 := (HB0.out.up ((Up.refl _).alloc (.cells #[.string nm] 9))).kept h2 (fun e => by have := HR0.out.base _ e.symm; omega); have HBB2 := Lib.hid hb2; have cb2 : w2.cell? ⟨w.heap.size + 1, 0, none⟩ = some (.slice va m vc) := cell_of_row _ _ _ _ _ _ hb2; have bl2 := hb2.lt; have bf2 := hb2.frozen 0; have x11 := ((HBX.out.up ((Up.refl _).alloc (.cells #[.string nm] 9))).kept h2 (fun e => by have h0 := OwnL.up (fun _ _ _ _ h _ => h) HR0.out ((Up.refl _).alloc (.cells #[.string nm] 9)); obtain ⟨cs', hcs'⟩ := h0.blkQ _ e.symm; have h9 := HBX.out.up ((Up.refl W).alloc (.cells #[.string nm] 9)); have h9' : (W.alloc (.cells #[.string nm] 9)).heap[Bx]? = _ := h9; rw [hcs'] at h9'; cases h9')); have e11 : (w2.setCell ⟨w.heap.size + 1, 0, none⟩ (.slice ua (m + 1) uc)).cell? ⟨Bx, 11, none⟩ = some (.slice xa xn xc) := (by rw [set_ne' _ _ _ _ _ _ (by omega)]; exact x11.at HG11.out (by rw [HXS.out]; decide)); replace x11 := x11.lt; clear h1 h2 h3 hb2)
      gi_loopw [21] (fun iv y => ∃ (i : Nat) (u : Value), iv = .int .i64 i ∧ i ≤ xn ∧ BoxC y (w.heap.size + 1) 22 #[u] ∧ OwnS (w.heap.size + 2) y u (P1 ++ ((ix.take i).map (·.2.1)).filter nonE) ∧ Up w y ∧ Rnd W0.heap.size w.heap.size W y) (fun iv _ => xn - (intOf iv).toNat)
      case atStart =>
        have hup3 : Up w w2 := ((HU0.out.alloc _).grown' HG2.out fun k e => by have := HR0.out.base k e; omega)
        refine ⟨0, .slice ua (m + 1) uc, rfl, Nat.zero_le _, set_heap HBB2.out _, ?_, hup3.setCell (by show w.heap.size ≤ w.heap.size + 1; omega) _, ?_⟩
        · rw [List.take_zero, List.map_nil, List.filter_nil, List.append_nil, ← HP1.out]
          exact own_keptL HR2.out (setCell_by _ _ _ _) fun g hg e => by cases e; have := HR2.out.base _ hg; omega
        · refine (Rnd.up ((Up.refl W).alloc _) hnW).trans ((Rnd.row HG2.out (by simp only [World.size_alloc]; omega) fun g hg => ?_).trans (Rnd.set HBB2.out (by omega) (by decide) 0 _))
          have h0 := OwnL.up (fun _ _ _ _ h _ => h) HR0.out ((Up.refl _).alloc (.cells #[.string nm] 9))
          obtain ⟨cs', hcs'⟩ := h0.blkQ g hg
          exact ⟨by have := HR0.out.base _ hg; omega, cs', _, hcs', by decide⟩
      case round =>
        clear HR2 HG2 HBB2 cb2 bl2 bf2 cb bl c0 c1 c11 bX e11 x11
        rename World => y
        obtain ⟨i, u, rfl, hi, hbu, hru, huy, hrn⟩ := hrel
        obtain ⟨va, vc, rfl⟩ := hru.shape
        obtain ⟨X, hX⟩ : ∃ X, P1 ++ ((ix.take i).map (·.2.1)).filter nonE = X := ⟨_, rfl⟩
        have HX := Lib.hid hX
        have HXL : Hid (X.length ≤ 2252000) := Lib.hid (by
          rw [← hX, List.length_append]
          have h1 := HP1L.out
          have h2 : (((ix.take i).map (·.2.1)).filter nonE).length ≤ xn := Nat.le_trans (List.length_filter_le _ _) (by rw [List.length_map, List.length_take, HXN.out]; omega)
          have h3 := HXN2.out
          omega)
        rw [hX] at hru hbu
        obtain ⟨m, hm⟩ : ∃ m, X.length = m := ⟨_, rfl⟩
        rw [hm] at hru hbu HXL
        have HM := Lib.hid hm
        have HR := Lib.hid hru
        have HB := Lib.hid hbu
        have HUY := Lib.hid huy
        have HRN := Lib.hid hrn
        clear hX hm hru hbu huy hrn
        by_cases hlt : i < xn
        · have hltI : (i : Int) < xn := by omega
          have hi1 : i < ix.length := by rw [HXN.out]; exact hlt
          obtain ⟨g, o, ds, rfl, hg, hds, hr⟩ := HIX.out.row ixR_k i hi1
          have HLA := Lib.hid (run_ix hds.1 (hr y HUY.out))
          have hg' := Nat.lt_of_lt_of_le hg HUY.out.size
          have HFK : Hid (((ix.take (i + 1)).map (·.2.1)).filter nonE = ((ix.take i).map (·.2.1)).filter nonE ++ (if nonE ix[i].2.1 = true then [ix[i].2.1] else [])) := Lib.hid (by
            rw [List.take_succ_eq_append_getElem hi1, List.map_append, List.filter_append]
            congr 1
            simp only [List.map_cons, List.map_nil, List.filter_cons, List.filter_nil])
          obtain ⟨s, hs⟩ : ∃ s, ix[i].2.1 = s := ⟨_, rfl⟩
          have h2 : ds.getD 2 undef = .string s := by rw [← hs]; exact hds.2.2.1.1
          have hsz : s.size ≤ maxLen := by rw [← hs]; exact hds.2.2.1.2
          have HSZ := Lib.hid hsz
          have HFS : Hid (((ix.take (i + 1)).map (·.2.1)).filter nonE = ((ix.take i).map (·.2.1)).filter nonE ++ (if nonE s = true then [s] else [])) := Lib.hid (by rw [← hs]; exact HFK.out)
          clear HFK
          have HFL := Lib.hid (run_fill (P := Tryz.prog) (k := 4) ix_i y (Z := #[.int .i64 0, .slice none 0 0, .string ByteArray.empty, .slice none 0 0]) (cs := ds) rfl hds.1 (hds.one ixR_k))
          have hbd := BoxC.new y 81 ds
          have d2 := hbd.at h2 (by rw [hds.1]; decide)
          have HB1 := Lib.hid (HB.out.up ((Up.refl y).alloc (.cells ds 81)))
          have cb : (y.alloc (.cells ds 81)).cell? ⟨w.heap.size + 1, 0, none⟩ = some (.slice va m vc) := cell_of_row _ _ _ _ _ _ HB1.out
          have bl := HB1.out.lt
          have HR1 := Lib.hid (OwnL.up (fun _ _ _ _ h _ => h) HR.out ((Up.refl y).alloc (.cells ds 81)))
          have q := emp_eq s
          have q2 : (s.toList != ([] : List UInt8)) = nonE s := by rw [bne, q, Bool.not_not]
          obtain ⟨b, hb⟩ : ∃ b, nonE s = b := ⟨_, rfl⟩
          rw [hb] at q q2
          have HNB := Lib.hid hb
          have hn0 : w.heap.size ≤ y.heap.size := HUY.out.size
          clear hs hds hr hg hi1 h2 hsz hbd hb
          cases b
          · have HNK : Hid (P1 ++ ((ix.take (i + 1)).map (·.2.1)).filter nonE = X) := Lib.hid (by rw [HFS.out, HNB.out, if_neg (by decide), List.append_nil]; exact HX.out)
            gi_wp2_with (first
              | (refine si_load HLA.out (by rfl) ?_)
              | (refine si_store HFL.out (by rfl) (by rfl) ?_))
            go_roundw
            case rel => exact ⟨i + 1, _, by go_num, by omega, HB1.out, by rw [HNK.out]; exact HR1.out, HUY.out.alloc _, HRN.out.trans (Rnd.up ((Up.refl y).alloc _) hn0)⟩
            case measure => simp [intOf]; omega
          · have HNK : Hid (P1 ++ ((ix.take (i + 1)).map (·.2.1)).filter nonE = X ++ [s]) := Lib.hid (by rw [HFS.out, HNB.out, if_pos rfl, ← List.append_assoc, HX.out])
            have HS1 : Hid (LsAt 1 16 (fun _ => strQ) ((y.alloc (.cells ds 81)).alloc (.cells #[.string s] 9)) (.slice (some ⟨y.heap.size + 1, 0, none⟩) 1 1) [s]) := Lib.hid (by have h := LsAt.one_str (y.alloc (.cells ds 81)) HSZ.out; rw [World.size_alloc] at h; exact h)
            gi_wp2_with (first
              | (refine si_load HLA.out (by rfl) ?_)
              | (refine si_store HFL.out (by rfl) (by rfl) ?_)
              | (gi_at_builtin; refine si_app (mm := 1) rowT_str strQ_one HM.out (by rfl) (H := OwnL.up (fun _ _ _ _ h _ => h) HR1.out ((Up.refl _).alloc _)) (S := HS1.out) (by have := HXL.out; omega) (by decide) (by have := HB1.out.lt; simp only [World.size_alloc] at this ⊢; omega) (by rfl) (by rfl) ?_; intro ua uc w2 h1 h2 h3; have HR2 := Lib.hid h1; have HG2 := Lib.hid h2; have hb2 := (HB1.out.up ((Up.refl _).alloc (.cells #[.string s] 9))).kept h2 (fun e => by have := HR1.out.base _ e.symm; omega); have HBB2 := Lib.hid hb2; have cb2 : w2.cell? ⟨w.heap.size + 1, 0, none⟩ = some (.slice va m vc) := cell_of_row _ _ _ _ _ _ hb2; have bl2 := hb2.lt; have bf2 := hb2.frozen 0;  clear h1 h2 h3 hb2))
            go_roundw
            case rel =>
              have hup3 : Up w w2 := (((HUY.out.alloc _).alloc _).grown' HG2.out fun k e => by have := HR1.out.base k e; omega)
              refine ⟨i + 1, .slice ua (m + 1) uc, by go_num, by omega, set_heap HBB2.out _, ?_, hup3.setCell (by show w.heap.size ≤ w.heap.size + 1; omega) _, ?_⟩
              · rw [HNK.out]
                exact own_keptL HR2.out (setCell_by _ _ _ _) fun g hg e => by cases e; have := HR2.out.base _ hg; omega
              · refine (HRN.out.trans (Rnd.up (((Up.refl y).alloc _).alloc _) hn0)).trans ((Rnd.row HG2.out (by simp only [World.size_alloc]; omega) fun g hg => ?_).trans (Rnd.set HBB2.out (by omega) (by decide) 0 _))
                have h0 := OwnL.up (fun _ _ _ _ h _ => h) HR1.out ((Up.refl _).alloc (.cells #[.string s] 9))
                obtain ⟨cs', hcs'⟩ := h0.blkQ g hg
                exact ⟨by have := HR1.out.base _ hg; omega, cs', _, hcs', by decide⟩
            case measure => simp [intOf]; omega
        · obtain rfl : xn = i := by omega
          have HNK : Hid (namesN (pre ++ [x]) = X) := Lib.hid (by rw [namesN_snoc, HNX.out, ← HX.out, List.take_of_length_le (by rw [HXN.out]; exact Nat.le_refl _)])
          gi_wp2
          exact ⟨HRN.out.from_, HRN.out.kp, ⟨_, HB.out, by rw [HNK.out]; exact (by have h := HR.out; rw [← HM.out] at h ⊢; exact h)⟩, HUY.out⟩
    · have q3 : (op == 3) = false := by simpa using h3
      have HNX : Hid (namesN pre ++ nm1 x.1.2 = P0 ++ (ix.map (·.2.1)).filter nonE) := Lib.hid (by rw [HNM.out, if_neg h3, HP0.out, List.nil_append])
      have HP1L : Hid (P0.length ≤ 2250001) := Lib.hid (by rw [HM0.out]; omega)
      obtain ⟨P1, hP1⟩ : ∃ P1, P0 = P1 := ⟨_, rfl⟩
      rw [hP1] at HNX HP1L HR0 HM0
      clear h3 HP0 hP1
      gi_wp2
      gi_loopw [21] (fun iv y => ∃ (i : Nat) (u : Value), iv = .int .i64 i ∧ i ≤ xn ∧ BoxC y (w.heap.size + 1) 22 #[u] ∧ OwnS (w.heap.size + 2) y u (P1 ++ ((ix.take i).map (·.2.1)).filter nonE) ∧ Up w y ∧ Rnd W0.heap.size w.heap.size W y) (fun iv _ => xn - (intOf iv).toNat)
      case atStart => exact ⟨0, .slice va m vc, rfl, Nat.zero_le _, HB0.out, by rw [List.take_zero, List.map_nil, List.filter_nil, List.append_nil]; exact HR0.out, HU0.out, Rnd.refl _ _ _⟩
      case round =>
        clear cb bl c0 c1 c11 bX
        rename World => y
        obtain ⟨i, u, rfl, hi, hbu, hru, huy, hrn⟩ := hrel
        obtain ⟨va, vc, rfl⟩ := hru.shape
        obtain ⟨X, hX⟩ : ∃ X, P1 ++ ((ix.take i).map (·.2.1)).filter nonE = X := ⟨_, rfl⟩
        have HX := Lib.hid hX
        have HXL : Hid (X.length ≤ 2252000) := Lib.hid (by
          rw [← hX, List.length_append]
          have h1 := HP1L.out
          have h2 : (((ix.take i).map (·.2.1)).filter nonE).length ≤ xn := Nat.le_trans (List.length_filter_le _ _) (by rw [List.length_map, List.length_take, HXN.out]; omega)
          have h3 := HXN2.out
          omega)
        rw [hX] at hru hbu
        obtain ⟨m, hm⟩ : ∃ m, X.length = m := ⟨_, rfl⟩
        rw [hm] at hru hbu HXL
        have HM := Lib.hid hm
        have HR := Lib.hid hru
        have HB := Lib.hid hbu
        have HUY := Lib.hid huy
        have HRN := Lib.hid hrn
        clear hX hm hru hbu huy hrn
        by_cases hlt : i < xn
        · have hltI : (i : Int) < xn := by omega
          have hi1 : i < ix.length := by rw [HXN.out]; exact hlt
          obtain ⟨g, o, ds, rfl, hg, hds, hr⟩ := HIX.out.row ixR_k i hi1
          have HLA := Lib.hid (run_ix hds.1 (hr y HUY.out))
          have hg' := Nat.lt_of_lt_of_le hg HUY.out.size
          have HFK : Hid (((ix.take (i + 1)).map (·.2.1)).filter nonE = ((ix.take i).map (·.2.1)).filter nonE ++ (if nonE ix[i].2.1 = true then [ix[i].2.1] else [])) := Lib.hid (by
            rw [List.take_succ_eq_append_getElem hi1, List.map_append, List.filter_append]
            congr 1
            simp only [List.map_cons, List.map_nil, List.filter_cons, List.filter_nil])
          obtain ⟨s, hs⟩ : ∃ s, ix[i].2.1 = s := ⟨_, rfl⟩
          have h2 : ds.getD 2 undef = .string s := by rw [← hs]; exact hds.2.2.1.1
          have hsz : s.size ≤ maxLen := by rw [← hs]; exact hds.2.2.1.2
          have HSZ := Lib.hid hsz
          have HFS : Hid (((ix.take (i + 1)).map (·.2.1)).filter nonE = ((ix.take i).map (·.2.1)).filter nonE ++ (if nonE s = true then [s] else [])) := Lib.hid (by rw [← hs]; exact HFK.out)
          clear HFK
          have HFL := Lib.hid (run_fill (P := Tryz.prog) (k := 4) ix_i y (Z := #[.int .i64 0, .slice none 0 0, .string ByteArray.empty, .slice none 0 0]) (cs := ds) rfl hds.1 (hds.one ixR_k))
          have hbd := BoxC.new y 81 ds
          have d2 := hbd.at h2 (by rw [hds.1]; decide)
          have HB1 := Lib.hid (HB.out.up ((Up.refl y).alloc (.cells ds 81)))
          have cb : (y.alloc (.cells ds 81)).cell? ⟨w.heap.size + 1, 0, none⟩ = some (.slice va m vc) := cell_of_row _ _ _ _ _ _ HB1.out
          have bl := HB1.out.lt
          have HR1 := Lib.hid (OwnL.up (fun _ _ _ _ h _ => h) HR.out ((Up.refl y).alloc (.cells ds 81)))
          have q := emp_eq s
          have q2 : (s.toList != ([] : List UInt8)) = nonE s := by rw [bne, q, Bool.not_not]
          obtain ⟨b, hb⟩ : ∃ b, nonE s = b := ⟨_, rfl⟩
          rw [hb] at q q2
          have HNB := Lib.hid hb
          have hn0 : w.heap.size ≤ y.heap.size := HUY.out.size
          clear hs hds hr hg hi1 h2 hsz hbd hb
          cases b
          · have HNK : Hid (P1 ++ ((ix.take (i + 1)).map (·.2.1)).filter nonE = X) := Lib.hid (by rw [HFS.out, HNB.out, if_neg (by decide), List.append_nil]; exact HX.out)
            gi_wp2_with (first
              | (refine si_load HLA.out (by rfl) ?_)
              | (refine si_store HFL.out (by rfl) (by rfl) ?_))
            go_roundw
            case rel => exact ⟨i + 1, _, by go_num, by omega, HB1.out, by rw [HNK.out]; exact HR1.out, HUY.out.alloc _, HRN.out.trans (Rnd.up ((Up.refl y).alloc _) hn0)⟩
            case measure => simp [intOf]; omega
          · have HNK : Hid (P1 ++ ((ix.take (i + 1)).map (·.2.1)).filter nonE = X ++ [s]) := Lib.hid (by rw [HFS.out, HNB.out, if_pos rfl, ← List.append_assoc, HX.out])
            have HS1 : Hid (LsAt 1 16 (fun _ => strQ) ((y.alloc (.cells ds 81)).alloc (.cells #[.string s] 9)) (.slice (some ⟨y.heap.size + 1, 0, none⟩) 1 1) [s]) := Lib.hid (by have h := LsAt.one_str (y.alloc (.cells ds 81)) HSZ.out; rw [World.size_alloc] at h; exact h)
            gi_wp2_with (first
              | (refine si_load HLA.out (by rfl) ?_)
              | (refine si_store HFL.out (by rfl) (by rfl) ?_)
              | (gi_at_builtin; refine si_app (mm := 1) rowT_str strQ_one HM.out (by rfl) (H := OwnL.up (fun _ _ _ _ h _ => h) HR1.out ((Up.refl _).alloc _)) (S := HS1.out) (by have := HXL.out; omega) (by decide) (by have := HB1.out.lt; simp only [World.size_alloc] at this ⊢; omega) (by rfl) (by rfl) ?_; intro ua uc w2 h1 h2 h3; have HR2 := Lib.hid h1; have HG2 := Lib.hid h2; have hb2 := (HB1.out.up ((Up.refl _).alloc (.cells #[.string s] 9))).kept h2 (fun e => by have := HR1.out.base _ e.symm; omega); have HBB2 := Lib.hid hb2; have cb2 : w2.cell? ⟨w.heap.size + 1, 0, none⟩ = some (.slice va m vc) := cell_of_row _ _ _ _ _ _ hb2; have bl2 := hb2.lt; have bf2 := hb2.frozen 0;  clear h1 h2 h3 hb2))
            go_roundw
            case rel =>
              have hup3 : Up w w2 := (((HUY.out.alloc _).alloc _).grown' HG2.out fun k e => by have := HR1.out.base k e; omega)
              refine ⟨i + 1, .slice ua (m + 1) uc, by go_num, by omega, set_heap HBB2.out _, ?_, hup3.setCell (by show w.heap.size ≤ w.heap.size + 1; omega) _, ?_⟩
              · rw [HNK.out]
                exact own_keptL HR2.out (setCell_by _ _ _ _) fun g hg e => by cases e; have := HR2.out.base _ hg; omega
              · refine (HRN.out.trans (Rnd.up (((Up.refl y).alloc _).alloc _) hn0)).trans ((Rnd.row HG2.out (by simp only [World.size_alloc]; omega) fun g hg => ?_).trans (Rnd.set HBB2.out (by omega) (by decide) 0 _))
                have h0 := OwnL.up (fun _ _ _ _ h _ => h) HR1.out ((Up.refl _).alloc (.cells #[.string s] 9))
                obtain ⟨cs', hcs'⟩ := h0.blkQ g hg
                exact ⟨by have := HR1.out.base _ hg; omega, cs', _, hcs', by decide⟩
            case measure => simp [intOf]; omega
        · obtain rfl : xn = i := by omega
          have HNK : Hid (namesN (pre ++ [x]) = X) := Lib.hid (by rw [namesN_snoc, HNX.out, ← HX.out, List.take_of_length_le (by rw [HXN.out]; exact Nat.le_refl _)])
          gi_wp2
          exact ⟨HRN.out.from_, HRN.out.kp, ⟨_, HB.out, by rw [HNK.out]; exact (by have h := HR.out; rw [← HM.out] at h ⊢; exact h)⟩, HUY.out⟩
  case done =>
    rintro D ys W hD hys ⟨⟨v, hbv, hrow⟩, hU⟩ hK
    have cb := hbv.one
    have HNM : Hid (namesN ys = namesE e) := Lib.hid (by
      unfold namesN namesE
      rw [← hys, List.flatMap_map])
    have HLL : Hid ((namesN ys).length ≤ 3000000) := Lib.hid (by
      have h1 := namesN_len ys
      have h2 := congrArg List.length hys
      rw [List.length_map] at h2
      have h3 := nodes_len e
      omega)
    have HROW := Lib.hid hrow
    have HS := Lib.hid (ex_sorted_at w v (namesN ys) W hU (hrow.fromQ (by omega)) HLL.out)
    have HK := Lib.hid hK
    have HKD : Hid (v.ownBlock ≠ some D) := Lib.hid fun e' => by
      obtain ⟨cs', hcs'⟩ := hrow.blkQ _ e'
      rw [hK] at hcs'
      cases hcs'
    have HD0 : Hid (w.heap.size ≤ D) := Lib.hid (by omega)
    clear hbv hrow hys
    gi_wp2_with ((try refine ⟨trivial, ?_⟩); gi_at_call 57; refine (callsIn_wide.2 HS.out).mono ?_; rintro e' w2 ⟨u, rfl, h1, h2, h3⟩)
    have hK2 : w2.heap[D]? = some (.deferred (some [])) := (h3 D (Array.getElem?_eq_some_iff.1 HK.out).1 HKD.out).trans HK.out
    refine ⟨by simp, .inl ⟨_, _, rfl, run_takeDeferred hK2, ?_⟩⟩
    refine ⟨_, results_tmp rfl _ _ _, _, rfl, h1.grown' (grownBy_putObj' w2 D _) (fun k e => by cases e; exact HD0.out), ?_⟩
    rw [HNM.out] at h2
    exact LsN.put h2 hK2 rfl _
  case stop =>
    rintro D c pre W _ _ h _
    exact h.elim
end Go.Proofs.YtpccaifhcmcegaaGreat

