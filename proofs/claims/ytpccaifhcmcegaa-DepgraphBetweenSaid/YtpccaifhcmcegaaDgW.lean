/-
  walk: the nodes of an expression, one at a time.
-/
import Derived.Test.YtpccaifhcmcegaaDgU
import Derived.RangeFuncNested
import Derived.RangeFuncBound
import Derived.RangeFuncCalls
import Derived.RangeFuncLeaves
import Derived.Shelf.Abstract
import Derived.Shelf.RegionOpen
import Derived.OwnWalkIn
import Derived.TacticsInMore
import Derived.LoopNIn
import Derived.LoopIn
namespace Go.Proofs.Ytpccaifhcmcegaa
set_option linter.unusedSimpArgs false
open Go.Shelf Go.ChangeShapes Go.WideShapes Go.ChangeAt Go.RowKit
set_option linter.unusedVariables false
set_option maxRecDepth 100000

attribute [local go_sem] Oper.semAt_some
section
variable {F : Fence} {n : Nat} {P : Program} {ops : Array Oper} {rest : List Oper} {a : Act} {Q : Exit → Act → World → Prop} {w : World}
theorem si_load {T : TypeId} {p V : Value} (hrun : (Instr.loadAt T p).run P w = .ok V w) {dst : Option Nat} {x : Operand} {ty : TypeId} {pos : String} {af : Array Edge} (hx : a.eval x = p)
    (h : wpListIn F n P ops Q rest (a.put dst V) w) : wpListIn F n P ops Q ({ dst := dst, op := .load T x, type := ty, pos := pos, after := af, guard := none } :: rest) a w :=
  wpListIn_plain rfl fun _ hK => by
    unfold Oper.wpIn
    refine ⟨by simp [Oper.about], ?_⟩
    rw [Oper.semAt_plain F _ _ (by intro c hc'; cases hc')]
    unfold execOp
    simp only [hx, hrun, Sem.run_bind, Sem.run_pure, Result.andThen_ok]
    exact hK _ _ h
theorem si_store {T : TypeId} {p V : Value} {w' : World} (hrun : (Instr.storeAt T p V).run P w = .ok () w') {dst : Option Nat} {x y : Operand} {ty : TypeId} {pos : String} {af : Array Edge} (hx : a.eval x = p) (hy : a.eval y = V)
    (h : wpListIn F n P ops Q rest (a.put dst undef) w') : wpListIn F n P ops Q ({ dst := dst, op := .store T x y, type := ty, pos := pos, after := af, guard := none } :: rest) a w :=
  wpListIn_plain rfl fun _ hK => by
    unfold Oper.wpIn
    refine ⟨by simp [Oper.about], ?_⟩
    rw [Oper.semAt_plain F _ _ (by intro c hc'; cases hc')]
    unfold execOp
    simp only [hx, hy, hrun, Sem.run_bind, Sem.run_pure, Result.andThen_ok]
    exact hK _ _ h
end
/-- append(x, y...), x a row of the call's own, in a fence. -/
theorem si_app {F : Fence} {nF : Nat} {ops : Array Oper} {rest : List Oper} {a : Act} {Q : Exit → Act → World → Prop} {w : World} {α : Type} {T E : TypeId} {k B : Nat} (hT : RowT T E k B) {R0 : (Nat → Value) → α → Prop} (h1 : ∀ f x, R0 f x → ∀ j, j < k → (f j).oneCell' = true) {base : Nat} {v u : Value} {l m : List α} {n mm : Nat} (hn : l.length = n) (hm : m.length = mm)
    (H : OwnR k R0 base E w v l) (S : LsAt k B (fun _ => R0) w u m) (hb : (n + mm) * B ≤ 140737488355328) (hB : 1 ≤ B) (hbase : base ≤ w.heap.size) {dst : Option Nat} {x y : Operand} {ty : TypeId} {pos : String} {af : Array Edge} (hx : a.eval x = v) (hy : a.eval y = u)
    (K : ∀ (va : Option Addr) (vc : Nat) w', OwnR k R0 base E w' (.slice va (n + mm) vc) (l ++ m) → w.grownBy w' v.ownBlock → ((Value.slice va (n + mm) vc).ownBlock = v.ownBlock ∨ (Value.slice va (n + mm) vc).ownBlock = some w.heap.size) → wpListIn F nF Try.prog ops Q rest (a.put dst (.slice va (n + mm) vc)) w') :
    wpListIn F nF Try.prog ops Q ({ dst := dst, op := .call { callee := .builtin .append, args := #[x, y], argTypes := #[T, T] }, type := ty, pos := pos, after := af, guard := none } :: rest) a w := by
  obtain ⟨i, z, i0, i1, i2, i3, i4⟩ := hT.info
  subst hn hm
  obtain ⟨Fv, hF, hR⟩ := H
  obtain ⟨_, _, G, hG, hS⟩ := S
  have hle : l.length + m.length ≤ maxLen := by
    have h := Nat.mul_le_mul_left (l.length + m.length) hB
    have e : maxLen = 9223372036854775807 := rfl
    omega
  refine wpListIn_plain rfl fun _ hK => ?_
  obtain ⟨v', w', hrun, g1, g2, g3, g4⟩ := run_append_sl (P := Try.prog) w base T ty E i z k B hT.sl i0 i1 i2 i3 i4 hT.pos v l.length _ hF u m.length G hG (fun i j hi hj => h1 _ _ (hS i hi) j hj) hle hb hbase
  unfold Oper.wpIn
  refine ⟨by simp [Oper.about, resolve, Target.leads, Sem.run_pure], ?_⟩
  rw [Oper.semAt_plain F _ _ (by intro c hc'; cases hc')]
  simp [execOp, resolve, invoke, builtin, hx, hy, hrun, Result.andThen]
  obtain ⟨va, vc, rfl⟩ := own_slice g1
  exact hK _ _ (K va vc w' (OwnL.app hT.pos g1 hR hS) g2 g3)

/-- What a round keeps: what lay below n₀, and every expression's box. -/
structure KpE (n₀ : Nat) (W W' : World) : Prop where
  below : Below n₀ W W'
  ex : ∀ (g : Nat) (cs : Array Value) (fr : Nat × Nat), W.heap[g]? = some (.cells cs 57 fr) → W'.heap[g]? = some (.cells cs 57 fr)
theorem KpE.refl (n₀ : Nat) (W : World) : KpE n₀ W W := ⟨Below.refl _ _, fun _ _ _ h => h⟩
theorem KpE.trans {n₀ : Nat} {A B C : World} (h : KpE n₀ A B) (k : KpE n₀ B C) : KpE n₀ A C := ⟨h.below.trans k.below, fun g cs fr e => k.ex g cs fr (h.ex g cs fr e)⟩
theorem KpE.up {n₀ : Nat} {A B : World} (h : Up A B) (hn : n₀ ≤ A.heap.size) : KpE n₀ A B := ⟨Below.mono h hn, fun g cs fr e => (h.heap g (Array.getElem?_eq_some_iff.1 e).1).trans e⟩
theorem KpE.put {n₀ : Nat} {w : World} (hn : n₀ ≤ w.heap.size) (W : World) (l : Nat) (o o' : Obj) (hl : w.heap.size ≤ l) (h : W.heap[l]? = some o) (hc : o.isCells = false) (hw : o.isWalk = false) : KpE n₀ W (W.putObj l o') :=
  ⟨belowK_b hn W l o o' hl h hc hw, fun g cs fr e => by
    by_cases hg : g = l
    · subst hg; rw [h] at e; cases e; cases hc
    · exact (World.putObj_heap_other hg).trans e⟩
theorem KpE.box {n₀ : Nat} {W W' : World} (h : KpE n₀ W W') {g : Nat} {cs : Array Value} (hb : BoxC W g 57 cs) : BoxC W' g 57 cs := h.ex g cs _ hb
/-- A node that the iterator hands over: its cells, and what they read as. -/
def Nd (w0 : World) : Type := { x : Array Value × Ex // (∃ k, CsAt 13 (exR k) w0 x.1 x.2) ∧ tot x.2 ≤ 1500 }
theorem tots_memb {l : List Ex} {i : Nat} (hi : i < l.length) : tot l[i] ≤ tots l := tots_mem hi
theorem abides_alloc {β : Type} {B : Nat} {J : β → World → Prop} (h : AbidesFrom B J) {s : β} {W : World} (hs : J s W) (o : Obj) : J s (W.alloc o) := h s W _ none hs (World.grownBy_alloc W o none) (fun r e => by cases e)

set_option maxHeartbeats 8000000 in
theorem walk_in (F : Fence) (hd : F.depth = none) (h57 : F.fn 57) (hro : F.round = none) (w0 : World) (l B NN : Nat) (J Jx : List (Nd w0) → World → Prop) (hJ : AbidesFrom B J)
    (hY : ∀ m pre (x : Nd w0) W, J pre W → pre.length < NN → YieldAt F m Try.prog l #[.agg x.1.1] W fun e W' =>
      (e = .returned (.bool true) ∧ J (pre ++ [x]) W' ∧ KpE w0.heap.size W W') ∨ (e = .returned (.bool false) ∧ Jx (pre ++ [x]) W')) :
    ∀ (k : Nat) (n : Nat) (e : Ex) (cs : Array Value) (pre : List (Nd w0)) (W : World), CsAt 13 (exR k) w0 cs e → tot e ≤ 1500 → Below w0.heap.size w0 W → J pre W → pre.length + (nodes e).length ≤ NN →
      CallsIn F n Try.prog 57 #[.agg cs, .func (.yield l) #[] #[]] W fun e' W' =>
        (e' = .returned (.bool true) ∧ ∃ ys : List (Nd w0), ys.map (fun x => x.1.2) = nodes e ∧ J (pre ++ ys) W' ∧ KpE w0.heap.size W W') ∨ (e' = .returned (.bool false) ∧ ∃ q, Jx q W') := by
  intro k
  induction k with
  | zero => intro n e cs pre W h; exact h.2.elim
  | succ K ih =>
    intro n e cs pre W hc ht hb hJ0 hN
    have hx := hc.ex
    obtain ⟨op, nm, A, d, t0, t1, t2, t3, t4, KK, al, alc, ax, axc, ar, arc, ms, ix, args, he, hv, -, -, -, hra⟩ := hx.open
    have h12 : cs.getD 12 undef = .slice ar args.length arc := by
      injection hv with hv
      rw [hv]; rfl
    obtain ⟨x0, hx0⟩ : ∃ x0 : Nd w0, x0 = ⟨(cs, e), ⟨_, hc⟩, ht⟩ := ⟨_, rfl⟩
    have hx01 : x0.1.1 = cs := by rw [hx0]
    have hx02 : x0.1.2 = e := by rw [hx0]
    have hnd : nodes e = e :: nodess args := by rw [he, nodes]
    have htt : tots args ≤ 1500 := by have := ht; rw [he, tot] at this; omega
    obtain ⟨rn, hrn⟩ : ∃ q, args.length = q := ⟨_, rfl⟩
    have hrI : (rn : Int) ≤ 140737488351232 := by have := hra.bytes; omega
    rw [hrn] at hra h12
    rw [hnd, List.length_cons] at hN
    have hN1 : pre.length < NN := by omega
    have hJ1 : J pre (W.alloc (.cells cs 57)) := abides_alloc hJ hJ0 _
    have hb1 : KpE w0.heap.size W (W.alloc (.cells cs 57)) := KpE.up ((Up.refl W).alloc _) hb.size
    have hld := run_ex hc.1 (BoxC.new W 57 cs).range
    have HBX := Lib.hid (BoxC.new W 57 cs)
    have hY1 := YieldAt.mono (R' := fun e' W' => (e' = .returned (.bool true) ∧ J (pre ++ [x0]) W' ∧ KpE w0.heap.size W W' ∧ BoxC W' W.heap.size 57 cs ∧ W'.cell? ⟨W.heap.size, 12, none⟩ = some (.slice ar rn arc) ∧ W.heap.size < W'.heap.size) ∨ (e' = .returned (.bool false) ∧ Jx (pre ++ [x0]) W')) (hY (n - 1) pre x0 _ hJ1 hN1) (fun e' W' h => h.elim (fun ⟨g1, g2, g3⟩ => .inl ⟨g1, g2, hb1.trans g3, g3.box HBX.out, (g3.box HBX.out).at h12 (by rw [hc.1]; decide), (g3.box HBX.out).lt⟩) .inr)
    rw [hx01] at hY1
    obtain ⟨fn, tmps, assign, body, hy, hR⟩ := hY1
    have HIH := Lib.hid ih
    have HRA := Lib.hid hra
    have HRN := Lib.hid hrn
    have HJ := Lib.hid hJ
    have HLD := Lib.hid hld
    have hcs := hc.1
    have H12 := Lib.hid h12
    have HTT := Lib.hid htt
    have HN := Lib.hid hN
    have HB := Lib.hid hb
    have HND := Lib.hid hnd
    have HX2 := Lib.hid hx02
    have hdd : ∀ k : Nat, (F.depth.isSome = true → 1 ≤ k) := fun k h => by rw [hd] at h; cases h
    obtain ⟨ne, hne⟩ : ∃ ne, nodes e = ne := ⟨_, rfl⟩
    rw [hne] at HND ⊢
    clear hY hJ1 hJ0 ih hra hrn hJ hld h12 htt hN hb hnd hx02 hx0 hx01 hne hv he hx hc hN1 ht
    refine callsIn_of_wp Try.func57 rfl h57 ?_ hro
    simp only [Try.ntmps57, List.size_toArray, List.length_cons, List.length_nil, Nat.reduceAdd, Nat.reduceSub, Array.replicate_succ, Array.replicate_zero, List.push_toArray, List.append_toArray, List.nil_append, List.cons_append]
    gi_wp2_with (first
      | (refine si_load HLD.out (by rfl) ?_)
      | ((try refine ⟨hdd _, ?_⟩); refine hR.mono ?_; clear hR; rintro e' W1 (⟨rfl, hJ2, hb2, hbx2, c12, hs2⟩ | ⟨rfl, hx2⟩)))
    · have HJ2 := Lib.hid hJ2
      have HB2 := Lib.hid hb2
      clear hJ2 hb2 hbx2 hb1 hy
      gi_loopw [14] (fun iv y => ∃ (i : Nat) (ys : List (Nd w0)), iv = .int .i64 i ∧ i ≤ rn ∧ ys.map (fun x => x.1.2) = nodess (args.take i) ∧ J (pre ++ [x0] ++ ys) y ∧ KpE w0.heap.size W y) (fun iv _ => rn - (intOf iv).toNat)
      case atStart => exact ⟨0, [], rfl, Nat.zero_le _, rfl, by rw [List.append_nil]; exact HJ2.out, HB2.out⟩
      case round =>
        rename World => y
        obtain ⟨i, ys, rfl, hi, hys, hJy, hky⟩ := hrel
        have HYS := Lib.hid hys
        have HJY := Lib.hid hJy
        have HKY := Lib.hid hky
        clear hys hJy hky c12 hs2 HJ2 HB2
        by_cases hlt : i < rn
        · have hltI : (i : Int) < rn := by omega
          have hi1 : i < args.length := by rw [HRN.out]; exact hlt
          obtain ⟨g, o, ds, rfl, hg, hds, hr⟩ := HRA.out.row (exR_k K) i hi1
          have hUy : Up w0 y := HB.out.trans HKY.out.below
          have HLA := Lib.hid (run_ex hds.1 (hr y hUy))
          have hg' := Nat.lt_of_lt_of_le hg hUy.size
          have HTA0 := Lib.hid (nodess_take hi1)
          have htm := tots_mem hi1
          have hnl := nodess_len args
          have hnt : (nodess (args.take (i + 1))).length ≤ (nodess args).length := by
            conv => rhs; rw [← List.take_append_drop (i + 1) args, nodess_app, List.length_append]
            omega
          obtain ⟨q, hq⟩ : ∃ q, args[i] = q := ⟨_, rfl⟩
          have HTA : Hid (nodess (args.take (i + 1)) = nodess (args.take i) ++ nodes q) := Lib.hid (by rw [← hq]; exact HTA0.out)
          rw [hq] at hds htm
          have hFL := run_fill (P := Try.prog) (k := 13) ex_i y (Z := #[.int .i64 0, .string ByteArray.empty, .int .i64 0, .int .i64 0, .int .i64 0, .int .i64 0, .int .i64 0, .int .i64 0, .int .i64 0, .int .i64 0, .slice none 0 0, .slice none 0 0, .slice none 0 0]) (cs := ds) rfl hds.1 (hds.one (exR_k K))
          have HFL := Lib.hid hFL
          have HL2 := Lib.hid (run_ex hds.1 (BoxC.new y 57 ds).range)
          have hyl : ys.length = (nodess (args.take i)).length := by have := congrArg List.length HYS.out; simpa using this
          have hb3 : KpE w0.heap.size W (y.alloc (.cells ds 57)) := HKY.out.trans (KpE.up ((Up.refl y).alloc _) (HB.out.trans HKY.out.below).size)
          have HCL := Lib.hid ((HIH.out (n - 1) q ds (pre ++ [x0] ++ ys) (y.alloc (.cells ds 57)) hds (by have := HTT.out; omega) (HB.out.trans hb3.below) (abides_alloc HJ.out HJY.out _) (by
            have h1 := HN.out
            have h2 := congrArg List.length HTA.out
            rw [List.length_append] at h2
            simp only [List.length_append, List.length_cons, List.length_nil]
            omega)).mono (R' := fun e' W' => (e' = .returned (.bool true) ∧ ∃ zs : List (Nd w0), zs.map (fun x => x.1.2) = nodes q ∧ J (pre ++ [x0] ++ ys ++ zs) W' ∧ KpE w0.heap.size W W') ∨ (e' = .returned (.bool false) ∧ ∃ q, Jx q W')) (fun e' W' h => h.elim (fun ⟨g1, zs, g2, g3, g4⟩ => .inl ⟨g1, zs, g2, g3, hb3.trans g4⟩) .inr))
          clear HTA0
          clear hq hi1 hds hr hg htm hnl hnt hyl hb3 hFL hUy
          gi_wp2_with (first
            | (refine si_load HLA.out (by rfl) ?_)
            | (refine si_store HFL.out (by rfl) (by rfl) ?_)
            | (refine si_load HL2.out (by rfl) ?_)
            | ((try refine ⟨hdd _, ?_⟩); gi_at_call 57; refine HCL.out.mono ?_; clear HCL; rintro e' W2 (⟨rfl, zs, hz1, hz2, hz3⟩ | ⟨rfl, q2, hx3⟩)))
          · have HZ1 := Lib.hid hz1
            have HZ2 := Lib.hid hz2
            have HZ3 := Lib.hid hz3
            clear hz1 hz2 hz3
            go_roundw
            case rel => exact ⟨i + 1, ys ++ zs, by go_num, by omega, by rw [List.map_append, HYS.out, HZ1.out, HTA.out], by rw [← List.append_assoc]; exact HZ2.out, HZ3.out⟩
            case measure => simp [intOf]; omega
          · go_ret
            exact .inr ⟨rfl, _, hx3⟩
        · obtain rfl : rn = i := by omega
          have HE : Hid (([x0] ++ ys).map (fun x => x.1.2) = ne) := Lib.hid (by
            rw [List.map_append, HYS.out, List.take_of_length_le (by rw [HRN.out]; exact Nat.le_refl _), HND.out]
            simp [HX2.out])
          gi_wp2
          go_ret
          exact .inl ⟨rfl, [x0] ++ ys, HE.out, by rw [← List.append_assoc]; exact HJY.out, HKY.out⟩
    · go_ret
      exact .inr ⟨rfl, _, hx2⟩
end Go.Proofs.Ytpccaifhcmcegaa
