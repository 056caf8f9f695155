/-
  Joined by a program: DgW, DgS.
-/
import Derived.Test.YtpccaifhcmcegaaGreatHf
import Derived.RangeFuncNested
import Derived.RangeFuncBound
import Derived.RangeFuncCalls
import Derived.RangeFuncLeaves
import Derived.Shelf.Abstract
import Derived.Shelf.RegionOpen
import Derived.OwnWalkIn
import Derived.TacticsInMore
import Derived.LoopNIn
import Derived.LoopIn
import Derived.Test.YtpccaifhcmcegaaGreatShelf
import Derived.Lib.OwnBridge
import Derived.Sort.OwnSorted

section
namespace Go.Proofs.YtpccaifhcmcegaaGreat
set_option linter.unusedSimpArgs false
open Go.Shelf Go.ChangeShapes Go.WideShapes Go.ChangeAt Go.RowKit
set_option linter.unusedVariables false
set_option maxRecDepth 100000

attribute [local go_sem] Oper.semAt_some
section
variable {F : Fence} {n : Nat} {P : Program} {ops : Array Oper} {rest : List Oper} {a : Act} {Q : Exit → Act → World → Prop} {w : World}
theorem si_load {T : TypeId} {p V : Value} (hrun : (Instr.loadAt T p).run P w = .ok V w) {dst : Option Nat} {x : Operand} {ty : TypeId} {pos : String} {af : Array Edge} (hx : a.eval x = p)
    (h : wpListIn F n P ops Q rest (a.put dst V) w) : wpListIn F n P ops Q ({ dst := dst, op := .load T x, type := ty, pos := pos, after := af, guard := none } :: rest) a w :=
  wpListIn_plain rfl fun _ hK => by
    unfold Oper.wpIn
    refine ⟨by simp [Oper.about], ?_⟩
    rw [Oper.semAt_plain F _ _ (by intro c hc'; cases hc')]
    unfold execOp
    simp only [hx, hrun, Sem.run_bind, Sem.run_pure, Result.andThen_ok]
    exact hK _ _ h
theorem si_store {T : TypeId} {p V : Value} {w' : World} (hrun : (Instr.storeAt T p V).run P w = .ok () w') {dst : Option Nat} {x y : Operand} {ty : TypeId} {pos : String} {af : Array Edge} (hx : a.eval x = p) (hy : a.eval y = V)
    (h : wpListIn F n P ops Q rest (a.put dst undef) w') : wpListIn F n P ops Q ({ dst := dst, op := .store T x y, type := ty, pos := pos, after := af, guard := none } :: rest) a w :=
  wpListIn_plain rfl fun _ hK => by
    unfold Oper.wpIn
    refine ⟨by simp [Oper.about], ?_⟩
    rw [Oper.semAt_plain F _ _ (by intro c hc'; cases hc')]
    unfold execOp
    simp only [hx, hy, hrun, Sem.run_bind, Sem.run_pure, Result.andThen_ok]
    exact hK _ _ h
end
/-- append(x, y...), x a row of the call's own, in a fence. -/
theorem si_app {F : Fence} {nF : Nat} {ops : Array Oper} {rest : List Oper} {a : Act} {Q : Exit → Act → World → Prop} {w : World} {α : Type} {T E : TypeId} {k B : Nat} (hT : RowT T E k B) {R0 : (Nat → Value) → α → Prop} (h1 : ∀ f x, R0 f x → ∀ j, j < k → (f j).oneCell' = true) {base : Nat} {v u : Value} {l m : List α} {n mm : Nat} (hn : l.length = n) (hm : m.length = mm)
    (H : OwnR k R0 base E w v l) (S : LsAt k B (fun _ => R0) w u m) (hb : (n + mm) * B ≤ 140737488355328) (hB : 1 ≤ B) (hbase : base ≤ w.heap.size) {dst : Option Nat} {x y : Operand} {ty : TypeId} {pos : String} {af : Array Edge} (hx : a.eval x = v) (hy : a.eval y = u)
    (K : ∀ (va : Option Addr) (vc : Nat) w', OwnR k R0 base E w' (.slice va (n + mm) vc) (l ++ m) → w.grownBy w' v.ownBlock → ((Value.slice va (n + mm) vc).ownBlock = v.ownBlock ∨ (Value.slice va (n + mm) vc).ownBlock = some w.heap.size) → wpListIn F nF Tryz.prog ops Q rest (a.put dst (.slice va (n + mm) vc)) w') :
    wpListIn F nF Tryz.prog ops Q ({ dst := dst, op := .call { callee := .builtin .append, args := #[x, y], argTypes := #[T, T] }, type := ty, pos := pos, after := af, guard := none } :: rest) a w := by
  obtain ⟨i, z, i0, i1, i2, i3, i4⟩ := hT.info
  subst hn hm
  obtain ⟨Fv, hF, hR⟩ := H
  obtain ⟨_, _, G, hG, hS⟩ := S
  have hle : l.length + m.length ≤ maxLen := by
    have h := Nat.mul_le_mul_left (l.length + m.length) hB
    have e : maxLen = 9223372036854775807 := rfl
    omega
  refine wpListIn_plain rfl fun _ hK => ?_
  obtain ⟨v', w', hrun, g1, g2, g3, g4⟩ := run_append_sl (P := Tryz.prog) w base T ty E i z k B hT.sl i0 i1 i2 i3 i4 hT.pos v l.length _ hF u m.length G hG (fun i j hi hj => h1 _ _ (hS i hi) j hj) hle hb hbase
  unfold Oper.wpIn
  refine ⟨by simp [Oper.about, resolve, Target.leads, Sem.run_pure], ?_⟩
  rw [Oper.semAt_plain F _ _ (by intro c hc'; cases hc')]
  simp [execOp, resolve, invoke, builtin, hx, hy, hrun, Result.andThen]
  obtain ⟨va, vc, rfl⟩ := own_slice g1
  exact hK _ _ (K va vc w' (OwnL.app hT.pos g1 hR hS) g2 g3)

/-- What a round keeps: what lay below n₀, and every expression's box. -/
structure KpE (n₀ : Nat) (W W' : World) : Prop where
  below : Below n₀ W W'
  ex : ∀ (g : Nat) (cs : Array Value) (fr : Nat × Nat), W.heap[g]? = some (.cells cs 48 fr) → W'.heap[g]? = some (.cells cs 48 fr)
theorem KpE.refl (n₀ : Nat) (W : World) : KpE n₀ W W := ⟨Below.refl _ _, fun _ _ _ h => h⟩
theorem KpE.trans {n₀ : Nat} {A B C : World} (h : KpE n₀ A B) (k : KpE n₀ B C) : KpE n₀ A C := ⟨h.below.trans k.below, fun g cs fr e => k.ex g cs fr (h.ex g cs fr e)⟩
theorem KpE.up {n₀ : Nat} {A B : World} (h : Up A B) (hn : n₀ ≤ A.heap.size) : KpE n₀ A B := ⟨Below.mono h hn, fun g cs fr e => (h.heap g (Array.getElem?_eq_some_iff.1 e).1).trans e⟩
theorem KpE.put {n₀ : Nat} {w : World} (hn : n₀ ≤ w.heap.size) (W : World) (l : Nat) (o o' : Obj) (hl : w.heap.size ≤ l) (h : W.heap[l]? = some o) (hc : o.isCells = false) (hw : o.isWalk = false) : KpE n₀ W (W.putObj l o') :=
  ⟨belowK_b hn W l o o' hl h hc hw, fun g cs fr e => by
    by_cases hg : g = l
    · subst hg; rw [h] at e; cases e; cases hc
    · exact (World.putObj_heap_other hg).trans e⟩
theorem KpE.box {n₀ : Nat} {W W' : World} (h : KpE n₀ W W') {g : Nat} {cs : Array Value} (hb : BoxC W g 48 cs) : BoxC W' g 48 cs := h.ex g cs _ hb
/-- A node that the iterator hands over: its cells, and what they read as. -/
def Nd (w0 : World) : Type := { x : Array Value × Ex // (∃ k, CsAt 13 (exR k) w0 x.1 x.2) ∧ tot x.2 ≤ 1500 }
theorem tots_memb {l : List Ex} {i : Nat} (hi : i < l.length) : tot l[i] ≤ tots l := tots_mem hi
theorem abides_alloc {β : Type} {B : Nat} {J : β → World → Prop} (h : AbidesFrom B J) {s : β} {W : World} (hs : J s W) (o : Obj) : J s (W.alloc o) := h s W _ none hs (World.grownBy_alloc W o none) (fun r e => by cases e)

set_option maxHeartbeats 8000000 in
theorem walk_in (F : Fence) (hd : F.depth = none) (h57 : F.fn 68) (hro : F.round = none) (w0 : World) (l B NN : Nat) (J Jx : List (Nd w0) → World → Prop) (hJ : AbidesFrom B J)
    (hY : ∀ m pre (x : Nd w0) W, J pre W → pre.length < NN → YieldAt F m Tryz.prog l #[.agg x.1.1] W fun e W' =>
      (e = .returned (.bool true) ∧ J (pre ++ [x]) W' ∧ KpE w0.heap.size W W') ∨ (e = .returned (.bool false) ∧ Jx (pre ++ [x]) W')) :
    ∀ (k : Nat) (n : Nat) (e : Ex) (cs : Array Value) (pre : List (Nd w0)) (W : World), CsAt 13 (exR k) w0 cs e → tot e ≤ 1500 → Below w0.heap.size w0 W → J pre W → pre.length + (nodes e).length ≤ NN →
      CallsIn F n Tryz.prog 68 #[.agg cs, .func (.yield l) #[] #[]] W fun e' W' =>
        (e' = .returned (.bool true) ∧ ∃ ys : List (Nd w0), ys.map (fun x => x.1.2) = nodes e ∧ J (pre ++ ys) W' ∧ KpE w0.heap.size W W') ∨ (e' = .returned (.bool false) ∧ ∃ q, Jx q W') := by
  intro k
  induction k with
  | zero => intro n e cs pre W h; exact h.2.elim
  | succ K ih =>
    intro n e cs pre W hc ht hb hJ0 hN
    have hx := hc.ex
    obtain ⟨op, nm, A, d, t0, t1, t2, t3, t4, KK, al, alc, ax, axc, ar, arc, ms, ix, args, he, hv, -, -, -, hra⟩ := hx.open
    have h12 : cs.getD 12 undef = .slice ar args.length arc := by
      injection hv with hv
      rw [hv]; rfl
    obtain ⟨x0, hx0⟩ : ∃ x0 : Nd w0, x0 = ⟨(cs, e), ⟨_, hc⟩, ht⟩ := ⟨_, rfl⟩
    have hx01 : x0.1.1 = cs := by rw [hx0]
    have hx02 : x0.1.2 = e := by rw [hx0]
    have hnd : nodes e = e :: nodess args := by rw [he, nodes]
    have htt : tots args ≤ 1500 := by have := ht; rw [he, tot] at this; omega
    obtain ⟨rn, hrn⟩ : ∃ q, args.length = q := ⟨_, rfl⟩
    have hrI : (rn : Int) ≤ 140737488351232 := by have := hra.bytes; omega
    rw [hrn] at hra h12
    rw [hnd, List.length_cons] at hN
    have hN1 : pre.length < NN := by omega
    have hJ1 : J pre (W.alloc (.cells cs 48)) := abides_alloc hJ hJ0 _
    have hb1 : KpE w0.heap.size W (W.alloc (.cells cs 48)) := KpE.up ((Up.refl W).alloc _) hb.size
    have hld := run_ex hc.1 (BoxC.new W 48 cs).range
    have HBX := Lib.hid (BoxC.new W 48 cs)
    have hY1 := YieldAt.mono (R' := fun e' W' => (e' = .returned (.bool true) ∧ J (pre ++ [x0]) W' ∧ KpE w0.heap.size W W' ∧ BoxC W' W.heap.size 48 cs ∧ W'.cell? ⟨W.heap.size, 12, none⟩ = some (.slice ar rn arc) ∧ W.heap.size < W'.heap.size) ∨ (e' = .returned (.bool false) ∧ Jx (pre ++ [x0]) W')) (hY (n - 1) pre x0 _ hJ1 hN1) (fun e' W' h => h.elim (fun ⟨g1, g2, g3⟩ => .inl ⟨g1, g2, hb1.trans g3, g3.box HBX.out, (g3.box HBX.out).at h12 (by rw [hc.1]; decide), (g3.box HBX.out).lt⟩) .inr)
    rw [hx01] at hY1
    obtain ⟨fn, tmps, assign, body, hy, hR⟩ := hY1
    have HIH := Lib.hid ih
    have HRA := Lib.hid hra
    have HRN := Lib.hid hrn
    have HJ := Lib.hid hJ
    have HLD := Lib.hid hld
    have hcs := hc.1
    have H12 := Lib.hid h12
    have HTT := Lib.hid htt
    have HN := Lib.hid hN
    have HB := Lib.hid hb
    have HND := Lib.hid hnd
    have HX2 := Lib.hid hx02
    have hdd : ∀ k : Nat, (F.depth.isSome = true → 1 ≤ k) := fun k h => by rw [hd] at h; cases h
    obtain ⟨ne, hne⟩ : ∃ ne, nodes e = ne := ⟨_, rfl⟩
    rw [hne] at HND ⊢
    clear hY hJ1 hJ0 ih hra hrn hJ hld h12 htt hN hb hnd hx02 hx0 hx01 hne hv he hx hc hN1 ht
    refine callsIn_of_wp Tryz.func68 rfl h57 ?_ hro
    simp only [Tryz.ntmps68, List.size_toArray, List.length_cons, List.length_nil, Nat.reduceAdd, Nat.reduceSub, Array.replicate_succ, Array.replicate_zero, List.push_toArray, List.append_toArray, List.nil_append, List.cons_append]
    gi_wp2_with (first
      | (refine si_load HLD.out (by rfl) ?_)
      | ((try refine ⟨hdd _, ?_⟩); refine hR.mono ?_; clear hR; rintro e' W1 (⟨rfl, hJ2, hb2, hbx2, c12, hs2⟩ | ⟨rfl, hx2⟩)))
    · have HJ2 := Lib.hid hJ2
      have HB2 := Lib.hid hb2
      clear hJ2 hb2 hbx2 hb1 hy
      gi_loopw [14] (fun iv y => ∃ (i : Nat) (ys : List (Nd w0)), iv = .int .i64 i ∧ i ≤ rn ∧ ys.map (fun x => x.1.2) = nodess (args.take i) ∧ J (pre ++ [x0] ++ ys) y ∧ KpE w0.heap.size W y) (fun iv _ => rn - (intOf iv).toNat)
      case atStart => exact ⟨0, [], rfl, Nat.zero_le _, rfl, by rw [List.append_nil]; exact HJ2.out, HB2.out⟩
      case round =>
        rename World => y
        obtain ⟨i, ys, rfl, hi, hys, hJy, hky⟩ := hrel
        have HYS := Lib.hid hys
        have HJY := Lib.hid hJy
        have HKY := Lib.hid hky
        clear hys hJy hky c12 hs2 HJ2 HB2
        by_cases hlt : i < rn
        · have hltI : (i : Int) < rn := by omega
          have hi1 : i < args.length := by rw [HRN.out]; exact hlt
          obtain ⟨g, o, ds, rfl, hg, hds, hr⟩ := HRA.out.row (exR_k K) i hi1
          have hUy : Up w0 y := HB.out.trans HKY.out.below
          have HLA := Lib.hid (run_ex hds.1 (hr y hUy))
          have hg' := Nat.lt_of_lt_of_le hg hUy.size
          have HTA0 := Lib.hid (nodess_take hi1)
          have htm := tots_mem hi1
          have hnl := nodess_len args
          have hnt : (nodess (args.take (i + 1))).length ≤ (nodess args).length := by
            conv => rhs; rw [← List.take_append_drop (i + 1) args, nodess_app, List.length_append]
            omega
          obtain ⟨q, hq⟩ : ∃ q, args[i] = q := ⟨_, rfl⟩
          have HTA : Hid (nodess (args.take (i + 1)) = nodess (args.take i) ++ nodes q) := Lib.hid (by rw [← hq]; exact HTA0.out)
          rw [hq] at hds htm
          have hFL := run_fill (P := Tryz.prog) (k := 13) ex_i y (Z := #[.int .i64 0, .string ByteArray.empty, .int .i64 0, .int .i64 0, .int .i64 0, .int .i64 0, .int .i64 0, .int .i64 0, .int .i64 0, .int .i64 0, .slice none 0 0, .slice none 0 0, .slice none 0 0]) (cs := ds) rfl hds.1 (hds.one (exR_k K))
          have HFL := Lib.hid hFL
          have HL2 := Lib.hid (run_ex hds.1 (BoxC.new y 48 ds).range)
          have hyl : ys.length = (nodess (args.take i)).length := by have := congrArg List.length HYS.out; simpa using this
          have hb3 : KpE w0.heap.size W (y.alloc (.cells ds 48)) := HKY.out.trans (KpE.up ((Up.refl y).alloc _) (HB.out.trans HKY.out.below).size)
          have HCL := Lib.hid ((HIH.out (n - 1) q ds (pre ++ [x0] ++ ys) (y.alloc (.cells ds 48)) hds (by have := HTT.out; omega) (HB.out.trans hb3.below) (abides_alloc HJ.out HJY.out _) (by
            have h1 := HN.out
            have h2 := congrArg List.length HTA.out
            rw [List.length_append] at h2
            simp only [List.length_append, List.length_cons, List.length_nil]
            omega)).mono (R' := fun e' W' => (e' = .returned (.bool true) ∧ ∃ zs : List (Nd w0), zs.map (fun x => x.1.2) = nodes q ∧ J (pre ++ [x0] ++ ys ++ zs) W' ∧ KpE w0.heap.size W W') ∨ (e' = .returned (.bool false) ∧ ∃ q, Jx q W')) (fun e' W' h => h.elim (fun ⟨g1, zs, g2, g3, g4⟩ => .inl ⟨g1, zs, g2, g3, hb3.trans g4⟩) .inr))
          clear HTA0
          clear hq hi1 hds hr hg htm hnl hnt hyl hb3 hFL hUy
          gi_wp2_with (first
            | (refine si_load HLA.out (by rfl) ?_)
            | (refine si_store HFL.out (by rfl) (by rfl) ?_)
            | (refine si_load HL2.out (by rfl) ?_)
            | ((try refine ⟨hdd _, ?_⟩); gi_at_call 68; refine HCL.out.mono ?_; clear HCL; rintro e' W2 (⟨rfl, zs, hz1, hz2, hz3⟩ | ⟨rfl, q2, hx3⟩)))
          · have HZ1 := Lib.hid hz1
            have HZ2 := Lib.hid hz2
            have HZ3 := Lib.hid hz3
            clear hz1 hz2 hz3
            go_roundw
            case rel => exact ⟨i + 1, ys ++ zs, by go_num, by omega, by rw [List.map_append, HYS.out, HZ1.out, HTA.out], by rw [← List.append_assoc]; exact HZ2.out, HZ3.out⟩
            case measure => simp [intOf]; omega
          · go_ret
            exact .inr ⟨rfl, _, hx3⟩
        · obtain rfl : rn = i := by omega
          have HE : Hid (([x0] ++ ys).map (fun x => x.1.2) = ne) := Lib.hid (by
            rw [List.map_append, HYS.out, List.take_of_length_le (by rw [HRN.out]; exact Nat.le_refl _), HND.out]
            simp [HX2.out])
          gi_wp2
          go_ret
          exact .inl ⟨rfl, [x0] ++ ys, HE.out, by rw [← List.append_assoc]; exact HJY.out, HKY.out⟩
    · go_ret
      exact .inr ⟨rfl, _, hx2⟩
end Go.Proofs.YtpccaifhcmcegaaGreat
end

section
namespace Go.Proofs.YtpccaifhcmcegaaGreat
set_option linter.unusedSimpArgs false
open Go.ChangeShapes Go.WideShapes Go.ChangeAt Go.RowKit
set_option linter.unusedVariables false
set_option maxRecDepth 100000

theorem u8_tri (a b : UInt8) : a < b ∨ a = b ∨ b < a := by
  rcases Nat.lt_trichotomy a.toNat b.toNat with h | h | h
  · exact Or.inl (UInt8.lt_iff_toNat_lt.2 h)
  · exact Or.inr (Or.inl (UInt8.toNat_inj.1 h))
  · exact Or.inr (Or.inr (UInt8.lt_iff_toNat_lt.2 h))
theorem u8_asymm {a b : UInt8} (h : a < b) : ¬ b < a := fun g => by
  have := UInt8.lt_iff_toNat_lt.1 h
  have := UInt8.lt_iff_toNat_lt.1 g
  omega
theorem u8_trans {a b c : UInt8} (h : a < b) (g : b < c) : a < c := UInt8.lt_iff_toNat_lt.2 (Nat.lt_trans (UInt8.lt_iff_toNat_lt.1 h) (UInt8.lt_iff_toNat_lt.1 g))
theorem u8_irrefl (a : UInt8) : ¬ a < a := fun g => by have := UInt8.lt_iff_toNat_lt.1 g; omega

theorem bl_iff (a b : UInt8) (x y : List UInt8) : Op.bytesLess (a :: x) (b :: y) = true ↔ a < b ∨ (a = b ∧ Op.bytesLess x y = true) := by
  simp [Op.bytesLess]
theorem bl_irrefl : ∀ x : List UInt8, Op.bytesLess x x = false
  | [] => rfl
  | a :: x => by
    rw [← Bool.not_eq_true, bl_iff]
    rintro (h | ⟨_, h⟩)
    · exact u8_irrefl a h
    · rw [bl_irrefl x] at h; cases h
theorem bl_asymm : ∀ x y : List UInt8, Op.bytesLess x y = true → Op.bytesLess y x = false
  | [], [], h => by cases h
  | [], _ :: _, _ => rfl
  | _ :: _, [], h => by cases h
  | a :: x, b :: y, h => by
    rw [← Bool.not_eq_true, bl_iff]
    rcases (bl_iff a b x y).1 h with h1 | ⟨rfl, h1⟩
    · rintro (g | ⟨rfl, _⟩)
      · exact u8_asymm h1 g
      · exact u8_irrefl _ h1
    · rintro (g | ⟨_, g⟩)
      · exact u8_irrefl _ g
      · rw [bl_asymm x y h1] at g; cases g
theorem bl_total : ∀ x y : List UInt8, Op.bytesLess x y = false → Op.bytesLess y x = false → x = y
  | [], [], _, _ => rfl
  | [], _ :: _, h, _ => by cases h
  | _ :: _, [], _, h => by cases h
  | a :: x, b :: y, h, g => by
    rw [← Bool.not_eq_true, bl_iff] at h g
    rcases u8_tri a b with k | rfl | k
    · exact absurd (Or.inl k) h
    · rw [bl_total x y (by rw [← Bool.not_eq_true]; exact fun e => h (Or.inr ⟨rfl, e⟩)) (by rw [← Bool.not_eq_true]; exact fun e => g (Or.inr ⟨rfl, e⟩))]
    · exact absurd (Or.inl k) g
theorem bl_trans : ∀ x y z : List UInt8, Op.bytesLess x y = true → Op.bytesLess y z = true → Op.bytesLess x z = true
  | _, [], _, h, _ => by simp [Op.bytesLess] at h
  | _, _ :: _, [], _, h => by cases h
  | [], _ :: _, _ :: _, _, _ => rfl
  | a :: x, b :: y, c :: z, h, g => by
    rw [bl_iff] at h g ⊢
    rcases h with h | ⟨rfl, h⟩
    · rcases g with g | ⟨rfl, g⟩
      · exact Or.inl (u8_trans h g)
      · exact Or.inl h
    · rcases g with g | ⟨rfl, g⟩
      · exact Or.inl g
      · exact Or.inr ⟨rfl, bl_trans x y z h g⟩


theorem bl_lt : ∀ (x y : List UInt8), Op.bytesLess x y = decide (x < y)
  | [], [] => by simp [Op.bytesLess]
  | _ :: _, [] => by simp [Op.bytesLess]
  | [], _ :: _ => by simp [Op.bytesLess]
  | a :: x, b :: y => by
    rw [Op.bytesLess, bl_lt x y]
    simp only [List.cons_lt_cons_iff]
    by_cases h1 : a < b <;> by_cases h2 : a = b <;> by_cases h3 : x < y <;> simp [h1, h2, h3]
theorem le_bl (x y : List UInt8) : decide (x ≤ y) = !Op.bytesLess y x := by
  rw [bl_lt]
  by_cases h : y < x
  · have : ¬ x ≤ y := fun g => g h
    simp [h, this]
  · have : x ≤ y := h
    simp [h, this]
theorem sorted_bl (zs : List (List UInt8)) : (zs.mergeSort fun x y => decide (x ≤ y)).Pairwise fun x y => Op.bytesLess y x = false := by
  have h := List.pairwise_mergeSort (le := fun x y : List UInt8 => decide (x ≤ y)) (fun a b c h1 h2 => by
    rw [le_bl] at *
    cases hx : Op.bytesLess c a
    · rfl
    · have h1' : Op.bytesLess b a = false := by simpa using h1
      have h2' : Op.bytesLess c b = false := by simpa using h2
      cases hy : Op.bytesLess a b
      · have e := bl_total a b hy h1'
        subst e
        rw [hx] at h2'; cases h2'
      · have := bl_trans _ _ _ hx hy
        rw [this] at h2'; cases h2') (fun a b => by
    rw [le_bl, le_bl]
    cases hx : Op.bytesLess b a
    · rfl
    · rw [bl_asymm _ _ hx]; rfl) zs
  refine h.imp fun {a b} hab => ?_
  rw [le_bl] at hab
  simpa using hab

theorem comp_step (zs : List (List UInt8)) (hs : zs.Pairwise fun x y => Op.bytesLess y x = false) : ∀ m, m ≤ zs.length →
    (Lib.compactUpTo zs.toArray m).Pairwise (fun x y => Op.bytesLess x y = true) ∧ (∀ t ∈ Lib.compactUpTo zs.toArray m, ∃ j, j < m ∧ zs[j]? = some t) ∧ (∀ j t, j < m → zs[j]? = some t → t ∈ Lib.compactUpTo zs.toArray m) ∧ (∀ t ∈ Lib.compactUpTo zs.toArray m, ∀ u, zs[m - 1]? = some u → Op.bytesLess u t = false)
  | 0, _ => by
    have : Lib.compactUpTo zs.toArray 0 = [] := by simp [Lib.compactUpTo]
    rw [this]
    exact ⟨List.Pairwise.nil, (fun t ht => absurd ht (by simp)), (fun j t hj => absurd hj (by omega)), (fun t ht => absurd ht (by simp))⟩
  | m + 1, hm => by
    obtain ⟨h1, h2, h3, h4⟩ := comp_step zs hs m (by omega)
    have hml : m < zs.length := by omega
    have hmm : zs[m]? = some zs[m] := List.getElem?_eq_getElem hml
    have e0 : zs.toArray[m]! = zs[m] := by simp [getElem!_pos, hml]
    have hpw := List.pairwise_iff_getElem.1 hs
    rw [Lib.compactUpTo_succ, e0]
    by_cases hk : Lib.keeps zs.toArray m = true
    · rw [if_pos hk]
      have key : ∀ t ∈ Lib.compactUpTo zs.toArray m, Op.bytesLess t zs[m] = true := by
        intro t ht
        obtain ⟨j, hj, hjt⟩ := h2 t ht
        have hj0 : 0 < m := by omega
        have hpl : m - 1 < zs.length := by omega
        have ep : zs[m - 1]? = some zs[m - 1] := List.getElem?_eq_getElem hpl
        have hle := h4 t ht _ ep
        have hne : zs[m] ≠ zs[m - 1] := by
          unfold Lib.keeps at hk
          have hh := of_decide_eq_true hk
          rcases hh with hh | hh
          · omega
          · have e1 : zs.toArray[m - 1]! = zs[m - 1] := by simp [getElem!_pos, hpl]
            rw [e0, e1] at hh; exact hh
        have hlt : Op.bytesLess zs[m - 1] zs[m] = true := by
          have h5 := hpw (m - 1) m hpl hml (by omega)
          cases hx : Op.bytesLess zs[m - 1] zs[m]
          · exact absurd (bl_total _ _ h5 hx) hne
          · rfl
        cases hy : Op.bytesLess t zs[m - 1]
        · have := bl_total _ _ hy hle
          rw [this]; exact hlt
        · exact bl_trans _ _ _ hy hlt
      refine ⟨?_, ?_, ?_, ?_⟩
      · rw [List.pairwise_append]
        exact ⟨h1, List.pairwise_singleton _ _, fun a ha b hb => by rw [List.mem_singleton.1 hb]; exact key a ha⟩
      · intro t ht
        rcases List.mem_append.1 ht with ht | ht
        · obtain ⟨j, hj, hjt⟩ := h2 t ht
          exact ⟨j, by omega, hjt⟩
        · rw [List.mem_singleton.1 ht]; exact ⟨m, by omega, hmm⟩
      · intro j t hj hjt
        by_cases e : j = m
        · subst e; rw [hmm] at hjt; cases hjt; simp
        · exact List.mem_append.2 (Or.inl (h3 j t (by omega) hjt))
      · intro t ht u hu
        have eu : zs[m]? = some u := hu
        rw [hmm] at eu; cases eu
        rcases List.mem_append.1 ht with ht | ht
        · exact bl_asymm _ _ (key t ht)
        · rw [List.mem_singleton.1 ht, bl_irrefl]
    · rw [if_neg hk, List.append_nil]
      have hm0 : 0 < m := by
        cases m with
        | zero => exact absurd (by simp [Lib.keeps]) hk
        | succ k => omega
      have hpl : m - 1 < zs.length := by omega
      have ep : zs[m - 1]? = some zs[m - 1] := List.getElem?_eq_getElem hpl
      have heq : zs[m] = zs[m - 1] := by
        have e1 : zs.toArray[m - 1]! = zs[m - 1] := by simp [getElem!_pos, hpl]
        unfold Lib.keeps at hk
        rw [e0, e1] at hk
        by_cases h : zs[m] = zs[m - 1]
        · exact h
        · exact absurd (by simp [h]) hk
      refine ⟨h1, fun t ht => ?_, fun j t hj hjt => ?_, fun t ht u hu => ?_⟩
      · obtain ⟨j, hj, hjt⟩ := h2 t ht
        exact ⟨j, by omega, hjt⟩
      · by_cases e : j = m
        · subst e
          rw [hmm] at hjt; cases hjt
          exact h3 (j - 1) _ (by omega) (by rw [ep, heq])
        · exact h3 j t (by omega) hjt
      · have eu : zs[m]? = some u := hu
        rw [hmm] at eu; cases eu
        exact h4 t ht _ (by rw [ep, heq])
theorem comp_facts (zs : List (List UInt8)) (hs : zs.Pairwise fun x y => Op.bytesLess y x = false) : (Lib.compact zs).Pairwise (fun x y => Op.bytesLess x y = true) ∧ ∀ t, t ∈ Lib.compact zs ↔ t ∈ zs := by
  obtain ⟨h1, h2, h3, _⟩ := comp_step zs hs zs.length (Nat.le_refl _)
  refine ⟨h1, fun t => ⟨fun ht => ?_, fun ht => ?_⟩⟩
  · obtain ⟨j, _, hj⟩ := h2 t ht
    exact List.mem_of_getElem? hj
  · obtain ⟨j, hj, e⟩ := List.getElem_of_mem ht
    exact h3 j t hj (by rw [List.getElem?_eq_getElem hj, e])

def mkS (l : List UInt8) : ByteArray := ⟨l.toArray⟩
theorem mkS_toList (l : List UInt8) : (mkS l).toList = l := ByteArray.toList_mk _
theorem mkS_data (s : ByteArray) : mkS s.data.toList = s := Lib.mk_data s
def sortN (all : List ByteArray) : List ByteArray := (Lib.compact ((all.map (·.data.toList)).mergeSort fun x y => decide (x ≤ y))).map mkS
theorem mem_sortN (all : List ByteArray) (t : ByteArray) : t ∈ sortN all ↔ t ∈ all := by
  obtain ⟨_, h2⟩ := comp_facts _ (sorted_bl (all.map (·.data.toList)))
  unfold sortN
  rw [List.mem_map]
  constructor
  · rintro ⟨l, hl, rfl⟩
    rw [h2, List.mem_mergeSort, List.mem_map] at hl
    obtain ⟨s, hs, rfl⟩ := hl
    rw [mkS_data]; exact hs
  · intro ht
    refine ⟨t.data.toList, ?_, mkS_data t⟩
    rw [h2, List.mem_mergeSort]
    exact List.mem_map.2 ⟨t, ht, rfl⟩
theorem strsV_enc (l : List ByteArray) : strsV l = (l.map (·.data.toList)).map encStr := (Lib.map_encStr l).symm
theorem below_grow {B : Nat} {w0 w : World} (h : Below B w0 w) (hB : B ≤ w.heap.size) (os : Array Obj) : Below B w0 (Sort.grow w os) :=
  h.trans ⟨rfl, rfl, rfl, by simp, fun k hk => Sort.heap_grow_old w os (by omega)⟩
theorem own_strsV {base : Nat} {w : World} {v : Value} {l : List ByteArray} (h : OwnS base w v l) : w.ownsRow base 9 1 v l.length (strsV l) := by
  obtain ⟨F, h1, h2⟩ := h
  have e : flat F l.length 1 = strsV l := by
    rw [flat_one]
    unfold strsV
    apply List.ext_getElem?
    intro i
    rw [List.getElem?_map, List.getElem?_map]
    by_cases hi : i < l.length
    · rw [List.getElem?_range hi, List.getElem?_eq_getElem hi]
      exact congrArg some (h2 i hi).1
    · rw [List.getElem?_eq_none (by simpa using hi), List.getElem?_eq_none (by simpa using hi)]; rfl
  rw [← e]; exact h1
theorem own_sizes {base : Nat} {w : World} {v : Value} {l : List ByteArray} (h : OwnS base w v l) : ∀ s ∈ l, s.size ≤ maxLen := fun s hs => by
  obtain ⟨F, h1, h2⟩ := h
  obtain ⟨i, hi, rfl⟩ := List.mem_iff_getElem.1 hs
  exact (h2 i hi).2
/-- What Sort and Compact leave of a row of strings of the call's own. -/
theorem tail_names (B : Nat) (w0 : World) (hB : w0.heap.size = B) (v : Value) (all : List ByteArray) (w : World) (hU : Up w0 w) (hown : w.ownsRow B 9 1 v all.length (strsV all)) (hn : all.length ≤ 3000000) (hsz : ∀ s ∈ all, s.size ≤ maxLen) :
    Calls Tryz.prog 69 #[v] w fun e w1 => e = .returned (.tuple #[]) ∧ Calls Tryz.prog 70 #[v] w1 fun e w2 => ∃ v2, e = .returned v2 ∧ LsN B w2 v2 (sortN all) ∧ Up w0 w2 ∧ ∀ D, D < w.heap.size → v.ownBlock ≠ some D → w2.heap[D]? = w.heap[D]? := by
  by_cases h0 : all = []
  · subst h0
    obtain ⟨a, cap, rfl⟩ := own_slice hown
    refine (Tryz.slices_Sort_string_none a cap w).mono fun e w1 ⟨he, hw⟩ => ⟨he, ?_⟩
    rw [hw]
    refine (Tryz.slices_Compact_string_empty a cap w).mono fun e w2 ⟨he, hw⟩ => ?_
    rw [hw]
    have e0 : sortN [] = [] := by
      cases h : sortN [] with
      | nil => rfl
      | cons x r => exact absurd ((mem_sortN [] x).1 (by rw [h]; simp)) (by simp)
    refine ⟨_, he, ?_, hU, fun _ _ _ => rfl⟩
    rw [e0]
    refine ⟨⟨⟨a, cap, rfl, Nat.zero_le _⟩, by simp, fun _ _ => undef, ⟨⟨a, cap, rfl, (fun _ => rfl), fun x hx hl => absurd hl (by simp)⟩, by decide⟩, fun i hi => absurd hi (by simp)⟩, own_new hown⟩
  · have hlen : 0 < all.length := by
      cases all with
      | nil => exact absurd rfl h0
      | cons x r => simp
    have hne : v ≠ .slice none 0 0 := by
      rcases hown.2 with ⟨_, hz⟩ | ⟨g, cap, cur, rfl, _⟩
      · omega
      · intro h; cases h
    rw [strsV_enc] at hown
    obtain ⟨g, cap, rfl, hg1, hg2, hc1, hc2, hl, hH⟩ := Lib.holds_of_ownsRow hown hne
    obtain ⟨ss, hss⟩ : ∃ ss, all.map (·.data.toList) = ss := ⟨_, rfl⟩
    rw [hss] at hown hl hH
    have hsl : ss.length = all.length := hl
    obtain ⟨ts, hts⟩ : ∃ ts, (ss.mergeSort fun x y => decide (x ≤ y)) = ts := ⟨_, rfl⟩
    have htl : ts.length = ss.length := by rw [← hts, List.length_mergeSort]
    have hS := Tryz.slices_Sort_string g 0 cap ss w hH hg2 (by omega)
    rw [hsl, hts] at hS
    refine hS.mono fun e w1 ⟨he, n, os, hw⟩ => ⟨he, ?_⟩
    obtain ⟨cur, hcur, hcs⟩ : ∃ cur, w.heap[g]? = some (.cells cur 9 (0, 0)) ∧ cur.size = cap * 1 := by
      rcases hown.2 with ⟨hv, _⟩ | ⟨g', cap', cur, hv, _, hg, _, _, hs, _⟩
      · cases hv
      · simp only [Value.slice.injEq, Option.some.injEq, Addr.mk.injEq] at hv
        obtain ⟨⟨rfl, _⟩, _, rfl⟩ := hv
        exact ⟨cur, hg, hs⟩
    have hown1 : w1.ownsRow B 9 1 (.slice (some ⟨g, 0, none⟩) ts.length cap) ts.length (ts.map encStr) := by
      rw [hw, htl]
      exact ownsRow_sorted htl hg1 hcur (by omega) hc2 hcs
    have hU1 : Below B w0 w1 := by
      rw [hw]
      exact below_grow (Lib.below_putRow (hB ▸ hU) hg1) (by simp; omega) os
    have hH1 : Sort.Holds encStr w1 g 0 ts.toArray := by
      obtain ⟨g', cap', hv', _, _, _, _, _, hH1⟩ := Lib.holds_of_ownsRow hown1 (by intro h; cases h)
      simp only [Value.slice.injEq, Option.some.injEq, Addr.mk.injEq] at hv'
      obtain ⟨⟨rfl, _⟩, _, rfl⟩ := hv'
      exact hH1
    have hC := Tryz.slices_Compact_string g 0 cap ts w1 hH1 (by omega) (by omega)
    rw [show ts.length = all.length by omega] at hC
    refine hC.mono fun e w2 ⟨he, q, hw2⟩ => ?_
    have hcl : (Lib.compact ts).length ≤ ts.length := by
      unfold Lib.compact Lib.compactUpTo
      rw [List.length_map]
      exact Nat.le_trans (List.length_filter_le _ _) (by simp)
    have hown2 := Lib.ownsRow_putRow (q := q) (ys := Lib.compact ts ++ List.replicate (all.length - (Lib.compact ts).length) []) hown1 (by simp; omega) (k := (Lib.compact ts).length) hcl
    rw [← hw2, List.take_left] at hown2
    refine ⟨_, he, ?_, ?_, fun D hD hDn => ?_⟩
    · have e1 : (Lib.compact ts).map encStr = strsV (sortN all) := by
        rw [strsV_enc]
        unfold sortN
        rw [hss, hts, List.map_map, List.map_map]
        refine List.map_congr_left fun x _ => ?_
        simp [mkS, Function.comp]
      have e2 : (Lib.compact ts).length = (sortN all).length := by unfold sortN; rw [hss, hts, List.length_map]
      rw [e1] at hown2
      refine ⟨LsAt.of_own hown2 e2.symm (by omega) (fun s hs => hsz s ((mem_sortN all s).1 hs)), own_new hown2⟩
    · rw [hw2]
      have := Lib.below_putRow (enc := encStr) (q := q) (d := (Lib.compact ts ++ List.replicate (all.length - (Lib.compact ts).length) []).toArray) hU1 hg1
      unfold Up; rw [hB]; exact this
    · have hgD : g ≠ D := fun e => hDn (by rw [e]; rfl)
      rw [hw2, hw]
      simp only [Sort.putRow, Sort.mapBlock, Sort.ahead, Array.getElem?_modify, if_neg hgD]
      rw [Sort.heap_grow_old _ _ (by simpa using hD)]
      simp only [Sort.putRow, Sort.mapBlock, Array.getElem?_modify, if_neg hgD]


/-! ### With -/
def asc (l : List ByteArray) : Prop := l.Pairwise fun a b => lt a b = true
theorem lt_trans' {a b c : ByteArray} (h : lt a b = true) (g : lt b c = true) : lt a c = true := bl_trans _ _ _ h g
theorem lt_irr (a : ByteArray) : lt a a = false := bl_irrefl _
theorem wth_asc : ∀ (l : List ByteArray) (s : ByteArray), asc l → asc (wth l s)
  | [], s, _ => by rw [wth]; exact List.pairwise_singleton _ _
  | x :: r, s, h => by
    have h' := List.pairwise_cons.1 h
    rw [wth]
    split
    · rename_i h1
      refine List.pairwise_cons.2 ⟨fun y hy => ?_, wth_asc r s h'.2⟩
      rcases (wth_mem r s y).1 hy with hy | rfl
      · exact h'.1 y hy
      · exact h1
    · split
      · exact h
      · rename_i h1 h2
        have hsx : lt s x = true := by
          cases e : lt s x
          · exact absurd (by
              have := bl_total _ _ (show Op.bytesLess x.toList s.toList = false from by cases hh : lt x s with | false => exact hh | true => exact absurd hh h1) e
              rw [← mkS_data x, ← mkS_data s]
              rw [Lib.toList_data, Lib.toList_data] at this
              rw [this]) h2
          · rfl
        refine List.pairwise_cons.2 ⟨fun y hy => ?_, h⟩
        rcases List.mem_cons.1 hy with rfl | hy
        · exact hsx
        · exact lt_trans' hsx (h'.1 y hy)
theorem foldl_wth_asc : ∀ (m l : List ByteArray), asc l → asc (m.foldl wth l)
  | [], l, h => h
  | s :: r, l, h => foldl_wth_asc r _ (wth_asc l s h)
theorem foldl_wth_mem : ∀ (m l : List ByteArray) (x : ByteArray), x ∈ m.foldl wth l ↔ x ∈ l ∨ x ∈ m
  | [], l, x => by simp
  | s :: r, l, x => by
    rw [List.foldl_cons, foldl_wth_mem r, wth_mem, List.mem_cons]
    constructor
    · rintro ((h | h) | h)
      · exact .inl h
      · exact .inr (.inl h)
      · exact .inr (.inr h)
    · rintro (h | h | h)
      · exact .inl (.inl h)
      · exact .inl (.inr h)
      · exact .inr h
theorem asc_same : ∀ (a b : List ByteArray), asc a → asc b → (∀ x, x ∈ a ↔ x ∈ b) → a = b
  | [], [], _, _, _ => rfl
  | [], y :: s, _, _, h => absurd ((h y).2 List.mem_cons_self) (by simp)
  | x :: r, [], _, _, h => absurd ((h x).1 List.mem_cons_self) (by simp)
  | x :: r, y :: s, ha, hb, h => by
    have ha' := List.pairwise_cons.1 ha
    have hb' := List.pairwise_cons.1 hb
    have e : x = y := by
      rcases List.mem_cons.1 ((h x).1 List.mem_cons_self) with e | hx
      · exact e
      · rcases List.mem_cons.1 ((h y).2 List.mem_cons_self) with e | hy
        · exact e.symm
        · have h1 := hb'.1 x hx
          have h2 := ha'.1 y hy
          have h3 := lt_trans' h1 h2
          rw [lt_irr] at h3
          cases h3
    subst e
    refine congrArg _ (asc_same r s ha'.2 hb'.2 fun z => ⟨fun hz => ?_, fun hz => ?_⟩)
    · rcases List.mem_cons.1 ((h z).1 (List.mem_cons_of_mem _ hz)) with rfl | hz'
      · have := ha'.1 z hz
        rw [lt_irr] at this
        cases this
      · exact hz'
    · rcases List.mem_cons.1 ((h z).2 (List.mem_cons_of_mem _ hz)) with rfl | hz'
      · have := hb'.1 z hz
        rw [lt_irr] at this
        cases this
      · exact hz'
theorem sortN_asc (all : List ByteArray) : asc (sortN all) := by
  obtain ⟨h1, _⟩ := comp_facts _ (sorted_bl (all.map (·.data.toList)))
  unfold asc sortN
  rw [List.pairwise_map]
  exact h1.imp fun {a b} hab => by unfold lt; rw [mkS_toList, mkS_toList]; exact hab
theorem sortN_eq (all : List ByteArray) : sortN all = all.foldl wth [] :=
  asc_same _ _ (sortN_asc all) (foldl_wth_asc all [] List.Pairwise.nil) fun x => by
    rw [mem_sortN, foldl_wth_mem]
    simp

set_option maxHeartbeats 4000000 in
/-- sorted of the program: on a row of the call's own. -/
theorem ex_sorted_at (w0 : World) (v : Value) (all : List ByteArray) (w : World) (hU : Up w0 w) (hown : OwnS w0.heap.size w v all) (hn : all.length ≤ 3000000) :
    Calls Tryz.prog 57 #[v] w fun e w' => ∃ u, e = .returned u ∧ Up w0 w' ∧ LsN w0.heap.size w' u (all.foldl wth []) ∧ ∀ D, D < w.heap.size → v.ownBlock ≠ some D → w'.heap[D]? = w.heap[D]? := by
  have hrow : w.ownsRow w0.heap.size 9 1 v all.length (strsV all) := own_strsV hown
  have HT := Lib.hid (tail_names w0.heap.size w0 rfl v all w hU hrow hn (own_sizes hown))
  obtain ⟨a, c, rfl⟩ := hown.shape
  obtain ⟨n, hnn⟩ : ∃ n, all.length = n := ⟨_, rfl⟩
  rw [hnn] at HT ⊢
  clear hown hrow hn hnn
  go_enter Tryz.func57, Tryz.ntmps57
  go_wp2_with (first
    | (go_at_call 69; (with_reducible refine HT.out.mono ?_); rintro e' w1 ⟨rfl, hc⟩; have HC := Lib.hid hc; clear hc)
    | (go_at_call 70; (with_reducible refine HC.out.mono ?_); rintro e' w2 ⟨v2, rfl, hl, hu, hd⟩; have HL := Lib.hid hl; have HU2 := Lib.hid hu; have HD := Lib.hid hd; clear hl hu hd))
  go_ret
  refine ⟨_, rfl, HU2.out, ?_, HD.out⟩
  rw [← sortN_eq]
  exact HL.out
theorem ex_sorted (w0 : World) (v : Value) (all : List ByteArray) (w : World) (hU : Up w0 w) (hown : OwnS w0.heap.size w v all) (hn : all.length ≤ 3000000) :
    Calls Tryz.prog 57 #[v] w fun e w' => ∃ u, e = .returned u ∧ Up w0 w' ∧ LsN w0.heap.size w' u (all.foldl wth []) :=
  (ex_sorted_at w0 v all w hU hown hn).mono fun _ _ ⟨u, h1, h2, h3, _⟩ => ⟨u, h1, h2, h3⟩
end Go.Proofs.YtpccaifhcmcegaaGreat
end
