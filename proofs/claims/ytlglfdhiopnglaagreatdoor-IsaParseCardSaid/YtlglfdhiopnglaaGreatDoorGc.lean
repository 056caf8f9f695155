/-
  Joined by a program: IsP, IsA, IsI, IsT.
-/
import Derived.Test.YtlglfdhiopnglaaGreatDoorPeZ
import Derived.Test.YtlglfdhiopnglaaGreatDoorGi
import Derived.Lib.Join
import Derived.Lib.ItoaNum
import Derived.Test.YtlglfdhiopnglaaGreatDoorGb
import Derived.Test.YtlglfdhiopnglaaGreatDoorShelf
import Derived.Lib.ItoaMem
import Derived.Lib.OwnBridge
import Derived.LaidMore
import Derived.BigQuiet

section
namespace Go.Proofs.YtlglfdhiopnglaaGreatDoor
open Go.ChangeShapes Go.WideShapes Go.ChangeAt Go.RowKit
set_option linter.unusedVariables false
set_option linter.unusedSimpArgs false

def opnL (n : Int) : List UInt8 :=
  if n = 4 then [97, 100, 100] else if n = 5 then [115, 117, 98] else if n = 6 then [109, 117, 108] else if n = 7 then [100, 105, 118] else if n = 8 then [110, 101, 103] else if n = 9 then [109, 105, 110] else if n = 10 then [109, 97, 120]
  else if n = 13 then [108, 116] else if n = 14 then [108, 101] else if n = 15 then [101, 113] else []
def rndL (h : Int) : List UInt8 := if h = 1 then [102, 108, 111, 111, 114] else if h = 2 then [99, 101, 105, 108] else if h = 3 then [122, 101, 114, 111] else if h = 4 then [101, 118, 101, 110] else []
def ovrL (o : Int) : List UInt8 := if o = 1 then [115, 97, 116] else if o = 2 then [119, 114, 97, 112] else []
def fixL (b f r o : List UInt8) : List UInt8 := [102, 105, 120, 32] ++ b ++ [32] ++ f ++ [32] ++ r ++ [32] ++ o
def typL (t : Typ) : List UInt8 := if t.1 = 1 then [102, 114, 97, 99] else if t.1 = 3 then [105, 110, 116] else fixL (Lib.itoa t.2.1) (Lib.itoa t.2.2.1) (rndL t.2.2.2.1) (ovrL t.2.2.2.2)
def frcL (n d : Int) : List UInt8 := if validF n d = false then [] else if d = 1 then Lib.itoa n else Lib.itoa n ++ [47] ++ Lib.itoa d
/-- The text of an operand. -/
def opdL (x : Ins) (k : Int) : List UInt8 :=
  if k = 1 then 120 :: Lib.itoa x.2.1 else if k = 2 then 120 :: Lib.itoa x.2.2.1 else if k = 3 then 120 :: Lib.itoa x.2.2.2.1
  else if k = 4 then 114 :: Lib.itoa x.2.1 else if k = 5 then 114 :: Lib.itoa x.2.2.1 else if k = 6 then 114 :: Lib.itoa x.2.2.2.1
  else if k = 7 then Lib.itoa x.2.1 else if k = 8 then Lib.itoa x.2.2.1 else if k = 9 ∨ k = 11 ∨ k = 13 then Lib.itoa x.2.2.2.1
  else if k = 10 ∨ k = 12 then Lib.itoa x.2.2.2.2.1.1 else if k = 14 then frcL x.2.2.2.2.1.1 x.2.2.2.2.1.2 else if k = 15 ∨ k = 16 then opnL x.2.2.2.2.1.1 else typL x.2.2.2.2.2
def lineL (x : Ins) : List UInt8 := Lib.join ((mnS x.1.toNat).data.toList :: (opsF x).map (opdL x)) [32]
def textL (l : List Ins) : List UInt8 := l.flatMap fun x => lineL x ++ [10]
def formatL (l : List Ins) : List UInt8 := if l.all wfB then textL l else []
end Go.Proofs.YtlglfdhiopnglaaGreatDoor
end

section
namespace Go.Proofs.YtlglfdhiopnglaaGreatDoor
open Go.ChangeShapes Go.WideShapes Go.ChangeAt Go.RowKit
set_option linter.unusedVariables false
set_option linter.unusedSimpArgs false
set_option maxRecDepth 100000

theorem ret_str {a b : ByteArray} (h : a = b) : Ending.returned (.string a) = .returned (.string b) := by rw [h]
theorem calls_up {P : Program} {f : FuncId} {args : Array Value} {w : World} {v : Value} (h : Calls P f args w fun e w' => e = .returned v ∧ w' = w) : Calls P f args w fun e w' => e = .returned v ∧ Up w w' := h.mono fun e w' ⟨h1, h2⟩ => ⟨h1, h2 ▸ Up.refl _⟩
def bst (l : List UInt8) : ByteArray := ⟨l.toArray⟩

theorem cat {A B : ByteArray} {a b c : List UInt8} (hA : A = bst a) (hB : B = bst b) (hc : a ++ b = c) (ha : a.length ≤ 100000) (hb : b.length ≤ 100000) : ∀ w, (Op.stringOp .add A B).run Tryz.prog w = .ok (.string (bst c)) w := fun w => by
  subst hA hB hc
  exact run_string_add_lists w a b (by omega) (by omega)
theorem decDigits_len : ∀ (k n : Nat), n < 10 ^ (k + 1) → (Lib.decDigits n).length ≤ k + 1 := by
  intro k
  induction k with
  | zero =>
    intro n h
    rw [Lib.decDigits, dif_pos (by simpa using h)]; simp
  | succ k ih =>
    intro n h
    rw [Lib.decDigits]
    split
    · simp
    · have := ih (n / 10) (by rw [Nat.pow_succ] at h; omega)
      rw [List.length_append]
      simp only [List.length_cons, List.length_nil]
      omega
theorem itoa_len {n : Int} (h : R64 n) : (Lib.itoa n).length ≤ 21 := by
  have p : (10 : Nat) ^ (19 + 1) = 100000000000000000000 := by decide
  obtain ⟨h0, h1⟩ := h
  unfold Lib.itoa
  split
  · have := decDigits_len 19 n.natAbs (by rw [p]; omega)
    simp only [List.length_cons]; omega
  · have := decDigits_len 19 n.toNat (by rw [p]; omega)
    omega
theorem ite_len {c : Prop} [Decidable c] {a b : List UInt8} {n : Nat} (ha : a.length ≤ n) (hb : b.length ≤ n) : (if c then a else b).length ≤ n := by split <;> assumption
theorem rndL_len (h : Int) : (rndL h).length ≤ 5 := by unfold rndL; (repeat' split) <;> decide
theorem ovrL_len (h : Int) : (ovrL h).length ≤ 4 := by unfold ovrL; (repeat' split) <;> decide
theorem opnL_len (h : Int) : (opnL h).length ≤ 3 := by unfold opnL; (repeat' split) <;> decide
theorem fixL_len {b f r o : List UInt8} (h1 : b.length ≤ 21) (h2 : f.length ≤ 21) (h3 : r.length ≤ 5) (h4 : o.length ≤ 4) : (fixL b f r o).length ≤ 60 := by
  unfold fixL
  simp only [List.length_append, List.length_cons, List.length_nil]
  omega
theorem typL_len {t : Typ} (h : TyR t) : (typL t).length ≤ 60 := by
  unfold typL
  split
  · decide
  · split
    · decide
    · exact fixL_len (itoa_len (h 1)) (itoa_len (h 2)) (rndL_len _) (ovrL_len _)
theorem frcL_len {n d : Int} (h : R64 n) (g : R64 d) : (frcL n d).length ≤ 60 := by
  have a := itoa_len h
  have b := itoa_len g
  unfold frcL
  split
  · decide
  · split
    · omega
    · simp only [List.length_append, List.length_cons, List.length_nil]; omega
theorem opdL_len {x : Ins} (h : InR x) (k : Int) : (opdL x k).length ≤ 60 := by
  have a := itoa_len (h 1)
  have b := itoa_len (h 2)
  have c := itoa_len (h 3)
  have d := itoa_len (h 4)
  have e := frcL_len (h 4) (h 5)
  have f := opnL_len x.2.2.2.2.1.1
  have g := typL_len (t := x.2.2.2.2.2) (fun j => match j with
    | 0 => h 6
    | 1 => h 7
    | 2 => h 8
    | 3 => h 9
    | j + 4 => h 10)
  simp only [insC] at a b c d e
  have u : ∀ (b : UInt8) (l : List UInt8), l.length ≤ 21 → (b :: l).length ≤ 60 := fun b l h => by simp only [List.length_cons]; omega
  unfold opdL
  repeat first | exact u _ _ a | exact u _ _ b | exact u _ _ c | exact Nat.le_trans a (by decide) | exact Nat.le_trans b (by decide) | exact Nat.le_trans c (by decide) | exact Nat.le_trans d (by decide) | exact e | exact Nat.le_trans f (by decide) | exact g | refine ite_len ?_ ?_
set_option maxHeartbeats 4000000 in
theorem isa_operatorName (n : Int) (w : World) : Calls Tryz.prog 81 #[.int .i64 n] w fun e w' => e = .returned (.string (bst (opnL n))) ∧ w' = w := by
  obtain ⟨r, hr⟩ : ∃ r, bst (opnL n) = r := ⟨_, rfl⟩
  rw [hr]
  have HR := Lib.hid hr
  clear hr
  go_enter Tryz.func81, Tryz.ntmps81
  go_wp2
  all_goals try simp only [beq_iff_eq, beq_eq_false_iff_ne, ne_eq] at *
  all_goals first | contradiction | (go_ret; exact ⟨ret_str (by rw [← HR.out, opnL]; simp [*, bst]), rfl⟩)
set_option maxHeartbeats 4000000 in
theorem isa_rounding (n : Int) (w : World) : Calls Tryz.prog 117 #[.int .i64 n] w fun e w' => e = .returned (.string (bst (rndL n))) ∧ w' = w := by
  obtain ⟨r, hr⟩ : ∃ r, bst (rndL n) = r := ⟨_, rfl⟩
  rw [hr]
  have HR := Lib.hid hr
  clear hr
  go_enter Tryz.func117, Tryz.ntmps117
  go_wp2
  all_goals try simp only [beq_iff_eq, beq_eq_false_iff_ne, ne_eq] at *
  all_goals first | contradiction | (go_ret; exact ⟨ret_str (by rw [← HR.out, rndL]; simp [*, bst]), rfl⟩)
set_option maxHeartbeats 4000000 in
theorem isa_overflow (n : Int) (w : World) : Calls Tryz.prog 118 #[.int .i64 n] w fun e w' => e = .returned (.string (bst (ovrL n))) ∧ w' = w := by
  obtain ⟨r, hr⟩ : ∃ r, bst (ovrL n) = r := ⟨_, rfl⟩
  rw [hr]
  have HR := Lib.hid hr
  clear hr
  go_enter Tryz.func118, Tryz.ntmps118
  go_wp2
  all_goals try simp only [beq_iff_eq, beq_eq_false_iff_ne, ne_eq] at *
  all_goals first | contradiction | (go_ret; exact ⟨ret_str (by rw [← HR.out, ovrL]; simp [*, bst]), rfl⟩)
end Go.Proofs.YtlglfdhiopnglaaGreatDoor
end

section
namespace Go.Proofs.YtlglfdhiopnglaaGreatDoor
open Go.ChangeShapes Go.WideShapes Go.ChangeAt Go.RowKit
set_option linter.unusedVariables false
set_option linter.unusedSimpArgs false

abbrev FTab (w : World) : Prop := Lib.TabIs Tryz.prog w "internal/strconv.uint64pow10" .u64 Lib.pow10Tab
theorem FTab.up {W W' : World} (h : FTab W) (u : Up W W') : FTab W' := by
  unfold FTab Lib.TabIs World.var? at h ⊢
  cases hg : Tryz.prog.globalNamed "internal/strconv.uint64pow10" with
  | none => rw [hg] at h; cases h
  | some g =>
    rw [hg] at h
    simp only [Option.bind_some] at h ⊢
    have hb : g < W.heap.size := by
      rcases Nat.lt_or_ge g W.heap.size with h' | h'
      · exact h'
      · rw [Array.getElem?_eq_none h'] at h; cases h
    rw [u.heap g hb]; exact h
theorem up_grow {w x : World} (h : Up w x) (os : Array Obj) : Up w (Sort.grow x os) := by
  have hs := h.size
  refine ⟨h.os, h.tape, h.output, ?_, fun k hk => ?_⟩
  · show w.heap.size ≤ (x.heap ++ os).size
    rw [Array.size_append]; omega
  · show (x.heap ++ os)[k]? = _
    rw [Array.getElem?_append_left (by omega)]
    exact h.heap k hk
theorem s_Itoa (n : Int) (hn : R64 n) (w : World) (ht : FTab w) :
    Calls Tryz.prog 78 #[.int .i64 n] w fun e w' => e = .returned (.string (bst (Lib.itoa n))) ∧ Up w w' :=
  (Tryz.strconv_Itoa n hn.1 hn.2 w ht).mono fun e w' ⟨h1, n, os, h2⟩ => ⟨h1, by rw [h2]; exact up_grow (Up.drewN n (Up.refl w)) os⟩
theorem s_FormatInt (n : Int) (hn : R64 n) (w : World) (ht : FTab w) :
    Calls Tryz.prog 79 #[.int .i64 n, .int .i64 10] w fun e w' => e = .returned (.string (bst (Lib.itoa n))) ∧ Up w w' :=
  (Tryz.strconv_FormatInt_10 n hn.1 hn.2 w ht).mono fun e w' ⟨h1, n, os, h2⟩ => ⟨h1, by rw [h2]; exact up_grow (Up.drewN n (Up.refl w)) os⟩
end Go.Proofs.YtlglfdhiopnglaaGreatDoor
end

section
namespace Go.Proofs.YtlglfdhiopnglaaGreatDoor
open Go.ChangeShapes Go.WideShapes Go.ChangeAt Go.RowKit
set_option linter.unusedVariables false
set_option linter.unusedSimpArgs false
set_option maxRecDepth 100000

theorem bst_app (a b : List UInt8) : bst a ++ bst b = bst (a ++ b) := by
  unfold bst
  show ByteArray.append _ _ = _
  exact ByteArray.ext (by simp)
set_option maxHeartbeats 4000000 in
theorem isa_typeText (t : Typ) (hr : TyR t) (w : World) (ht : FTab w) : Calls Tryz.prog 82 #[typV t] w fun e w' => e = .returned (.string (bst (typL t))) ∧ Up w w' := by
  obtain ⟨k, b, f, r, o⟩ := t
  obtain ⟨T, hT⟩ : ∃ T, typL (k, b, f, r, o) = T := ⟨_, rfl⟩
  rw [hT]
  unfold typL at hT
  dsimp only at hT
  have hb : R64 b := hr 1
  have hf : R64 f := hr 2
  have lb := itoa_len hb
  have lf := itoa_len hf
  have lr := rndL_len r
  have lo := ovrL_len o
  have HB := Lib.hid (fun x (hx : Up w x) => s_Itoa b hb x (ht.up hx))
  have HF := Lib.hid (fun x (hx : Up w x) => s_Itoa f hf x (ht.up hx))
  generalize Lib.itoa b = bl at *
  generalize Lib.itoa f = fl at *
  have HRO := Lib.hid (fun x => calls_up (isa_rounding r x))
  have HOV := Lib.hid (fun x => calls_up (isa_overflow o x))
  generalize rndL r = rl at *
  generalize ovrL o = ol at *
  have HU : Hid (Up w (w.alloc (.cells #[.int .i64 k, .int .i64 b, .int .i64 f, .int .i64 r, .int .i64 o] 40))) := Lib.hid ((Up.refl w).alloc _)
  have B0 : Hid (BoxC (w.alloc (.cells #[.int .i64 k, .int .i64 b, .int .i64 f, .int .i64 r, .int .i64 o] 40)) w.heap.size 40 #[.int .i64 k, .int .i64 b, .int .i64 f, .int .i64 r, .int .i64 o]) := Lib.hid (BoxC.new w _ _)
  have HTT := Lib.hid hT
  clear hb hf hr ht hT
  by_cases h1 : k = 1
  · have HE : Hid (T = [102, 114, 97, 99]) := Lib.hid (by rw [← HTT.out, if_pos h1])
    subst h1
    clear HTT
    go_enter Tryz.func82, Tryz.ntmps82
    go_wp2
    go_ret
    exact ⟨ret_str (by rw [HE.out]; rfl), HU.out⟩
  by_cases h3 : k = 3
  · have HE : Hid (T = [105, 110, 116]) := Lib.hid (by rw [← HTT.out, if_neg h1, if_pos h3])
    subst h3
    clear HTT
    go_enter Tryz.func82, Tryz.ntmps82
    go_wp2
    go_ret
    exact ⟨ret_str (by rw [HE.out]; rfl), HU.out⟩
  have HE : Hid (fixL bl fl rl ol = T) := Lib.hid (by rw [← HTT.out, if_neg h1, if_neg h3])
  have h1b : (k == 1) = false := by simpa using h1
  have h3b : (k == 3) = false := by simpa using h3
  clear HTT h1 h3
  have k1 := cat (A := ⟨#[102, 105, 120, 32]⟩) (B := bst bl) (a := [102, 105, 120, 32]) rfl rfl rfl (by decide) (by omega)
  obtain ⟨s1, hs1⟩ : ∃ s, [102, 105, 120, 32] ++ bl = s := ⟨_, rfl⟩
  have l1 : s1.length ≤ 100 := by rw [← hs1]; simp; omega
  have k2 := cat (A := bst s1) (B := ⟨#[32]⟩) (b := [32]) rfl rfl rfl (by omega) (by decide)
  obtain ⟨s2, hs2⟩ : ∃ s, s1 ++ [32] = s := ⟨_, rfl⟩
  have l2 : s2.length ≤ 101 := by rw [← hs2]; simp; omega
  have k3 := cat (A := bst s2) (B := bst fl) rfl rfl rfl (by omega) (by omega)
  obtain ⟨s3, hs3⟩ : ∃ s, s2 ++ fl = s := ⟨_, rfl⟩
  have l3 : s3.length ≤ 200 := by rw [← hs3]; simp; omega
  have k4 := cat (A := bst s3) (B := ⟨#[32]⟩) (b := [32]) rfl rfl rfl (by omega) (by decide)
  obtain ⟨s4, hs4⟩ : ∃ s, s3 ++ [32] = s := ⟨_, rfl⟩
  have l4 : s4.length ≤ 201 := by rw [← hs4]; simp; omega
  have k5 := cat (A := bst s4) (B := bst rl) rfl rfl rfl (by omega) (by omega)
  obtain ⟨s5, hs5⟩ : ∃ s, s4 ++ rl = s := ⟨_, rfl⟩
  have l5 : s5.length ≤ 300 := by rw [← hs5]; simp; omega
  have k6 := cat (A := bst s5) (B := ⟨#[32]⟩) (b := [32]) rfl rfl rfl (by omega) (by decide)
  obtain ⟨s6, hs6⟩ : ∃ s, s5 ++ [32] = s := ⟨_, rfl⟩
  have l6 : s6.length ≤ 301 := by rw [← hs6]; simp; omega
  have k7 := cat (A := bst s6) (B := bst ol) rfl rfl rfl (by omega) (by omega)
  have HS : Hid (s6 ++ ol = T) := Lib.hid (by rw [← HE.out, ← hs6, ← hs5, ← hs4, ← hs3, ← hs2, ← hs1]; rfl)
  rw [hs1] at k1
  rw [hs2] at k2
  rw [hs3] at k3
  rw [hs4] at k4
  rw [hs5] at k5
  rw [hs6] at k6
  rw [HS.out] at k7
  clear hs1 hs2 hs3 hs4 hs5 hs6 l1 l2 l3 l4 l5 l6 lb lf lr lo HE
  go_enter Tryz.func82, Tryz.ntmps82
  go_wp2
  generalize w.alloc (.cells #[.int .i64 k, .int .i64 b, .int .i64 f, .int .i64 r, .int .i64 o] 40) = y at *
  obtain ⟨c0, c1, c2, c3, c4⟩ := B0.out.five
  have hs0 := B0.out.lt
  refine wp_region_ext (by kernel_rfl) (by kernel_rfl) ?_
  repeat (go_big_quiet_step (first | (with_reducible exact Calls.ext_of (HB.out _ (HU.out.trans (Ext.up _)))) | (with_reducible exact Calls.ext_of (HF.out _ (HU.out.trans (Ext.up _)))) | exact Calls.ext_of (HRO.out _) | exact Calls.ext_of (HOV.out _)))
  refine wpQuiet_nil ?_
  intro x hx
  go_wp2
  go_ret
  exact ⟨rfl, HU.out.trans hx⟩
end Go.Proofs.YtlglfdhiopnglaaGreatDoor
end
