/-
  Format of linear forms, the program's side: FormatUint of small numbers, the term's closure.
-/
import Derived.Test.YtpclbgaaoednnaaDoorCoB
import Derived.Test.YtpclbgaaoednnaaDoorLinW
import Derived.Test.YtpclbgaaoednnaaDoorLinE
namespace Go.Proofs.YtpclbgaaoednnaaDoor
open Go.ChangeShapes Go.WideShapes Go.ChangeAt Go.RowKit
set_option linter.unusedVariables false
set_option linter.unusedSimpArgs false
set_option maxRecDepth 100000

def dec (n : Int) : List UInt8 := Lib.decDigits n.toNat
def signT (bs : List UInt8) (neg : Bool) : List UInt8 := if bs = [] then (if neg then [45] else []) else (if neg then [32, 45, 32] else [32, 43, 32])
def numT (m : Int) (nm : List UInt8) : List UInt8 := if nm = [] then dec m else if m = 1 then [] else dec m ++ [42]
def termT (bs : List UInt8) (y : Int) (nm : List UInt8) : List UInt8 := bs ++ signT bs (decide (y < 0)) ++ numT (mag y) nm ++ nm

theorem Bld.up {B b : Nat} {bs : List Value} {w w' : World} (h : Bld B b bs w) (u : Up w w') : Bld B b bs w' := by
  have key : ∀ p, Lib.BuilderAt 40 5 B b p bs w → Lib.BuilderAt 40 5 B b p bs w' := fun p ⟨h1, v, h2, h3, h4⟩ =>
    ⟨h1, v, (u.heap b (Array.getElem?_eq_some_iff.1 h2).1).trans h2, own_up h3 u, h4⟩
  rcases h with h | h
  · exact .inl (key _ h)
  · exact .inr (key _ h)
theorem Bld.new (w : World) : Bld w.heap.size w.heap.size [] (w.alloc (.cells #[.pointer none, .slice none 0 0] 40)) :=
  .inl ⟨Nat.le_refl _, .slice none 0 0, heap_alloc_new w _, World.ownsRow_nil _ _ _ _, by simp [Value.ownBlock]⟩

theorem fu_small (n : Nat) (h : n < 100) (w : World) :
    Calls Tryd.prog 19 #[.int .u64 (n : Int), .int .i64 10] w fun e w' => e = .returned (.string ⟨(dec (n : Int)).toArray⟩) ∧ w' = w := by
  have hI : (n : Int) < 100 := by omega
  have h0 : (0 : Int) ≤ n := by omega
  have hin : Calls Tryd.prog 32 #[.int .u64 (n : Int), .int .i64 10] w fun e w' => e = .returned (.string ⟨(dec (n : Int)).toArray⟩) ∧ w' = w := by
    obtain ⟨t, ht⟩ : ∃ t, dec (n : Int) = t := ⟨_, rfl⟩
    have HS : Hid (∀ w, Calls Tryd.prog 36 #[.int .i64 (n : Int)] w fun e w' => e = .returned (.string ⟨t.toArray⟩) ∧ w' = w) := Lib.hid fun w => by
      rw [← ht]; exact Tryd.internal_strconv_small n h w
    rw [ht]
    clear ht
    go_enter Tryd.func32, Tryd.ntmps32
    go_wp2_with fail
    refine (HS.out _).mono ?_
    rintro e w' ⟨rfl, hw⟩
    replace hw := hw.symm
    subst hw
    go_wp2
    go_ret
    exact ⟨rfl, rfl⟩
  obtain ⟨t, ht⟩ : ∃ t, dec (n : Int) = t := ⟨_, rfl⟩
  rw [ht] at hin ⊢
  have HS := Lib.hid hin
  clear ht hin
  go_enter Tryd.func19, Tryd.ntmps19
  go_wp2_with fail
  refine HS.out.mono ?_
  rintro e w' ⟨rfl, hw⟩
  replace hw := hw.symm
  subst hw
  go_wp2
  go_ret
  exact ⟨rfl, rfl⟩
theorem byteCells_append (a c : List UInt8) : Lib.byteCells (a ++ c) = Lib.byteCells a ++ Lib.byteCells c := by simp [Lib.byteCells]
theorem dec_ne {n : Int} {D : List UInt8} (h : dec n = D) : D ≠ [] := by
  rw [← h]
  unfold dec
  rw [Lib.decDigits]
  split <;> simp
theorem str_empty {s : ByteArray} (h : s.data.toList = []) : s = ⟨#[]⟩ := by
  obtain ⟨d⟩ := s
  have : d = #[] := by
    obtain ⟨l⟩ := d
    have h' : l = [] := h
    rw [h']
  rw [this]
theorem str_beq {s : ByteArray} (h : ¬ s.data.toList = []) : s.toList.isEmpty = false := by
  have e : s.toList = s.data.toList := ByteArray.toList_eq s
  rw [e]
  cases hh : s.data.toList with
  | nil => exact absurd hh h
  | cons _ _ => rfl

set_option maxHeartbeats 4000000 in
theorem fmt_term (B b : Nat) (bs : List UInt8) (y : Int) (s : ByteArray) (w : World) (hy : In64 y) (hb : Bld B b (Lib.byteCells bs) w) (hBw : B ≤ w.heap.size) (hlen : bs.length + s.size ≤ 100000000) (hdl : (dec (mag y)).length ≤ 100)
    (hfu : numT (mag y) s.data.toList ≠ [] → ∀ x, Below B w x → Calls Tryd.prog 19 #[.int .u64 (mag y), .int .i64 10] x fun e x' => e = .returned (.string ⟨(dec (mag y)).toArray⟩) ∧ Up x x') :
    Calls Tryd.prog 15 #[.int .i64 y, .string s, .pointer (some ⟨b, 0, none⟩)] w fun e w' => e = .returned (.tuple #[]) ∧ Bld B b (Lib.byteCells (termT bs y s.data.toList)) w' ∧ Below B w w' := by
  obtain ⟨T, hT⟩ : ∃ T, termT bs y s.data.toList = T := ⟨_, rfl⟩
  rw [hT]
  obtain ⟨m0, m1, m2⟩ := mag_range y hy
  obtain ⟨m, hm⟩ : ∃ m, mag y = m := ⟨_, rfl⟩
  obtain ⟨D, hD⟩ : ∃ D, dec m = D := ⟨_, rfl⟩
  have HMG : Hid (∀ w, Calls Tryd.prog 18 #[.int .i64 y] w fun e w' => e = .returned (.int .u64 m) ∧ w' = w) := Lib.hid (hm ▸ lin_magnitude y hy.1 hy.2)
  have HT : Hid (bs ++ signT bs (decide (y < 0)) ++ numT m s.data.toList ++ s.data.toList = T) := Lib.hid (by rw [← hT, ← hm]; rfl)
  rw [hm] at m0 m1 m2 hfu hdl
  rw [hD] at hfu hdl
  have HFU := Lib.hid hfu
  have HX := Lib.hid hb
  have HBW := Lib.hid hBw
  have HDD := Lib.hid hD
  have HDL := Lib.hid hdl
  have HLEN := Lib.hid hlen
  have HSS : Hid (s.data.toList.length = s.size) := Lib.hid (by rw [Array.length_toList]; rfl)
  obtain ⟨y0, y1⟩ := hy
  have HBL := Lib.hid (Below.refl B w)
  clear hT hm hD hfu hb hBw hdl hlen
  by_cases hbe : bs = []
  · obtain rfl := hbe
    have HL : Hid (∀ x, Bld B b (Lib.byteCells []) x → Calls Tryd.prog 16 #[.pointer (some ⟨b, 0, none⟩)] x fun e w' => e = .returned (.int .i64 0) ∧ w' = x) := Lib.hid fun x hx => Tryd.Builder_Len B b _ x hx
    go_enter Tryd.func15, Tryd.ntmps15
    by_cases hy : y < 0
    · skip
      have HTX : Hid ([45] ++ numT m s.data.toList ++ s.data.toList = T) := Lib.hid (by rw [← HT.out]; unfold signT; simp [hy])
      go_wp2_with fail
      refine (HL.out _ HX.out).mono ?_
      rintro e x ⟨rfl, hx⟩
      replace hx := hx.symm
      subst hx
      go_wp2_with fail
      refine (bld_WriteString B b (Lib.byteCells ([])) ⟨#[45]⟩ _ HX.out (by rw [Lib.byteCells_length]; have := HLEN.out; have := HDL.out; have := HSS.out; simp only [List.length_append, List.length_cons, List.length_nil, ByteArray.size, List.size_toArray, Array.size] at *; omega) (by have := HBL.out.size; have := HBW.out; omega)).mono ?_
      rintro e x ⟨rfl, hxb, hxl⟩
      replace HX : Hid (Bld B b (Lib.byteCells ([45])) x) := Lib.hid (by
        have h1 := hxb
        rw [Lib.strCells_eq, ← byteCells_append] at h1
        exact h1)
      replace HBL := Lib.hid (HBL.out.trans hxl)
      clear hxb hxl
      have HT2 := Lib.hid (HT.out)
      replace HT2 : Hid ([45] ++ numT m s.data.toList ++ s.data.toList = T) := HTX
      go_wp2_with fail
      refine (HMG.out _).mono ?_
      rintro e x ⟨rfl, hx⟩
      replace hx := hx.symm
      subst hx
      by_cases hs : s.data.toList = []
      · have hnn : numT m s.data.toList ≠ [] := by unfold numT; rw [if_pos hs, HDD.out]; exact dec_ne HDD.out
        have hse := str_empty hs
        have HSE := Lib.hid hs
        obtain rfl := hse
        clear hs
        have hnn2 : Hid True := Lib.hid trivial
        go_wp2_with fail
        refine (HFU.out hnn _ HBL.out).mono ?_
        rintro e x ⟨rfl, hx⟩
        replace HX := Lib.hid (HX.out.up hx)
        replace HBL := Lib.hid (HBL.out.trans (Below.mono hx (by have := HBL.out.size; have := HBW.out; omega)))
        clear hx
        go_wp2_with fail
        refine (bld_WriteString B b (Lib.byteCells ([45])) ⟨D.toArray⟩ _ HX.out (by rw [Lib.byteCells_length]; have := HLEN.out; have := HDL.out; have := HSS.out; simp only [List.length_append, List.length_cons, List.length_nil, ByteArray.size, List.size_toArray, Array.size] at *; omega) (by have := HBL.out.size; have := HBW.out; omega)).mono ?_
        rintro e x ⟨rfl, hxb, hxl⟩
        replace HX : Hid (Bld B b (Lib.byteCells ([45] ++ D)) x) := Lib.hid (by
          have h1 := hxb
          rw [Lib.strCells_eq, ← byteCells_append] at h1
          exact h1)
        replace HBL := Lib.hid (HBL.out.trans hxl)
        clear hxb hxl
        go_wp2_with fail
        refine (bld_WriteString B b (Lib.byteCells ([45] ++ D)) ⟨#[]⟩ _ HX.out (by rw [Lib.byteCells_length]; have := HLEN.out; have := HDL.out; have := HSS.out; simp only [List.length_append, List.length_cons, List.length_nil, ByteArray.size, List.size_toArray, Array.size] at *; omega) (by have := HBL.out.size; have := HBW.out; omega)).mono ?_
        rintro e x ⟨rfl, hxb, hxl⟩
        replace HX : Hid (Bld B b (Lib.byteCells ([45] ++ D ++ [])) x) := Lib.hid (by
          have h1 := hxb
          rw [Lib.strCells_eq, ← byteCells_append] at h1
          exact h1)
        replace HBL := Lib.hid (HBL.out.trans hxl)
        clear hxb hxl
        go_wp2
        go_end0
        have hfin : [45] ++ D ++ [] = T := by rw [← HT2.out]; unfold numT; simp [HDD.out, *]
        rw [← hfin]
        exact ⟨rfl, HX.out, HBL.out⟩
      have hs1 := str_beq hs
      by_cases hm1 : m = 1
      · have HM1 := Lib.hid hm1
        obtain rfl := hm1
        go_wp2_with fail
        refine (bld_WriteString B b (Lib.byteCells ([45])) s _ HX.out (by rw [Lib.byteCells_length]; have := HLEN.out; have := HDL.out; have := HSS.out; simp only [List.length_append, List.length_cons, List.length_nil, ByteArray.size, List.size_toArray, Array.size] at *; omega) (by have := HBL.out.size; have := HBW.out; omega)).mono ?_
        rintro e x ⟨rfl, hxb, hxl⟩
        replace HX : Hid (Bld B b (Lib.byteCells ([45] ++ s.data.toList)) x) := Lib.hid (by
          have h1 := hxb
          rw [Lib.strCells_eq, ← byteCells_append] at h1
          exact h1)
        replace HBL := Lib.hid (HBL.out.trans hxl)
        clear hxb hxl
        go_wp2
        go_end0
        have hfin : [45] ++ s.data.toList = T := by rw [← HT2.out]; unfold numT; simp [*]
        rw [← hfin]
        exact ⟨rfl, HX.out, HBL.out⟩
      have hm1' : (m == 1) = false := by simpa using hm1
      have hnn : numT m s.data.toList ≠ [] := by unfold numT; rw [if_neg hs, if_neg hm1]; simp
      go_wp2_with fail
      refine (HFU.out hnn _ HBL.out).mono ?_
      rintro e x ⟨rfl, hx⟩
      replace HX := Lib.hid (HX.out.up hx)
      replace HBL := Lib.hid (HBL.out.trans (Below.mono hx (by have := HBL.out.size; have := HBW.out; omega)))
      clear hx
      go_wp2_with fail
      refine (bld_WriteString B b (Lib.byteCells ([45])) ⟨D.toArray⟩ _ HX.out (by rw [Lib.byteCells_length]; have := HLEN.out; have := HDL.out; have := HSS.out; simp only [List.length_append, List.length_cons, List.length_nil, ByteArray.size, List.size_toArray, Array.size] at *; omega) (by have := HBL.out.size; have := HBW.out; omega)).mono ?_
      rintro e x ⟨rfl, hxb, hxl⟩
      replace HX : Hid (Bld B b (Lib.byteCells ([45] ++ D)) x) := Lib.hid (by
        have h1 := hxb
        rw [Lib.strCells_eq, ← byteCells_append] at h1
        exact h1)
      replace HBL := Lib.hid (HBL.out.trans hxl)
      clear hxb hxl
      go_wp2_with fail
      refine (bld_WriteString B b (Lib.byteCells ([45] ++ D)) ⟨#[42]⟩ _ HX.out (by rw [Lib.byteCells_length]; have := HLEN.out; have := HDL.out; have := HSS.out; simp only [List.length_append, List.length_cons, List.length_nil, ByteArray.size, List.size_toArray, Array.size] at *; omega) (by have := HBL.out.size; have := HBW.out; omega)).mono ?_
      rintro e x ⟨rfl, hxb, hxl⟩
      replace HX : Hid (Bld B b (Lib.byteCells ([45] ++ D ++ [42])) x) := Lib.hid (by
        have h1 := hxb
        rw [Lib.strCells_eq, ← byteCells_append] at h1
        exact h1)
      replace HBL := Lib.hid (HBL.out.trans hxl)
      clear hxb hxl
      go_wp2_with fail
      refine (bld_WriteString B b (Lib.byteCells ([45] ++ D ++ [42])) s _ HX.out (by rw [Lib.byteCells_length]; have := HLEN.out; have := HDL.out; have := HSS.out; simp only [List.length_append, List.length_cons, List.length_nil, ByteArray.size, List.size_toArray, Array.size] at *; omega) (by have := HBL.out.size; have := HBW.out; omega)).mono ?_
      rintro e x ⟨rfl, hxb, hxl⟩
      replace HX : Hid (Bld B b (Lib.byteCells ([45] ++ D ++ [42] ++ s.data.toList)) x) := Lib.hid (by
        have h1 := hxb
        rw [Lib.strCells_eq, ← byteCells_append] at h1
        exact h1)
      replace HBL := Lib.hid (HBL.out.trans hxl)
      clear hxb hxl
      go_wp2
      go_end0
      have hfin : [45] ++ D ++ [42] ++ s.data.toList = T := by rw [← HT2.out]; unfold numT; simp [HDD.out, *]
      rw [← hfin]
      exact ⟨rfl, HX.out, HBL.out⟩
    · skip
      have HTX : Hid ([] ++ numT m s.data.toList ++ s.data.toList = T) := Lib.hid (by rw [← HT.out]; unfold signT; simp [hy])
      go_wp2_with fail
      refine (HL.out _ HX.out).mono ?_
      rintro e x ⟨rfl, hx⟩
      replace hx := hx.symm
      subst hx
      go_wp2_with fail
      refine (HL.out _ HX.out).mono ?_
      rintro e x ⟨rfl, hx⟩
      replace hx := hx.symm
      subst hx
      go_wp2_with fail
      refine (HL.out _ HX.out).mono ?_
      rintro e x ⟨rfl, hx⟩
      replace hx := hx.symm
      subst hx
      have HT2 := Lib.hid (HT.out)
      replace HT2 : Hid ([] ++ numT m s.data.toList ++ s.data.toList = T) := HTX
      go_wp2_with fail
      refine (HMG.out _).mono ?_
      rintro e x ⟨rfl, hx⟩
      replace hx := hx.symm
      subst hx
      by_cases hs : s.data.toList = []
      · have hnn : numT m s.data.toList ≠ [] := by unfold numT; rw [if_pos hs, HDD.out]; exact dec_ne HDD.out
        have hse := str_empty hs
        have HSE := Lib.hid hs
        obtain rfl := hse
        clear hs
        have hnn2 : Hid True := Lib.hid trivial
        go_wp2_with fail
        refine (HFU.out hnn _ HBL.out).mono ?_
        rintro e x ⟨rfl, hx⟩
        replace HX := Lib.hid (HX.out.up hx)
        replace HBL := Lib.hid (HBL.out.trans (Below.mono hx (by have := HBL.out.size; have := HBW.out; omega)))
        clear hx
        go_wp2_with fail
        refine (bld_WriteString B b (Lib.byteCells ([])) ⟨D.toArray⟩ _ HX.out (by rw [Lib.byteCells_length]; have := HLEN.out; have := HDL.out; have := HSS.out; simp only [List.length_append, List.length_cons, List.length_nil, ByteArray.size, List.size_toArray, Array.size] at *; omega) (by have := HBL.out.size; have := HBW.out; omega)).mono ?_
        rintro e x ⟨rfl, hxb, hxl⟩
        replace HX : Hid (Bld B b (Lib.byteCells ([] ++ D)) x) := Lib.hid (by
          have h1 := hxb
          rw [Lib.strCells_eq, ← byteCells_append] at h1
          exact h1)
        replace HBL := Lib.hid (HBL.out.trans hxl)
        clear hxb hxl
        go_wp2_with fail
        refine (bld_WriteString B b (Lib.byteCells ([] ++ D)) ⟨#[]⟩ _ HX.out (by rw [Lib.byteCells_length]; have := HLEN.out; have := HDL.out; have := HSS.out; simp only [List.length_append, List.length_cons, List.length_nil, ByteArray.size, List.size_toArray, Array.size] at *; omega) (by have := HBL.out.size; have := HBW.out; omega)).mono ?_
        rintro e x ⟨rfl, hxb, hxl⟩
        replace HX : Hid (Bld B b (Lib.byteCells ([] ++ D ++ [])) x) := Lib.hid (by
          have h1 := hxb
          rw [Lib.strCells_eq, ← byteCells_append] at h1
          exact h1)
        replace HBL := Lib.hid (HBL.out.trans hxl)
        clear hxb hxl
        go_wp2
        go_end0
        have hfin : [] ++ D ++ [] = T := by rw [← HT2.out]; unfold numT; simp [HDD.out, *]
        rw [← hfin]
        exact ⟨rfl, HX.out, HBL.out⟩
      have hs1 := str_beq hs
      by_cases hm1 : m = 1
      · have HM1 := Lib.hid hm1
        obtain rfl := hm1
        go_wp2_with fail
        refine (bld_WriteString B b (Lib.byteCells ([])) s _ HX.out (by rw [Lib.byteCells_length]; have := HLEN.out; have := HDL.out; have := HSS.out; simp only [List.length_append, List.length_cons, List.length_nil, ByteArray.size, List.size_toArray, Array.size] at *; omega) (by have := HBL.out.size; have := HBW.out; omega)).mono ?_
        rintro e x ⟨rfl, hxb, hxl⟩
        replace HX : Hid (Bld B b (Lib.byteCells ([] ++ s.data.toList)) x) := Lib.hid (by
          have h1 := hxb
          rw [Lib.strCells_eq, ← byteCells_append] at h1
          exact h1)
        replace HBL := Lib.hid (HBL.out.trans hxl)
        clear hxb hxl
        go_wp2
        go_end0
        have hfin : [] ++ s.data.toList = T := by rw [← HT2.out]; unfold numT; simp [*]
        rw [← hfin]
        exact ⟨rfl, HX.out, HBL.out⟩
      have hm1' : (m == 1) = false := by simpa using hm1
      have hnn : numT m s.data.toList ≠ [] := by unfold numT; rw [if_neg hs, if_neg hm1]; simp
      go_wp2_with fail
      refine (HFU.out hnn _ HBL.out).mono ?_
      rintro e x ⟨rfl, hx⟩
      replace HX := Lib.hid (HX.out.up hx)
      replace HBL := Lib.hid (HBL.out.trans (Below.mono hx (by have := HBL.out.size; have := HBW.out; omega)))
      clear hx
      go_wp2_with fail
      refine (bld_WriteString B b (Lib.byteCells ([])) ⟨D.toArray⟩ _ HX.out (by rw [Lib.byteCells_length]; have := HLEN.out; have := HDL.out; have := HSS.out; simp only [List.length_append, List.length_cons, List.length_nil, ByteArray.size, List.size_toArray, Array.size] at *; omega) (by have := HBL.out.size; have := HBW.out; omega)).mono ?_
      rintro e x ⟨rfl, hxb, hxl⟩
      replace HX : Hid (Bld B b (Lib.byteCells ([] ++ D)) x) := Lib.hid (by
        have h1 := hxb
        rw [Lib.strCells_eq, ← byteCells_append] at h1
        exact h1)
      replace HBL := Lib.hid (HBL.out.trans hxl)
      clear hxb hxl
      go_wp2_with fail
      refine (bld_WriteString B b (Lib.byteCells ([] ++ D)) ⟨#[42]⟩ _ HX.out (by rw [Lib.byteCells_length]; have := HLEN.out; have := HDL.out; have := HSS.out; simp only [List.length_append, List.length_cons, List.length_nil, ByteArray.size, List.size_toArray, Array.size] at *; omega) (by have := HBL.out.size; have := HBW.out; omega)).mono ?_
      rintro e x ⟨rfl, hxb, hxl⟩
      replace HX : Hid (Bld B b (Lib.byteCells ([] ++ D ++ [42])) x) := Lib.hid (by
        have h1 := hxb
        rw [Lib.strCells_eq, ← byteCells_append] at h1
        exact h1)
      replace HBL := Lib.hid (HBL.out.trans hxl)
      clear hxb hxl
      go_wp2_with fail
      refine (bld_WriteString B b (Lib.byteCells ([] ++ D ++ [42])) s _ HX.out (by rw [Lib.byteCells_length]; have := HLEN.out; have := HDL.out; have := HSS.out; simp only [List.length_append, List.length_cons, List.length_nil, ByteArray.size, List.size_toArray, Array.size] at *; omega) (by have := HBL.out.size; have := HBW.out; omega)).mono ?_
      rintro e x ⟨rfl, hxb, hxl⟩
      replace HX : Hid (Bld B b (Lib.byteCells ([] ++ D ++ [42] ++ s.data.toList)) x) := Lib.hid (by
        have h1 := hxb
        rw [Lib.strCells_eq, ← byteCells_append] at h1
        exact h1)
      replace HBL := Lib.hid (HBL.out.trans hxl)
      clear hxb hxl
      go_wp2
      go_end0
      have hfin : [] ++ D ++ [42] ++ s.data.toList = T := by rw [← HT2.out]; unfold numT; simp [HDD.out, *]
      rw [← hfin]
      exact ⟨rfl, HX.out, HBL.out⟩
  have hbl : 0 < bs.length := by rcases bs with _ | ⟨c, r⟩ <;> simp at hbe ⊢
  obtain ⟨L, hL⟩ : ∃ L, bs.length = L := ⟨_, rfl⟩
  have HL : Hid (∀ x, Bld B b (Lib.byteCells bs) x → Calls Tryd.prog 16 #[.pointer (some ⟨b, 0, none⟩)] x fun e w' => e = .returned (.int .i64 (L : Int)) ∧ w' = x) := Lib.hid fun x hx => by
    have := Tryd.Builder_Len B b _ x hx
    rw [Lib.byteCells_length, hL] at this; exact this
  rw [hL] at hbl
  have HLL := Lib.hid hL
  clear hL
  have hl0 : ((L : Int) == 0) = false := by simp; omega
  have hl1 : (0 : Int) < (L : Int) := by omega
  go_enter Tryd.func15, Tryd.ntmps15
  by_cases hy : y < 0
  · skip
    have HTX : Hid (bs ++ [32, 45, 32] ++ numT m s.data.toList ++ s.data.toList = T) := Lib.hid (by rw [← HT.out]; unfold signT; simp [hbe, hy])
    go_wp2_with fail
    refine (HL.out _ HX.out).mono ?_
    rintro e x ⟨rfl, hx⟩
    replace hx := hx.symm
    subst hx
    go_wp2_with fail
    refine (HL.out _ HX.out).mono ?_
    rintro e x ⟨rfl, hx⟩
    replace hx := hx.symm
    subst hx
    go_wp2_with fail
    refine (bld_WriteString B b (Lib.byteCells (bs)) ⟨#[32, 45, 32]⟩ _ HX.out (by rw [Lib.byteCells_length]; have := HLEN.out; have := HDL.out; have := HSS.out; simp only [List.length_append, List.length_cons, List.length_nil, ByteArray.size, List.size_toArray, Array.size] at *; omega) (by have := HBL.out.size; have := HBW.out; omega)).mono ?_
    rintro e x ⟨rfl, hxb, hxl⟩
    replace HX : Hid (Bld B b (Lib.byteCells (bs ++ [32, 45, 32])) x) := Lib.hid (by
      have h1 := hxb
      rw [Lib.strCells_eq, ← byteCells_append] at h1
      exact h1)
    replace HBL := Lib.hid (HBL.out.trans hxl)
    clear hxb hxl
    have HT2 := Lib.hid (HT.out)
    replace HT2 : Hid (bs ++ [32, 45, 32] ++ numT m s.data.toList ++ s.data.toList = T) := HTX
    go_wp2_with fail
    refine (HMG.out _).mono ?_
    rintro e x ⟨rfl, hx⟩
    replace hx := hx.symm
    subst hx
    by_cases hs : s.data.toList = []
    · have hnn : numT m s.data.toList ≠ [] := by unfold numT; rw [if_pos hs, HDD.out]; exact dec_ne HDD.out
      have hse := str_empty hs
      have HSE := Lib.hid hs
      obtain rfl := hse
      clear hs
      have hnn2 : Hid True := Lib.hid trivial
      go_wp2_with fail
      refine (HFU.out hnn _ HBL.out).mono ?_
      rintro e x ⟨rfl, hx⟩
      replace HX := Lib.hid (HX.out.up hx)
      replace HBL := Lib.hid (HBL.out.trans (Below.mono hx (by have := HBL.out.size; have := HBW.out; omega)))
      clear hx
      go_wp2_with fail
      refine (bld_WriteString B b (Lib.byteCells (bs ++ [32, 45, 32])) ⟨D.toArray⟩ _ HX.out (by rw [Lib.byteCells_length]; have := HLEN.out; have := HDL.out; have := HSS.out; simp only [List.length_append, List.length_cons, List.length_nil, ByteArray.size, List.size_toArray, Array.size] at *; omega) (by have := HBL.out.size; have := HBW.out; omega)).mono ?_
      rintro e x ⟨rfl, hxb, hxl⟩
      replace HX : Hid (Bld B b (Lib.byteCells (bs ++ [32, 45, 32] ++ D)) x) := Lib.hid (by
        have h1 := hxb
        rw [Lib.strCells_eq, ← byteCells_append] at h1
        exact h1)
      replace HBL := Lib.hid (HBL.out.trans hxl)
      clear hxb hxl
      go_wp2_with fail
      refine (bld_WriteString B b (Lib.byteCells (bs ++ [32, 45, 32] ++ D)) ⟨#[]⟩ _ HX.out (by rw [Lib.byteCells_length]; have := HLEN.out; have := HDL.out; have := HSS.out; simp only [List.length_append, List.length_cons, List.length_nil, ByteArray.size, List.size_toArray, Array.size] at *; omega) (by have := HBL.out.size; have := HBW.out; omega)).mono ?_
      rintro e x ⟨rfl, hxb, hxl⟩
      replace HX : Hid (Bld B b (Lib.byteCells (bs ++ [32, 45, 32] ++ D ++ [])) x) := Lib.hid (by
        have h1 := hxb
        rw [Lib.strCells_eq, ← byteCells_append] at h1
        exact h1)
      replace HBL := Lib.hid (HBL.out.trans hxl)
      clear hxb hxl
      go_wp2
      go_end0
      have hfin : bs ++ [32, 45, 32] ++ D ++ [] = T := by rw [← HT2.out]; unfold numT; simp [HDD.out, *]
      rw [← hfin]
      exact ⟨rfl, HX.out, HBL.out⟩
    have hs1 := str_beq hs
    by_cases hm1 : m = 1
    · have HM1 := Lib.hid hm1
      obtain rfl := hm1
      go_wp2_with fail
      refine (bld_WriteString B b (Lib.byteCells (bs ++ [32, 45, 32])) s _ HX.out (by rw [Lib.byteCells_length]; have := HLEN.out; have := HDL.out; have := HSS.out; simp only [List.length_append, List.length_cons, List.length_nil, ByteArray.size, List.size_toArray, Array.size] at *; omega) (by have := HBL.out.size; have := HBW.out; omega)).mono ?_
      rintro e x ⟨rfl, hxb, hxl⟩
      replace HX : Hid (Bld B b (Lib.byteCells (bs ++ [32, 45, 32] ++ s.data.toList)) x) := Lib.hid (by
        have h1 := hxb
        rw [Lib.strCells_eq, ← byteCells_append] at h1
        exact h1)
      replace HBL := Lib.hid (HBL.out.trans hxl)
      clear hxb hxl
      go_wp2
      go_end0
      have hfin : bs ++ [32, 45, 32] ++ s.data.toList = T := by rw [← HT2.out]; unfold numT; simp [*]
      rw [← hfin]
      exact ⟨rfl, HX.out, HBL.out⟩
    have hm1' : (m == 1) = false := by simpa using hm1
    have hnn : numT m s.data.toList ≠ [] := by unfold numT; rw [if_neg hs, if_neg hm1]; simp
    go_wp2_with fail
    refine (HFU.out hnn _ HBL.out).mono ?_
    rintro e x ⟨rfl, hx⟩
    replace HX := Lib.hid (HX.out.up hx)
    replace HBL := Lib.hid (HBL.out.trans (Below.mono hx (by have := HBL.out.size; have := HBW.out; omega)))
    clear hx
    go_wp2_with fail
    refine (bld_WriteString B b (Lib.byteCells (bs ++ [32, 45, 32])) ⟨D.toArray⟩ _ HX.out (by rw [Lib.byteCells_length]; have := HLEN.out; have := HDL.out; have := HSS.out; simp only [List.length_append, List.length_cons, List.length_nil, ByteArray.size, List.size_toArray, Array.size] at *; omega) (by have := HBL.out.size; have := HBW.out; omega)).mono ?_
    rintro e x ⟨rfl, hxb, hxl⟩
    replace HX : Hid (Bld B b (Lib.byteCells (bs ++ [32, 45, 32] ++ D)) x) := Lib.hid (by
      have h1 := hxb
      rw [Lib.strCells_eq, ← byteCells_append] at h1
      exact h1)
    replace HBL := Lib.hid (HBL.out.trans hxl)
    clear hxb hxl
    go_wp2_with fail
    refine (bld_WriteString B b (Lib.byteCells (bs ++ [32, 45, 32] ++ D)) ⟨#[42]⟩ _ HX.out (by rw [Lib.byteCells_length]; have := HLEN.out; have := HDL.out; have := HSS.out; simp only [List.length_append, List.length_cons, List.length_nil, ByteArray.size, List.size_toArray, Array.size] at *; omega) (by have := HBL.out.size; have := HBW.out; omega)).mono ?_
    rintro e x ⟨rfl, hxb, hxl⟩
    replace HX : Hid (Bld B b (Lib.byteCells (bs ++ [32, 45, 32] ++ D ++ [42])) x) := Lib.hid (by
      have h1 := hxb
      rw [Lib.strCells_eq, ← byteCells_append] at h1
      exact h1)
    replace HBL := Lib.hid (HBL.out.trans hxl)
    clear hxb hxl
    go_wp2_with fail
    refine (bld_WriteString B b (Lib.byteCells (bs ++ [32, 45, 32] ++ D ++ [42])) s _ HX.out (by rw [Lib.byteCells_length]; have := HLEN.out; have := HDL.out; have := HSS.out; simp only [List.length_append, List.length_cons, List.length_nil, ByteArray.size, List.size_toArray, Array.size] at *; omega) (by have := HBL.out.size; have := HBW.out; omega)).mono ?_
    rintro e x ⟨rfl, hxb, hxl⟩
    replace HX : Hid (Bld B b (Lib.byteCells (bs ++ [32, 45, 32] ++ D ++ [42] ++ s.data.toList)) x) := Lib.hid (by
      have h1 := hxb
      rw [Lib.strCells_eq, ← byteCells_append] at h1
      exact h1)
    replace HBL := Lib.hid (HBL.out.trans hxl)
    clear hxb hxl
    go_wp2
    go_end0
    have hfin : bs ++ [32, 45, 32] ++ D ++ [42] ++ s.data.toList = T := by rw [← HT2.out]; unfold numT; simp [HDD.out, *]
    rw [← hfin]
    exact ⟨rfl, HX.out, HBL.out⟩
  · skip
    have HTX : Hid (bs ++ [32, 43, 32] ++ numT m s.data.toList ++ s.data.toList = T) := Lib.hid (by rw [← HT.out]; unfold signT; simp [hbe, hy])
    go_wp2_with fail
    refine (HL.out _ HX.out).mono ?_
    rintro e x ⟨rfl, hx⟩
    replace hx := hx.symm
    subst hx
    go_wp2_with fail
    refine (HL.out _ HX.out).mono ?_
    rintro e x ⟨rfl, hx⟩
    replace hx := hx.symm
    subst hx
    go_wp2_with fail
    refine (HL.out _ HX.out).mono ?_
    rintro e x ⟨rfl, hx⟩
    replace hx := hx.symm
    subst hx
    go_wp2_with fail
    refine (bld_WriteString B b (Lib.byteCells (bs)) ⟨#[32, 43, 32]⟩ _ HX.out (by rw [Lib.byteCells_length]; have := HLEN.out; have := HDL.out; have := HSS.out; simp only [List.length_append, List.length_cons, List.length_nil, ByteArray.size, List.size_toArray, Array.size] at *; omega) (by have := HBL.out.size; have := HBW.out; omega)).mono ?_
    rintro e x ⟨rfl, hxb, hxl⟩
    replace HX : Hid (Bld B b (Lib.byteCells (bs ++ [32, 43, 32])) x) := Lib.hid (by
      have h1 := hxb
      rw [Lib.strCells_eq, ← byteCells_append] at h1
      exact h1)
    replace HBL := Lib.hid (HBL.out.trans hxl)
    clear hxb hxl
    have HT2 := Lib.hid (HT.out)
    replace HT2 : Hid (bs ++ [32, 43, 32] ++ numT m s.data.toList ++ s.data.toList = T) := HTX
    go_wp2_with fail
    refine (HMG.out _).mono ?_
    rintro e x ⟨rfl, hx⟩
    replace hx := hx.symm
    subst hx
    by_cases hs : s.data.toList = []
    · have hnn : numT m s.data.toList ≠ [] := by unfold numT; rw [if_pos hs, HDD.out]; exact dec_ne HDD.out
      have hse := str_empty hs
      have HSE := Lib.hid hs
      obtain rfl := hse
      clear hs
      have hnn2 : Hid True := Lib.hid trivial
      go_wp2_with fail
      refine (HFU.out hnn _ HBL.out).mono ?_
      rintro e x ⟨rfl, hx⟩
      replace HX := Lib.hid (HX.out.up hx)
      replace HBL := Lib.hid (HBL.out.trans (Below.mono hx (by have := HBL.out.size; have := HBW.out; omega)))
      clear hx
      go_wp2_with fail
      refine (bld_WriteString B b (Lib.byteCells (bs ++ [32, 43, 32])) ⟨D.toArray⟩ _ HX.out (by rw [Lib.byteCells_length]; have := HLEN.out; have := HDL.out; have := HSS.out; simp only [List.length_append, List.length_cons, List.length_nil, ByteArray.size, List.size_toArray, Array.size] at *; omega) (by have := HBL.out.size; have := HBW.out; omega)).mono ?_
      rintro e x ⟨rfl, hxb, hxl⟩
      replace HX : Hid (Bld B b (Lib.byteCells (bs ++ [32, 43, 32] ++ D)) x) := Lib.hid (by
        have h1 := hxb
        rw [Lib.strCells_eq, ← byteCells_append] at h1
        exact h1)
      replace HBL := Lib.hid (HBL.out.trans hxl)
      clear hxb hxl
      go_wp2_with fail
      refine (bld_WriteString B b (Lib.byteCells (bs ++ [32, 43, 32] ++ D)) ⟨#[]⟩ _ HX.out (by rw [Lib.byteCells_length]; have := HLEN.out; have := HDL.out; have := HSS.out; simp only [List.length_append, List.length_cons, List.length_nil, ByteArray.size, List.size_toArray, Array.size] at *; omega) (by have := HBL.out.size; have := HBW.out; omega)).mono ?_
      rintro e x ⟨rfl, hxb, hxl⟩
      replace HX : Hid (Bld B b (Lib.byteCells (bs ++ [32, 43, 32] ++ D ++ [])) x) := Lib.hid (by
        have h1 := hxb
        rw [Lib.strCells_eq, ← byteCells_append] at h1
        exact h1)
      replace HBL := Lib.hid (HBL.out.trans hxl)
      clear hxb hxl
      go_wp2
      go_end0
      have hfin : bs ++ [32, 43, 32] ++ D ++ [] = T := by rw [← HT2.out]; unfold numT; simp [HDD.out, *]
      rw [← hfin]
      exact ⟨rfl, HX.out, HBL.out⟩
    have hs1 := str_beq hs
    by_cases hm1 : m = 1
    · have HM1 := Lib.hid hm1
      obtain rfl := hm1
      go_wp2_with fail
      refine (bld_WriteString B b (Lib.byteCells (bs ++ [32, 43, 32])) s _ HX.out (by rw [Lib.byteCells_length]; have := HLEN.out; have := HDL.out; have := HSS.out; simp only [List.length_append, List.length_cons, List.length_nil, ByteArray.size, List.size_toArray, Array.size] at *; omega) (by have := HBL.out.size; have := HBW.out; omega)).mono ?_
      rintro e x ⟨rfl, hxb, hxl⟩
      replace HX : Hid (Bld B b (Lib.byteCells (bs ++ [32, 43, 32] ++ s.data.toList)) x) := Lib.hid (by
        have h1 := hxb
        rw [Lib.strCells_eq, ← byteCells_append] at h1
        exact h1)
      replace HBL := Lib.hid (HBL.out.trans hxl)
      clear hxb hxl
      go_wp2
      go_end0
      have hfin : bs ++ [32, 43, 32] ++ s.data.toList = T := by rw [← HT2.out]; unfold numT; simp [*]
      rw [← hfin]
      exact ⟨rfl, HX.out, HBL.out⟩
    have hm1' : (m == 1) = false := by simpa using hm1
    have hnn : numT m s.data.toList ≠ [] := by unfold numT; rw [if_neg hs, if_neg hm1]; simp
    go_wp2_with fail
    refine (HFU.out hnn _ HBL.out).mono ?_
    rintro e x ⟨rfl, hx⟩
    replace HX := Lib.hid (HX.out.up hx)
    replace HBL := Lib.hid (HBL.out.trans (Below.mono hx (by have := HBL.out.size; have := HBW.out; omega)))
    clear hx
    go_wp2_with fail
    refine (bld_WriteString B b (Lib.byteCells (bs ++ [32, 43, 32])) ⟨D.toArray⟩ _ HX.out (by rw [Lib.byteCells_length]; have := HLEN.out; have := HDL.out; have := HSS.out; simp only [List.length_append, List.length_cons, List.length_nil, ByteArray.size, List.size_toArray, Array.size] at *; omega) (by have := HBL.out.size; have := HBW.out; omega)).mono ?_
    rintro e x ⟨rfl, hxb, hxl⟩
    replace HX : Hid (Bld B b (Lib.byteCells (bs ++ [32, 43, 32] ++ D)) x) := Lib.hid (by
      have h1 := hxb
      rw [Lib.strCells_eq, ← byteCells_append] at h1
      exact h1)
    replace HBL := Lib.hid (HBL.out.trans hxl)
    clear hxb hxl
    go_wp2_with fail
    refine (bld_WriteString B b (Lib.byteCells (bs ++ [32, 43, 32] ++ D)) ⟨#[42]⟩ _ HX.out (by rw [Lib.byteCells_length]; have := HLEN.out; have := HDL.out; have := HSS.out; simp only [List.length_append, List.length_cons, List.length_nil, ByteArray.size, List.size_toArray, Array.size] at *; omega) (by have := HBL.out.size; have := HBW.out; omega)).mono ?_
    rintro e x ⟨rfl, hxb, hxl⟩
    replace HX : Hid (Bld B b (Lib.byteCells (bs ++ [32, 43, 32] ++ D ++ [42])) x) := Lib.hid (by
      have h1 := hxb
      rw [Lib.strCells_eq, ← byteCells_append] at h1
      exact h1)
    replace HBL := Lib.hid (HBL.out.trans hxl)
    clear hxb hxl
    go_wp2_with fail
    refine (bld_WriteString B b (Lib.byteCells (bs ++ [32, 43, 32] ++ D ++ [42])) s _ HX.out (by rw [Lib.byteCells_length]; have := HLEN.out; have := HDL.out; have := HSS.out; simp only [List.length_append, List.length_cons, List.length_nil, ByteArray.size, List.size_toArray, Array.size] at *; omega) (by have := HBL.out.size; have := HBW.out; omega)).mono ?_
    rintro e x ⟨rfl, hxb, hxl⟩
    replace HX : Hid (Bld B b (Lib.byteCells (bs ++ [32, 43, 32] ++ D ++ [42] ++ s.data.toList)) x) := Lib.hid (by
      have h1 := hxb
      rw [Lib.strCells_eq, ← byteCells_append] at h1
      exact h1)
    replace HBL := Lib.hid (HBL.out.trans hxl)
    clear hxb hxl
    go_wp2
    go_end0
    have hfin : bs ++ [32, 43, 32] ++ D ++ [42] ++ s.data.toList = T := by rw [← HT2.out]; unfold numT; simp [HDD.out, *]
    rw [← hfin]
    exact ⟨rfl, HX.out, HBL.out⟩
end Go.Proofs.YtpclbgaaoednnaaDoor

