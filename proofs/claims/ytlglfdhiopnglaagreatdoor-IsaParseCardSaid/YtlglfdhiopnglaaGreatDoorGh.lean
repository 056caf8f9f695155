/-
  Joined by a program: IsRp, IsRq.
-/
import Derived.Test.YtlglfdhiopnglaaGreatDoorGg
import Derived.Test.YtlglfdhiopnglaaGreatDoorGj

section
namespace Go.Proofs.YtlglfdhiopnglaaGreatDoor
open Go.ChangeShapes Go.WideShapes Go.ChangeAt Go.RowKit
set_option linter.unusedVariables false
set_option linter.unusedSimpArgs false
set_option maxRecDepth 100000

/-- Whole of the reference 1. -/
def wholeF (s : List UInt8) : Bool :=
  (if 1 < s.length ∧ s.headD 0 = 45 then s.tail else s).all dgB && (decide ((if 1 < s.length ∧ s.headD 0 = 45 then s.tail else s) ≠ []) && (decide ((if 1 < s.length ∧ s.headD 0 = 45 then s.tail else s).headD 0 ≠ 48) || decide (s.length = 1)))
/-- value of the reference 1: a '-' is skipped. -/
def vluG : List UInt8 → Nat → Option Nat
  | [], n => some n
  | c :: r, n => if c = 45 then vluG r n else if n * 10 + (c.toNat - 48) > 2147483647 then none else vluG r (n * 10 + (c.toNat - 48))
def vluF (s : List UInt8) : Int × Bool := match vluG s 0 with
  | none => (0, false)
  | some n => (if 0 < s.length ∧ s.headD 0 = 45 then -(n : Int) else n, true)
def rparG (n d : Int × Bool) : (Int × Int) × Int :=
  if n.2 = false ∨ d.2 = false then ((0, 0), 3) else if Int.gcd n.1 d.1 ≠ 1 then ((0, 0), 5) else ((n.1, d.1), 0)
def rparH (up down : List UInt8) (sl : Bool) : (Int × Int) × Int :=
  if sl = true ∧ (wholeF down = false ∨ down.headD 0 = 45 ∨ down = [48] ∨ down = [49]) then ((0, 0), 5)
  else if wholeF up = false then ((0, 0), 5) else rparG (vluF up) (vluF (if sl then down else [49]))
/-- Parse of the reference 1. -/
def rparF (s : List UInt8) : (Int × Int) × Int := rparH (Lib.cut s [47]).1 (Lib.cut s [47]).2.1 (Lib.cut s [47]).2.2
def intF (s : List UInt8) : Int × Bool := if (rparF s).2 ≠ 0 ∨ (rparF s).1.2 ≠ 1 then (0, false) else ((rparF s).1.1, true)
def rgF (kind : Int) (s : List UInt8) : Int × Bool :=
  if kind = 120 ∨ kind = 114 then (if s.length < 2 ∨ ((s.headD 0).toNat : Int) ≠ kind then (0, false) else intF s.tail) else intF s
def oneF (kind : Int) (l : List (List UInt8)) : Int × List (List UInt8) × Bool :=
  if kind = 45 then (0, l, true) else match l with
    | [] => (0, [], false)
    | w :: r => ((rgF kind w).1, r, (rgF kind w).2)
def plcG (s : List UInt8) : List (List UInt8) → Int → Int
  | [], _ => -1
  | w :: r, i => if w = s then i else plcG s r (i + 1)
def plcF (l : List (List UInt8)) (s : List UInt8) : Int := plcG s l 0
def rndsL : List (List UInt8) := [[102, 108, 111, 111, 114], [99, 101, 105, 108], [122, 101, 114, 111], [101, 118, 101, 110]]
def ovrsL : List (List UInt8) := [[115, 97, 116], [119, 114, 97, 112]]
def opsnL : List (List UInt8) := [[97, 100, 100], [115, 117, 98], [109, 117, 108], [100, 105, 118], [110, 101, 103], [109, 105, 110], [109, 97, 120]]
def cmpsL : List (List UInt8) := [[108, 116], [108, 101], [101, 113]]
def ptyF (l : List (List UInt8)) : Typ × Bool :=
  if l.length = 1 ∧ l.getD 0 [] = [102, 114, 97, 99] then ((1, 0, 0, 0, 0), true)
  else if l.length = 1 ∧ l.getD 0 [] = [105, 110, 116] then ((3, 0, 0, 0, 0), true)
  else if l.length ≠ 5 ∨ l.getD 0 [] ≠ [102, 105, 120] then (y0, false)
  else ((2, (intF (l.getD 1 [])).1, (intF (l.getD 2 [])).1, plcF rndsL (l.getD 3 []) + 1, plcF ovrsL (l.getD 4 []) + 1), (intF (l.getD 1 [])).2 && (intF (l.getD 2 [])).2)
def riH (op : Nat) (v : Int × Int) (a b c : Int) (l : List (List UInt8)) : Ins × Bool :=
  if typedB op then (((op : Int), a, b, c, v, (ptyF l).1), (ptyF l).2 && formB ((op : Int), a, b, c, v, (ptyF l).1))
  else (((op : Int), a, b, c, v, y0), decide (l.length = 0) && formB ((op : Int), a, b, c, v, y0))
def riE (op : Nat) (v : Int × Int) (a b : Int) (l : List (List UInt8)) : Ins × Bool :=
  if op ≠ 12 ∨ v.1 ≠ 8 then (if (oneF (kdN op 2) l).2.2 = false then (i0, false) else riH op v a b (oneF (kdN op 2) l).1 (oneF (kdN op 2) l).2.1) else riH op v a b 0 l
def valued (op : Nat) : Bool := decide (op = 9 ∨ op = 10 ∨ op = 11 ∨ op = 13)
def riD (op : Nat) (v : Int × Int) (a b : Int) (l : List (List UInt8)) : Ins × Bool :=
  if valued op = true then (if l.length = 0 then (i0, false) else if (rparF (l.getD 0 [])).2 ≠ 0 then (i0, false) else riE op (rparF (l.getD 0 [])).1 a b l.tail)
  else riE op v a b l
def riC (op : Nat) (v : Int × Int) (l : List (List UInt8)) : Ins × Bool :=
  if (oneF (kdN op 0) l).2.2 = false ∨ (oneF (kdN op 1) (oneF (kdN op 0) l).2.1).2.2 = false then (i0, false)
  else riD op v (oneF (kdN op 0) l).1 (oneF (kdN op 1) (oneF (kdN op 0) l).2.1).1 (oneF (kdN op 1) (oneF (kdN op 0) l).2.1).2.1
def named (op : Nat) : Bool := decide (op = 12 ∨ op = 14)
def opV (op : Nat) (w : List UInt8) : Int := if op = 14 then plcF cmpsL w + 13 else plcF opsnL w + 4
def riB (op : Nat) (l : List (List UInt8)) : Ins × Bool :=
  if named op = true then (if l.length = 0 then (i0, false) else riC op (opV op (l.getD 0 []), 1) l.tail) else riC op (0, 0) l
def fndL (w : List UInt8) : Nat → Nat → Option Nat
  | 0, _ => none
  | m + 1, i => if (mnS i).data.toList = w then some i else fndL w m (i + 1)
def riA (l : List (List UInt8)) : Ins × Bool := match fndL (l.getD 0 []) 17 0 with
  | none => (i0, false)
  | some op => riB op l.tail
/-- Instr of the reference. -/
def riF (s : List UInt8) : Ins × Bool := riA (cutL 32 false s)

/-! ### Integers -/
theorem dgB_iff (c : UInt8) : dgB c = true ↔ 48 ≤ c.toNat ∧ c.toNat ≤ 57 := by simp [dgB]
theorem vluG_dig : ∀ (l : List UInt8) (n : Nat), (∀ b ∈ l, 48 ≤ b.toNat ∧ b.toNat ≤ 57) → n ≤ 2147483647 → vluG l n = if l.foldl (fun a b => a * 10 + (b.toNat - 48)) n > 2147483647 then none else some (l.foldl (fun a b => a * 10 + (b.toNat - 48)) n)
  | [], n, _, hn => by
    show some n = if n > 2147483647 then none else some n
    rw [if_neg (by omega)]
  | c :: r, n, hd, hn => by
    have hc := hd c List.mem_cons_self
    have h45 : ¬ c = 45 := by rintro rfl; revert hc; decide
    rw [vluG, if_neg h45, List.foldl_cons]
    split
    · rename_i hgt
      have := foldl_le r (n * 10 + (c.toNat - 48))
      rw [if_pos (by omega)]
    · exact vluG_dig r _ (fun b hb => hd b (List.mem_cons_of_mem _ hb)) (by omega)
theorem vluG_num {l : List UInt8} (hd : ∀ b ∈ l, 48 ≤ b.toNat ∧ b.toNat ≤ 57) : vluG l 0 = if numL l > 2147483647 then none else some (numL l) := vluG_dig l 0 hd (by omega)
theorem whole_dec {n : Int} (h0 : -2147483647 ≤ n) (h1 : n ≤ 2147483647) : wholeF (Lib.itoa n) = true ∧ vluF (Lib.itoa n) = (n, true) := by
  have all_dg : ∀ u, (Lib.decDigits u).all dgB = true := fun u => List.all_eq_true.2 fun b hb => (dgB_iff b).2 (decDigits_dg u b hb)
  unfold Lib.itoa
  split
  · rename_i hn
    have hne := decDigits_ne n.natAbs
    have hlead := decDigits_lead (u := n.natAbs) (by omega)
    have hlen : 1 < (45 :: Lib.decDigits n.natAbs).length := by
      rw [List.length_cons]
      have : (Lib.decDigits n.natAbs).length ≠ 0 := fun e => hne (List.length_eq_zero_iff.1 e)
      omega
    refine ⟨?_, ?_⟩
    · unfold wholeF
      rw [if_pos ⟨hlen, rfl⟩, List.tail_cons, all_dg]
      simp [hne]
      simpa using hlead
    · unfold vluF
      rw [show vluG (45 :: Lib.decDigits n.natAbs) 0 = vluG (Lib.decDigits n.natAbs) 0 by rw [vluG, if_pos rfl], vluG_num (decDigits_dg _), numL_dec, if_neg (by omega)]
      simp only [List.length_cons, List.headD_cons]
      rw [if_pos ⟨by omega, trivial⟩]
      congr 1; omega
  · rename_i hn
    have hne := decDigits_ne n.toNat
    have hd := decDigits_dg n.toNat
    have h45 : ¬ (Lib.decDigits n.toNat).headD 0 = 45 := by
      cases hl : Lib.decDigits n.toNat with
      | nil => exact absurd hl hne
      | cons c r =>
        rw [hl] at hd
        have hc := hd c List.mem_cons_self
        intro e
        have e : c = 45 := e
        subst e; revert hc; decide
    refine ⟨?_, ?_⟩
    · unfold wholeF
      rw [if_neg (fun e => h45 e.2), all_dg, Bool.true_and, Bool.and_eq_true, decide_eq_true_eq]
      refine ⟨hne, ?_⟩
      by_cases hz : n.toNat = 0
      · rw [hz, Lib.decDigits, dif_pos (by decide)]; simp
      · have := decDigits_lead (u := n.toNat) (by omega)
        rw [Bool.or_eq_true]
        exact .inl (decide_eq_true this)
    · unfold vluF
      rw [vluG_num hd, numL_dec, if_neg (by omega)]
      simp only
      rw [if_neg (fun e => h45 e.2)]
      congr 1; omega
theorem whole_itoa {s : List UInt8} {n : Int} (hw : wholeF s = true) (hv : vluF s = (n, true)) : Lib.itoa n = s ∧ -2147483647 ≤ n ∧ n ≤ 2147483647 := by
  unfold wholeF at hw
  simp only [Bool.and_eq_true, Bool.or_eq_true, decide_eq_true_eq, List.all_eq_true] at hw
  by_cases hm : 1 < s.length ∧ s.headD 0 = 45
  · rw [if_pos hm] at hw
    obtain ⟨ha, hne, hl⟩ := hw
    cases s with
    | nil => simp at hm
    | cons c r =>
      have hc : c = 45 := hm.2
      subst hc
      rw [List.tail_cons] at ha hne hl
      have hd : ∀ b ∈ r, 48 ≤ b.toNat ∧ b.toNat ≤ 57 := fun b hb => (dgB_iff b).1 (ha b hb)
      have hlead : r.headD 0 ≠ 48 := by
        rcases hl with hl | hl
        · exact hl
        · have := hm.1; omega
      unfold vluF at hv
      rw [show vluG (45 :: r) 0 = vluG r 0 by rw [vluG, if_pos rfl], vluG_num hd] at hv
      by_cases hgt : numL r > 2147483647
      · rw [if_pos hgt] at hv; simp at hv
      · rw [if_neg hgt] at hv
        simp only [List.length_cons, List.headD_cons] at hv
        rw [if_pos ⟨by omega, trivial⟩, Prod.mk.injEq] at hv
        have hp := numL_pos hne hlead hd
        have hnn := hv.1
        subst hnn
        refine ⟨?_, by omega, by omega⟩
        unfold Lib.itoa
        rw [if_pos (by omega), show (-(numL r : Int)).natAbs = numL r by omega, dec_numL hne (.inl hlead) hd]
  · rw [if_neg hm] at hw
    obtain ⟨ha, hne, hl⟩ := hw
    have hd : ∀ b ∈ s, 48 ≤ b.toNat ∧ b.toNat ≤ 57 := fun b hb => (dgB_iff b).1 (ha b hb)
    have h45 : ¬ (0 < s.length ∧ s.headD 0 = 45) := by
      rintro ⟨h0, h1⟩
      cases s with
      | nil => simp at h0
      | cons c r =>
        have hc : c = 45 := h1
        subst hc
        have := hd 45 List.mem_cons_self
        revert this; decide
    unfold vluF at hv
    rw [vluG_num hd] at hv
    by_cases hgt : numL s > 2147483647
    · rw [if_pos hgt] at hv; simp at hv
    · rw [if_neg hgt] at hv
      simp only at hv
      rw [if_neg h45, Prod.mk.injEq] at hv
      have hnn := hv.1
      subst hnn
      refine ⟨?_, by omega, by omega⟩
      unfold Lib.itoa
      rw [if_neg (by omega), Int.toNat_natCast, dec_numL hne hl hd]
theorem cut_spec (c : UInt8) : ∀ s : List UInt8, ((Lib.cut s [c]).2.2 = false ∧ (Lib.cut s [c]).1 = s ∧ c ∉ s) ∨ ((Lib.cut s [c]).2.2 = true ∧ s = (Lib.cut s [c]).1 ++ c :: (Lib.cut s [c]).2.1 ∧ c ∉ (Lib.cut s [c]).1) := by
  intro s
  by_cases h : c ∈ s
  · obtain ⟨a, b, rfl, ha⟩ : ∃ a b, s = a ++ c :: b ∧ c ∉ a := by
      induction s with
      | nil => cases h
      | cons x r ih =>
        by_cases hx : x = c
        · subst hx; exact ⟨[], r, rfl, by simp⟩
        · have : c ∈ r := by
            rcases List.mem_cons.1 h with e | h
            · exact absurd e.symm hx
            · exact h
          obtain ⟨a, b, e, ha⟩ := ih this
          exact ⟨x :: a, b, by rw [e]; rfl, by simp [Ne.symm hx, ha]⟩
    right
    rw [cut_at ha]
    exact ⟨rfl, rfl, ha⟩
  · left
    rw [cut_none h]
    exact ⟨rfl, rfl, h⟩
theorem itoa_no47 (n : Int) : (47 : UInt8) ∉ Lib.itoa n := by
  intro hm
  unfold Lib.itoa at hm
  split at hm
  · rcases List.mem_cons.1 hm with hm | hm
    · revert hm; decide
    · have := decDigits_dg _ _ hm; revert this; decide
  · have := decDigits_dg _ _ hm; revert this; decide
theorem rparF_frcL {n d : Int} (h : validF n d = true) : rparF (frcL n d) = ((n, d), 0) := by
  have hv := h
  simp only [validF, decide_eq_true_eq] at hv
  obtain ⟨d1, d2, n1, n2, hg⟩ := hv
  obtain ⟨wn, vn⟩ := whole_dec n1 n2
  obtain ⟨wd, vd⟩ := whole_dec (n := d) (by omega) d2
  unfold frcL
  rw [if_neg (by rw [h]; simp)]
  by_cases hd : d = 1
  · subst hd
    rw [if_pos rfl]
    unfold rparF
    rw [cut_none (itoa_no47 n)]
    unfold rparH
    rw [if_neg (by simp), wn, if_neg (by simp), vn]
    have : vluF (if false = true then [] else [49]) = (1, true) := by decide +kernel
    rw [this]
    unfold rparG
    rw [if_neg (by simp), if_neg (by simp)]
  · rw [if_neg hd]
    unfold rparF
    rw [show Lib.itoa n ++ [47] ++ Lib.itoa d = Lib.itoa n ++ 47 :: Lib.itoa d by simp, cut_at (itoa_no47 n)]
    have hdd : Lib.itoa d = Lib.decDigits d.toNat := by unfold Lib.itoa; rw [if_neg (by omega)]
    unfold rparH
    rw [if_neg, wn, if_neg (by simp), if_pos rfl, vn, vd]
    · unfold rparG
      rw [if_neg (by simp), if_neg (by simp [hg])]
    · rintro ⟨-, h | h | h | h⟩
      · rw [wd] at h; cases h
      · rw [hdd] at h
        have hdg := decDigits_dg d.toNat
        cases hl : Lib.decDigits d.toNat with
        | nil => exact absurd hl (decDigits_ne _)
        | cons c r =>
          rw [hl] at h hdg
          have h : c = 45 := h
          subst h
          have := hdg 45 List.mem_cons_self
          revert this; decide
      · rw [hdd] at h
        have : d.toNat = 0 := dec_inj h
        omega
      · rw [hdd] at h
        have : d.toNat = 1 := dec_inj h
        omega
theorem rparF_ok {s : List UInt8} (h : (rparF s).2 = 0) : validF (rparF s).1.1 (rparF s).1.2 = true ∧ frcL (rparF s).1.1 (rparF s).1.2 = s := by
  obtain ⟨up, hup⟩ : ∃ t, (Lib.cut s [47]).1 = t := ⟨_, rfl⟩
  obtain ⟨dn, hdn⟩ : ∃ t, (Lib.cut s [47]).2.1 = t := ⟨_, rfl⟩
  obtain ⟨sl, hsl⟩ : ∃ t, (Lib.cut s [47]).2.2 = t := ⟨_, rfl⟩
  have hc := cut_spec 47 s
  unfold rparF at h ⊢
  rw [hup, hdn, hsl] at hc h ⊢
  unfold rparH at h ⊢
  split at h
  · cases h
  rename_i h1
  rw [if_neg h1]
  split at h
  · cases h
  rename_i h2
  rw [if_neg h2]
  have wu : wholeF up = true := by simpa using h2
  obtain ⟨⟨n, ok⟩, hn⟩ : ∃ t, vluF up = t := ⟨_, rfl⟩
  obtain ⟨⟨d, is⟩, hd⟩ : ∃ t, vluF (if sl then dn else [49]) = t := ⟨_, rfl⟩
  rw [hn, hd] at h ⊢
  unfold rparG at h ⊢
  split at h
  · cases h
  rename_i h3
  rw [if_neg h3]
  split at h
  · cases h
  rename_i h4
  rw [if_neg h4]
  simp only [not_or, Bool.not_eq_false] at h3
  obtain ⟨hok, his⟩ := h3
  have hok : ok = true := hok
  have his : is = true := his
  subst hok his
  obtain ⟨en, n1, n2⟩ := whole_itoa wu hn
  have hg : Int.gcd n d = 1 := by simpa using h4
  show validF n d = true ∧ frcL n d = s
  have fin : ∀ (hd1 : 1 ≤ d) (hd2 : d ≤ 2147483647), validF n d = true := fun hd1 hd2 => by
    simp only [validF, decide_eq_true_eq]
    exact ⟨hd1, hd2, n1, n2, hg⟩
  rcases hc with ⟨hsl, hs, -⟩ | ⟨hsl, hs, -⟩
  · subst hsl
    have : vluF (if false = true then dn else [49]) = (1, true) := by
      show vluF [49] = _
      decide +kernel
    rw [this, Prod.mk.injEq] at hd
    have hd := hd.1
    subst hd
    have hv := fin (by omega) (by omega)
    refine ⟨hv, ?_⟩
    unfold frcL
    rw [if_neg (by rw [hv]; simp), if_pos rfl, en, hs]
  · subst hsl
    simp only [true_and, not_or] at h1
    obtain ⟨q1, q2, q3, q4⟩ := h1
    have wd : wholeF dn = true := by simpa using q1
    rw [if_pos rfl] at hd
    obtain ⟨ed, -, d2⟩ := whole_itoa wd hd
    have hd2 : 2 ≤ d := by
      by_cases hneg : d < 0
      · exfalso
        rw [← ed] at q2
        unfold Lib.itoa at q2
        rw [if_pos hneg] at q2
        exact q2 rfl
      · by_cases h0 : d = 0
        · exfalso
          subst h0
          exact q3 (by rw [← ed]; unfold Lib.itoa; rw [if_neg (by decide)]; show Lib.decDigits 0 = _; rw [Lib.decDigits, dif_pos (by decide)]; rfl)
        · by_cases h1 : d = 1
          · exfalso
            subst h1
            exact q4 (by rw [← ed]; unfold Lib.itoa; rw [if_neg (by decide)]; show Lib.decDigits 1 = _; rw [Lib.decDigits, dif_pos (by decide)]; rfl)
          · omega
    have hv := fin (by omega) d2
    refine ⟨hv, ?_⟩
    unfold frcL
    rw [if_neg (by rw [hv]; simp), if_neg (by omega), en, ed, hs]; simp
theorem intF_ok {s : List UInt8} {n : Int} (h : intF s = (n, true)) : Lib.itoa n = s ∧ -2147483647 ≤ n ∧ n ≤ 2147483647 := by
  unfold intF at h
  split at h
  · cases h
  · rename_i hh
    simp only [not_or, ne_eq, Decidable.not_not] at hh
    obtain ⟨hv, hf⟩ := rparF_ok hh.1
    rw [Prod.mk.injEq] at h
    rw [hh.2, h.1] at hf hv
    have hv2 := hv
    simp only [validF, decide_eq_true_eq] at hv2
    refine ⟨?_, by omega, by omega⟩
    unfold frcL at hf
    rwa [if_neg (by rw [hv]; simp), if_pos rfl] at hf
theorem intF_itoa {n : Int} (h0 : -2147483647 ≤ n) (h1 : n ≤ 2147483647) : intF (Lib.itoa n) = (n, true) := by
  have hv : validF n 1 = true := by
    simp only [validF, decide_eq_true_eq]
    exact ⟨by omega, by omega, h0, h1, by simp⟩
  have hf : frcL n 1 = Lib.itoa n := by unfold frcL; rw [if_neg (by rw [hv]; simp), if_pos rfl]
  have := rparF_frcL hv
  rw [hf] at this
  unfold intF
  rw [this, if_neg (by simp)]
end Go.Proofs.YtlglfdhiopnglaaGreatDoor
end

section
namespace Go.Proofs.YtlglfdhiopnglaaGreatDoor
open Go.ChangeShapes Go.WideShapes Go.ChangeAt Go.RowKit
set_option linter.unusedVariables false
set_option linter.unusedSimpArgs false
set_option maxRecDepth 100000

def fldT (kind n : Int) : List UInt8 := if kind = 120 then 120 :: Lib.itoa n else if kind = 114 then 114 :: Lib.itoa n else Lib.itoa n
def fldW (kind n : Int) : List (List UInt8) := if kind = 45 then [] else [fldT kind n]
theorem fieldB_bound {kind n : Int} (h : fieldB kind n = true) : -2147483647 ≤ n ∧ n ≤ 2147483647 ∧ (kind = 45 → n = 0) := by
  unfold fieldB inB at h
  split at h
  · rename_i hk
    simp only [decide_eq_true_eq] at h
    omega
  · rename_i hk
    refine ⟨?_, ?_, fun e => absurd e hk⟩
    all_goals
      split at h
      · simp only [decide_eq_true_eq] at h; omega
      · split at h
        · simp only [decide_eq_true_eq] at h; omega
        · split at h
          · simp only [decide_eq_true_eq] at h; omega
          · split at h
            · simp only [decide_eq_true_eq] at h; omega
            · simp only [decide_eq_true_eq] at h; omega
theorem oneF_fldW {kind n : Int} (h : fieldB kind n = true) (r : List (List UInt8)) : oneF kind (fldW kind n ++ r) = (n, r, true) := by
  obtain ⟨h0, h1, hz⟩ := fieldB_bound h
  unfold oneF fldW
  by_cases hk : kind = 45
  · rw [if_pos hk, if_pos hk, hz hk]; rfl
  · rw [if_neg hk, if_neg hk]
    show ((rgF kind (fldT kind n)).1, r, (rgF kind (fldT kind n)).2) = _
    have : rgF kind (fldT kind n) = (n, true) := by
      have hlen : ∀ b : UInt8, ¬ (b :: Lib.itoa n).length < 2 := fun b => by
        obtain ⟨c, q, e, -⟩ := itoa_head n
        rw [e]; simp only [List.length_cons]; omega
      unfold rgF fldT
      by_cases h120 : kind = 120
      · subst h120
        rw [if_pos (.inl rfl), if_pos rfl, if_neg]
        · exact intF_itoa h0 h1
        · rintro (h | h)
          · exact hlen _ h
          · exact h rfl
      · by_cases h114 : kind = 114
        · subst h114
          rw [if_pos (.inr rfl), if_neg (show ¬ (114 : Int) = 120 by decide), if_pos rfl, if_neg]
          · exact intF_itoa h0 h1
          · rintro (h | h)
            · exact hlen _ h
            · exact h rfl
        · rw [if_neg (by omega), if_neg h120, if_neg h114]
          exact intF_itoa h0 h1
    rw [this]
theorem oneF_ok {kind : Int} {l : List (List UInt8)} (h : (oneF kind l).2.2 = true) : l = fldW kind (oneF kind l).1 ++ (oneF kind l).2.1 := by
  unfold oneF at h ⊢
  unfold fldW
  by_cases hk : kind = 45
  · rw [if_pos hk, if_pos hk]; rfl
  · rw [if_neg hk] at h ⊢
    rw [if_neg hk]
    cases l with
    | nil => cases h
    | cons w r =>
      have h : (rgF kind w).2 = true := h
      show w :: r = [fldT kind (rgF kind w).1] ++ r
      congr 1
      unfold rgF at h ⊢
      unfold fldT
      by_cases hx : kind = 120 ∨ kind = 114
      · rw [if_pos hx] at h ⊢
        by_cases hl : w.length < 2 ∨ ((w.headD 0).toNat : Int) ≠ kind
        · rw [if_pos hl] at h; cases h
        · rw [if_neg hl] at h ⊢
          obtain ⟨q1, q2⟩ := not_or.1 hl
          have q2 : ((w.headD 0).toNat : Int) = kind := Decidable.not_not.1 q2
          have e := (intF_ok (n := (intF w.tail).1) (by rw [← h])).1
          cases w with
          | nil => simp at q1
          | cons c t =>
            rw [List.tail_cons] at e ⊢
            rw [e]
            have q2 : (c.toNat : Int) = kind := q2
            rcases hx with hx | hx
            · have : c = 120 := UInt8.toNat_inj.1 (by have : (120 : UInt8).toNat = 120 := by decide
                                                      omega)
              rw [if_pos hx, this]
            · have : c = 114 := UInt8.toNat_inj.1 (by have : (114 : UInt8).toNat = 114 := by decide
                                                      omega)
              rw [if_neg (by omega), if_pos hx, this]
      · rw [if_neg hx] at h ⊢
        rw [if_neg (by omega), if_neg (by omega)]
        exact ((intF_ok (n := (intF w).1) (by rw [← h])).1).symm

/-! ### Names, types -/
theorem plc_ok {f : Int → List UInt8} : ∀ (l : List (List UInt8)) (w : List UInt8) (i b : Int), (∀ k : Nat, k < l.length → l.getD k [] = f (i + k + b)) → plcG w l i = -1 ∨ (i ≤ plcG w l i ∧ plcG w l i < i + l.length ∧ f (plcG w l i + b) = w)
  | [], w, i, b, _ => .inl rfl
  | v :: r, w, i, b, h => by
    unfold plcG
    by_cases e : v = w
    · rw [if_pos e]
      right
      refine ⟨by omega, by rw [List.length_cons]; omega, ?_⟩
      have := h 0 (by simp)
      rw [← e]
      simpa using this.symm
    · rw [if_neg e]
      rcases plc_ok r w (i + 1) b (fun k hk => by
        have := h (k + 1) (by simpa using hk)
        rw [List.getD_cons_succ] at this
        rw [this]; congr 1; omega) with h' | ⟨h1, h2, h3⟩
      · exact .inl h'
      · right
        exact ⟨by omega, by rw [List.length_cons]; omega, h3⟩
theorem opV_ok {op : Nat} {w : List UInt8} {n : Int} (h : opV op w = n) (hr : (op = 14 ∧ 13 ≤ n ∧ n ≤ 15) ∨ (op ≠ 14 ∧ 4 ≤ n ∧ n ≤ 10)) : opnL n = w := by
  unfold opV plcF at h
  rcases hr with ⟨h14, hb⟩ | ⟨h14, hb⟩
  · rw [if_pos h14] at h
    rcases plc_ok (f := opnL) cmpsL w 0 13 (by decide +kernel) with h' | ⟨-, -, h3⟩
    · rw [h'] at h; omega
    · rw [h] at h3; exact h3
  · rw [if_neg h14] at h
    rcases plc_ok (f := opnL) opsnL w 0 4 (by decide +kernel) with h' | ⟨-, -, h3⟩
    · rw [h'] at h; omega
    · rw [h] at h3; exact h3
theorem opV_opnL {op : Nat} {n : Int} (hr : (op = 14 ∧ 13 ≤ n ∧ n ≤ 15) ∨ (op ≠ 14 ∧ 4 ≤ n ∧ n ≤ 10)) : opV op (opnL n) = n := by
  unfold opV
  rcases hr with ⟨h14, hb⟩ | ⟨h14, hb⟩
  · rw [if_pos h14]
    rcases (by omega : n = 13 ∨ n = 14 ∨ n = 15) with rfl | rfl | rfl <;> decide +kernel
  · rw [if_neg h14]
    rcases (by omega : n = 4 ∨ n = 5 ∨ n = 6 ∨ n = 7 ∨ n = 8 ∨ n = 9 ∨ n = 10) with rfl | rfl | rfl | rfl | rfl | rfl | rfl <;> decide +kernel
theorem ptyF_typW {t : Typ} (h : typB t = true) : ptyF (typW t) = (t, true) := by
  obtain ⟨k, b, f, r, o⟩ := t
  unfold typB plainB fixB at h
  simp only [Bool.or_eq_true, Bool.and_eq_true, decide_eq_true_eq] at h
  rcases h with ⟨rfl | rfl, rfl, rfl, rfl, rfl⟩ | ⟨rfl, b0, b1, f0, f1, r0, r1, ho⟩
  · decide +kernel
  · decide +kernel
  · have hr : plcF rndsL (rndL r) + 1 = r := by
      rcases (by omega : r = 1 ∨ r = 2 ∨ r = 3 ∨ r = 4) with rfl | rfl | rfl | rfl <;> decide +kernel
    have ho' : plcF ovrsL (ovrL o) + 1 = o := by
      rcases ho with rfl | rfl <;> decide +kernel
    have hW : typW (2, b, f, r, o) = [[102, 105, 120], Lib.itoa b, Lib.itoa f, rndL r, ovrL o] := rfl
    rw [hW]
    unfold ptyF
    rw [if_neg (by simp), if_neg (by simp), if_neg (by simp)]
    show (((2, (intF (Lib.itoa b)).1, (intF (Lib.itoa f)).1, plcF rndsL (rndL r) + 1, plcF ovrsL (ovrL o) + 1) : Typ), (intF (Lib.itoa b)).2 && (intF (Lib.itoa f)).2) = _
    rw [intF_itoa (n := b) (by omega) (by omega), intF_itoa (n := f) (by omega) (by omega), hr, ho']; rfl
theorem ptyF_ok {l : List (List UInt8)} (h : (ptyF l).2 = true) (ht : typB (ptyF l).1 = true) : typW (ptyF l).1 = l := by
  unfold ptyF at h ht ⊢
  by_cases h1 : l.length = 1 ∧ l.getD 0 [] = [102, 114, 97, 99]
  · rw [if_pos h1]
    obtain ⟨a, ha⟩ := List.length_eq_one_iff.1 h1.1
    rw [ha] at h1 ⊢
    have : a = [102, 114, 97, 99] := h1.2
    rw [this]; rfl
  · rw [if_neg h1] at h ht ⊢
    by_cases h2 : l.length = 1 ∧ l.getD 0 [] = [105, 110, 116]
    · rw [if_pos h2]
      obtain ⟨a, ha⟩ := List.length_eq_one_iff.1 h2.1
      rw [ha] at h2 ⊢
      have : a = [105, 110, 116] := h2.2
      rw [this]; rfl
    · rw [if_neg h2] at h ht ⊢
      by_cases h3 : l.length ≠ 5 ∨ l.getD 0 [] ≠ [102, 105, 120]
      · rw [if_pos h3] at h; cases h
      · rw [if_neg h3] at h ht ⊢
        obtain ⟨q1, q2⟩ := not_or.1 h3
        have q1 := Decidable.not_not.1 q1
        have q2 := Decidable.not_not.1 q2
        match l, q1 with
        | [a, b, c, d, e], _ =>
          have q2 : a = [102, 105, 120] := q2
          have h : ((intF b).2 && (intF c).2) = true := h
          rw [Bool.and_eq_true] at h
          have eb := (intF_ok (n := (intF b).1) (by rw [← h.1])).1
          have ec := (intF_ok (n := (intF c).1) (by rw [← h.2])).1
          have ht : typB (2, (intF b).1, (intF c).1, plcF rndsL d + 1, plcF ovrsL e + 1) = true := ht
          show [[102, 105, 120], Lib.itoa (intF b).1, Lib.itoa (intF c).1, rndL (plcF rndsL d + 1), ovrL (plcF ovrsL e + 1)] = [a, b, c, d, e]
          unfold typB fixB at ht
          simp only [Bool.or_eq_true, Bool.and_eq_true, decide_eq_true_eq] at ht
          rcases ht with ⟨ht, -⟩ | ⟨-, -, -, -, -, r0, r1, ho⟩
          · omega
          · have e1 : rndL (plcF rndsL d + 1) = d := by
              rcases plc_ok (f := rndL) rndsL d 0 1 (by decide +kernel) with h' | ⟨-, -, h3⟩
              · unfold plcF at r0; omega
              · exact h3
            have e2 : ovrL (plcF ovrsL e + 1) = e := by
              rcases plc_ok (f := ovrL) ovrsL e 0 1 (by decide +kernel) with h' | ⟨-, -, h3⟩
              · unfold plcF at ho; omega
              · exact h3
            rw [eb, ec, e1, e2, q2]

/-! ### Lines -/
/-- A line's words in the reference's order. -/
def rlW (x : Ins) : List (List UInt8) :=
  (mnS x.1.toNat).data.toList :: ((if named x.1.toNat then [opnL x.2.2.2.2.1.1] else []) ++ (fldW (kdN x.1.toNat 0) x.2.1 ++ (fldW (kdN x.1.toNat 1) x.2.2.1 ++ ((if x.1 = 9 then [frcL x.2.2.2.2.1.1 x.2.2.2.2.1.2] else if valued x.1.toNat then [Lib.itoa x.2.2.2.2.1.1] else []) ++
    ((if x.1 = 12 ∧ x.2.2.2.2.1.1 = 8 then [] else fldW (kdN x.1.toNat 2) x.2.2.2.1) ++ (if typedB x.1 then typW x.2.2.2.2.2 ++ [] else []))))))
theorem lineW_rlW (x : Ins) (h : knownB x.1 = true) : lineW x = rlW x := by
  obtain ⟨op, A, b, c, ⟨n, d⟩, t⟩ := x
  have hk : 0 ≤ op ∧ op < 17 := by simpa [knownB] using h
  by_cases h12 : op = 12
  · subst h12
    unfold lineW rlW
    rw [opsF_12 _ rfl]
    by_cases h8 : n = 8
    · subst h8
      dsimp only
      rw [if_pos rfl]; rfl
    · have : ¬ ((12 : Int) = 12 ∧ n = 8) := fun e => h8 e.2
      dsimp only
      rw [if_neg h8, if_neg this]; rfl
  · unfold lineW
    rw [opsF_ne12 _ h12]
    clear h
    rcases (by omega : op = 0 ∨ op = 1 ∨ op = 2 ∨ op = 3 ∨ op = 4 ∨ op = 5 ∨ op = 6 ∨ op = 7 ∨ op = 8 ∨ op = 9 ∨ op = 10 ∨ op = 11 ∨ op = 13 ∨ op = 14 ∨ op = 15 ∨ op = 16) with rfl | rfl | rfl | rfl | rfl | rfl | rfl | rfl | rfl | rfl | rfl | rfl | rfl | rfl | rfl | rfl
    all_goals rfl

theorem fndL_some (op : Nat) (h : op < 17) : fndL (mnS op).data.toList 17 0 = some op := by
  have : ∀ i, i < 17 → fndL (mnS i).data.toList 17 0 = some i := by decide +kernel
  exact this op h
theorem fndL_ok (w : List UInt8) : ∀ (m i op : Nat), fndL w m i = some op → (mnS op).data.toList = w ∧ op < i + m
  | 0, _, _, h => by cases h
  | m + 1, i, op, h => by
    unfold fndL at h
    split at h
    · injection h with h
      subst h
      exact ⟨by assumption, by omega⟩
    · obtain ⟨h1, h2⟩ := fndL_ok w m (i + 1) op h
      exact ⟨h1, by omega⟩
/-- formB taken apart. -/
theorem formB_iff (x : Ins) : formB x = true ↔ knownB x.1 = true ∧ fieldB (kdN x.1.toNat 0) x.2.1 = true ∧ fieldB (kdN x.1.toNat 1) x.2.2.1 = true ∧ fieldB (kdN x.1.toNat 2) x.2.2.2.1 = true ∧ vlB x = true ∧ (if typedB x.1 then typB x.2.2.2.2.2 = true else x.2.2.2.2.2 = y0) := by
  obtain ⟨op, A, b, c, ⟨n, d⟩, k, bi, fr, ro, ov⟩ := x
  unfold formB
  simp only [Bool.and_eq_true]
  cases typedB op <;> simp
theorem rlW_formed {x : Ins} (h : formB x = true) : riA (rlW x) = (x, true) := by
  have hf := h
  obtain ⟨hk, f0, f1, f2, hv, ht⟩ := (formB_iff x).1 h
  obtain ⟨op, A, b, c, ⟨n, d⟩, t⟩ := x
  have hk0 : 0 ≤ op ∧ op < 17 := by simpa [knownB] using hk
  obtain ⟨o, rfl⟩ : ∃ o : Nat, op = o := ⟨op.toNat, by omega⟩
  have ho : o < 17 := by omega
  dsimp only at f0 f1 f2 ht
  rw [Int.toNat_natCast] at f0 f1 f2
  unfold rlW riA
  simp only [Int.toNat_natCast, List.getD_cons_zero, List.tail_cons]
  rw [fndL_some o ho]
  simp only
  -- the end
  have eH : riH o (n, d) A b c (if typedB (o : Int) then typW t ++ [] else []) = (((o : Int), A, b, c, (n, d), t), true) := by
    unfold riH
    cases hty : typedB (o : Int) with
    | true =>
      rw [hty] at ht
      simp only [if_true] at ht ⊢
      rw [List.append_nil, ptyF_typW ht, hf]; rfl
    | false =>
      rw [hty] at ht
      simp only [Bool.false_eq_true, if_false] at ht ⊢
      subst ht
      rw [hf]; rfl
  have eE : riE o (n, d) A b ((if (o : Int) = 12 ∧ n = 8 then [] else fldW (kdN o 2) c) ++ (if typedB (o : Int) then typW t ++ [] else [])) = (((o : Int), A, b, c, (n, d), t), true) := by
    unfold riE
    by_cases hb : (o : Int) = 12 ∧ n = 8
    · have hc : c = 0 := by
        unfold vlB at hv
        dsimp only at hv
        rw [if_neg (by omega), if_neg (by omega), if_pos hb.1] at hv
        simp only [Bool.and_eq_true, Bool.or_eq_true, decide_eq_true_eq] at hv
        rcases hv.2 with h | h
        · exact absurd hb.2 h
        · exact h
      rw [if_pos hb, if_neg (by omega), List.nil_append]
      rw [hc] at eH ⊢
      exact eH
    · rw [if_neg hb, if_pos (by omega), oneF_fldW f2]
      rw [if_neg (by simp)]
      exact eH
  have eD : riD o (n, d) A b ((if (o : Int) = 9 then [frcL n d] else if valued o then [Lib.itoa n] else []) ++ ((if (o : Int) = 12 ∧ n = 8 then [] else fldW (kdN o 2) c) ++ (if typedB (o : Int) then typW t ++ [] else []))) = (((o : Int), A, b, c, (n, d), t), true) ∨ valued o = true := by
    cases hvl : valued o with
    | true => exact .inr rfl
    | false =>
      left
      have h9 : ¬ (o : Int) = 9 := fun e => by
        have : o = 9 := by omega
        subst this
        cases hvl
      unfold riD
      rw [if_neg (by rw [hvl]; simp), if_neg h9]
      exact eE
  have eD' : valued o = true → ∀ v : Int × Int, riD o v A b ((if (o : Int) = 9 then [frcL n d] else if valued o then [Lib.itoa n] else []) ++ ((if (o : Int) = 12 ∧ n = 8 then [] else fldW (kdN o 2) c) ++ (if typedB (o : Int) then typW t ++ [] else []))) = (((o : Int), A, b, c, (n, d), t), true) := fun hvl v => by
    have hvl2 := hvl
    unfold valued at hvl2
    rw [decide_eq_true_eq] at hvl2
    unfold vlB at hv
    dsimp only at hv
    have hfr : ∃ w, (if (o : Int) = 9 then [frcL n d] else if valued o then [Lib.itoa n] else []) = [w] ∧ rparF w = ((n, d), 0) := by
      by_cases h9 : (o : Int) = 9
      · rw [if_pos h9] at hv ⊢
        exact ⟨_, rfl, rparF_frcL hv⟩
      · rw [if_neg h9, if_pos hvl]
        rw [if_neg h9] at hv
        have hd1 : d = 1 ∧ -2147483647 ≤ n ∧ n ≤ 2147483647 := by
          by_cases h10 : (o : Int) = 10 ∨ (o : Int) = 11
          · rw [if_pos h10] at hv
            simp only [numB, decide_eq_true_eq] at hv
            have f2' := f2
            have hc99 : kdN o 2 = 99 := by
              rcases h10 with h | h
              · have : o = 10 := by omega
                subst this; rfl
              · have : o = 11 := by omega
                subst this; rfl
            rw [hc99] at f2'
            have f2' : inB c 0 1048576 = true := f2'
            simp only [inB, decide_eq_true_eq] at f2'
            omega
          · rw [if_neg h10, if_neg (by omega), if_pos (by omega)] at hv
            simp only [numB, decide_eq_true_eq] at hv
            omega
        have hvf : validF n 1 = true := by
          simp only [validF, decide_eq_true_eq]
          exact ⟨by omega, by omega, hd1.2.1, hd1.2.2, by simp⟩
        have hff : frcL n 1 = Lib.itoa n := by unfold frcL; rw [if_neg (by rw [hvf]; simp), if_pos rfl]
        refine ⟨_, rfl, ?_⟩
        rw [hd1.1, ← hff]
        exact rparF_frcL hvf
    obtain ⟨w, hw, hp⟩ := hfr
    rw [hw]
    unfold riD
    rw [if_pos hvl, if_neg (by simp)]
    have e0 : ∀ q : List (List UInt8), rparF (([w] ++ q).getD 0 []) = ((n, d), 0) := fun q => hp
    rw [e0, if_neg (by simp)]
    exact eE
  have eC : ∀ v : Int × Int, (v = (n, d) ∨ valued o = true) → riC o v (fldW (kdN o 0) A ++ (fldW (kdN o 1) b ++ ((if (o : Int) = 9 then [frcL n d] else if valued o then [Lib.itoa n] else []) ++ ((if (o : Int) = 12 ∧ n = 8 then [] else fldW (kdN o 2) c) ++ (if typedB (o : Int) then typW t ++ [] else []))))) = (((o : Int), A, b, c, (n, d), t), true) := fun v hvv => by
    unfold riC
    rw [oneF_fldW f0]
    simp only
    rw [oneF_fldW f1, if_neg (by simp)]
    simp only
    rcases hvv with rfl | hvl
    · rcases eD with e | e
      · exact e
      · exact eD' e _
    · exact eD' hvl _
  unfold riB
  cases hnm : named o with
  | true =>
    have hn2 := hnm
    unfold named at hn2
    rw [decide_eq_true_eq] at hn2
    unfold vlB at hv
    dsimp only at hv
    rw [if_pos rfl, if_neg (by simp)]
    have hnd : d = 1 ∧ ((o = 14 ∧ 13 ≤ n ∧ n ≤ 15) ∨ (o ≠ 14 ∧ 4 ≤ n ∧ n ≤ 10)) := by
      rw [if_neg (by omega), if_neg (by omega)] at hv
      by_cases h12 : (o : Int) = 12
      · rw [if_pos h12] at hv
        simp only [Bool.and_eq_true, numB, decide_eq_true_eq] at hv
        omega
      · rw [if_neg h12, if_neg (by omega), if_pos (by omega)] at hv
        simp only [numB, decide_eq_true_eq] at hv
        omega
    refine (congrArg (fun v => riC o v _) ?_).trans (eC (n, d) (.inl rfl))
    show (opV o (opnL n), (1 : Int)) = _
    rw [opV_opnL hnd.2, hnd.1]
  | false =>
    rw [if_neg (by simp), if_neg (by simp)]
    refine eC (0, 0) ?_
    by_cases hvl : valued o = true
    · exact .inr hvl
    · left
      unfold vlB at hv
      dsimp only at hv
      simp only [valued, named, decide_eq_true_eq, decide_eq_false_iff_not] at hvl hnm
      rw [if_neg (by omega), if_neg (by omega), if_neg (by omega), if_neg (by omega), if_neg (by omega)] at hv
      simp only [decide_eq_true_eq] at hv
      rw [hv.1, hv.2]
/-- The reference reads every printed line of a formed instruction again. -/
theorem riF_lineL {x : Ins} (h : formB x = true) : riF (lineL x) = (x, true) := by
  unfold riF
  rw [← lineW_join x, cutL_join 32 (lineW x) (by simp [lineW]) (fun w hw => (lineW_no x w hw).1), lineW_rlW x ((formB_iff x).1 h).1]
  exact rlW_formed h
/-- A list's head and tail. -/
theorem head_tail {l : List (List UInt8)} (h : ¬ l.length = 0) : l = l.getD 0 [] :: l.tail := by
  cases l with
  | nil => exact absurd rfl h
  | cons a r => rfl
/-- What the reference accepts is formed, and the line is its text. -/
theorem riA_ok {l : List (List UInt8)} (hl : l ≠ []) (h : (riA l).2 = true) : formB (riA l).1 = true ∧ rlW (riA l).1 = l := by
  unfold riA at h ⊢
  cases hf : fndL (l.getD 0 []) 17 0 with
  | none => rw [hf] at h; cases h
  | some o =>
    rw [hf] at h
    simp only at h ⊢
    obtain ⟨hmn, ho⟩ := fndL_ok _ _ _ _ hf
    have ho : o < 17 := by omega
    have hlen : ¬ l.length = 0 := fun e => hl (List.length_eq_zero_iff.1 e)
    have hlt := head_tail hlen
    generalize l.tail = r at *
    -- the end
    have eH : ∀ (v : Int × Int) (a b c : Int) (q : List (List UInt8)), (riH o v a b c q).2 = true → formB (riH o v a b c q).1 = true ∧ (riH o v a b c q).1 = ((o : Int), a, b, c, v, (riH o v a b c q).1.2.2.2.2.2) ∧ q = (if typedB (o : Int) then typW (riH o v a b c q).1.2.2.2.2.2 ++ [] else []) := fun v a b c q hq => by
      unfold riH at hq ⊢
      cases hty : typedB (o : Int) with
      | true =>
        rw [hty] at hq
        simp only [if_true] at hq ⊢
        rw [Bool.and_eq_true] at hq
        have ht := ((formB_iff _).1 hq.2).2.2.2.2.2
        rw [if_pos hty] at ht
        refine ⟨hq.2, trivial, ?_⟩
        rw [List.append_nil, ptyF_ok hq.1 ht]
      | false =>
        rw [hty] at hq
        simp only [Bool.false_eq_true, if_false] at hq ⊢
        rw [Bool.and_eq_true, decide_eq_true_eq] at hq
        exact ⟨hq.2, trivial, List.length_eq_zero_iff.1 hq.1⟩
    have eE : ∀ (v : Int × Int) (a b : Int) (q : List (List UInt8)), (riE o v a b q).2 = true → ∃ c t, (riE o v a b q).1 = ((o : Int), a, b, c, v, t) ∧ formB ((o : Int), a, b, c, v, t) = true ∧ q = (if (o : Int) = 12 ∧ v.1 = 8 then [] else fldW (kdN o 2) c) ++ (if typedB (o : Int) then typW t ++ [] else []) := fun v a b q hq => by
      unfold riE at hq ⊢
      by_cases hb : o ≠ 12 ∨ v.1 ≠ 8
      · rw [if_pos hb] at hq ⊢
        by_cases h1 : (oneF (kdN o 2) q).2.2 = false
        · rw [if_pos h1] at hq; cases hq
        · rw [if_neg h1] at hq ⊢
          obtain ⟨g1, g2, g3⟩ := eH _ _ _ _ _ hq
          refine ⟨_, _, g2, g2 ▸ g1, ?_⟩
          rw [if_neg (by omega), ← g3]
          exact oneF_ok (by simpa using h1)
      · rw [if_neg hb] at hq ⊢
        obtain ⟨g1, g2, g3⟩ := eH _ _ _ _ _ hq
        refine ⟨_, _, g2, g2 ▸ g1, ?_⟩
        rw [if_pos (by omega), List.nil_append, ← g3]
    have eD : ∀ (v : Int × Int) (a b : Int) (q : List (List UInt8)), (riD o v a b q).2 = true → ∃ c t n d, (riD o v a b q).1 = ((o : Int), a, b, c, (n, d), t) ∧ (valued o = false → (n, d) = v) ∧ formB ((o : Int), a, b, c, (n, d), t) = true ∧ q = (if (o : Int) = 9 then [frcL n d] else if valued o then [Lib.itoa n] else []) ++ ((if (o : Int) = 12 ∧ n = 8 then [] else fldW (kdN o 2) c) ++ (if typedB (o : Int) then typW t ++ [] else [])) := fun v a b q hq => by
      unfold riD at hq ⊢
      cases hvl : valued o with
      | true =>
        rw [if_pos hvl] at hq
        rw [if_pos rfl]
        by_cases h1 : q.length = 0
        · rw [if_pos h1] at hq; cases hq
        · rw [if_neg h1] at hq ⊢
          by_cases h2 : (rparF (q.getD 0 [])).2 ≠ 0
          · rw [if_pos h2] at hq; cases hq
          · rw [if_neg h2] at hq ⊢
            obtain ⟨hv, hfr⟩ := rparF_ok (Decidable.not_not.1 h2)
            obtain ⟨⟨n, d⟩, hnd⟩ : ∃ p, (rparF (q.getD 0 [])).1 = p := ⟨_, rfl⟩
            rw [hnd] at hq hv hfr ⊢
            obtain ⟨c, t, g1, g2, g3⟩ := eE _ _ _ _ hq
            refine ⟨c, t, n, d, g1, fun e => absurd e (by simp), g2, ?_⟩
            have hh := head_tail h1
            rw [hh, ← hfr, g3]
            by_cases h9 : (o : Int) = 9
            · rw [if_pos h9]; rfl
            · rw [if_neg h9, if_pos rfl]
              have hvv := ((formB_iff _).1 g2).2.2.2.2.1
              unfold vlB at hvv
              dsimp only at hvv
              simp only [valued, decide_eq_true_eq] at hvl
              have hd1 : d = 1 := by
                rw [if_neg h9] at hvv
                by_cases h10 : (o : Int) = 10 ∨ (o : Int) = 11
                · rw [if_pos h10] at hvv
                  simp only [numB, decide_eq_true_eq] at hvv
                  omega
                · rw [if_neg h10, if_neg (by omega), if_pos (by omega)] at hvv
                  simp only [numB, decide_eq_true_eq] at hvv
                  omega
              subst hd1
              have : frcL n 1 = Lib.itoa n := by unfold frcL; rw [if_neg (by have hv : validF n 1 = true := hv
                                                                             rw [hv]; simp), if_pos rfl]
              show frcL n 1 :: _ = _
              rw [this]; rfl
      | false =>
        rw [hvl] at hq
        rw [if_neg (by simp)] at hq ⊢
        obtain ⟨c, t, g1, g2, g3⟩ := eE _ _ _ _ hq
        obtain ⟨n, d⟩ := v
        refine ⟨c, t, n, d, g1, fun _ => rfl, g2, ?_⟩
        have h9 : ¬ (o : Int) = 9 := fun e => by
          have : o = 9 := by omega
          subst this
          cases hvl
        rw [if_neg h9, if_neg (by simp)]
        exact g3
    have eC : ∀ (v : Int × Int) (q : List (List UInt8)), (riC o v q).2 = true → ∃ a b c t n d, (riC o v q).1 = ((o : Int), a, b, c, (n, d), t) ∧ (valued o = false → (n, d) = v) ∧ formB ((o : Int), a, b, c, (n, d), t) = true ∧ q = fldW (kdN o 0) a ++ (fldW (kdN o 1) b ++ ((if (o : Int) = 9 then [frcL n d] else if valued o then [Lib.itoa n] else []) ++ ((if (o : Int) = 12 ∧ n = 8 then [] else fldW (kdN o 2) c) ++ (if typedB (o : Int) then typW t ++ [] else [])))) := fun v q hq => by
      unfold riC at hq ⊢
      by_cases h1 : (oneF (kdN o 0) q).2.2 = false ∨ (oneF (kdN o 1) (oneF (kdN o 0) q).2.1).2.2 = false
      · rw [if_pos h1] at hq; cases hq
      · rw [if_neg h1] at hq ⊢
        obtain ⟨c, t, n, d, g1, g2, g3, g4⟩ := eD _ _ _ _ hq
        obtain ⟨q1, q2⟩ := not_or.1 h1
        refine ⟨_, _, c, t, n, d, g1, g2, g3, ?_⟩
        rw [← g4, ← oneF_ok (by simpa using q2)]
        exact oneF_ok (by simpa using q1)
    have fin : ∀ (v : Int × Int) (q : List (List UInt8)), (riC o v q).2 = true → (named o = true → ∃ w, v = (opV o w, 1) ∧ r = w :: q) → (named o = false → r = q) → formB (riC o v q).1 = true ∧ rlW (riC o v q).1 = l := fun v q hq hn1 hn2 => by
      obtain ⟨a, b, c, t, n, d, g1, g2, g3, g4⟩ := eC v q hq
      rw [g1]
      refine ⟨g3, ?_⟩
      unfold rlW
      simp only [Int.toNat_natCast]
      rw [hmn, hlt, ← g4]
      congr 1
      cases hnm : named o with
      | true =>
        obtain ⟨w, hv, hr⟩ := hn1 hnm
        rw [if_pos rfl, hr]
        have hnv : valued o = false := by
          unfold named at hnm
          rw [decide_eq_true_eq] at hnm
          rcases hnm with rfl | rfl <;> rfl
        have e := g2 hnv
        rw [hv, Prod.mk.injEq] at e
        have hvv := ((formB_iff _).1 g3).2.2.2.2.1
        unfold vlB at hvv
        dsimp only at hvv
        simp only [named, decide_eq_true_eq] at hnm
        rw [if_neg (by omega), if_neg (by omega)] at hvv
        have : opnL n = w := by
          refine opV_ok e.1.symm ?_
          by_cases h12 : (o : Int) = 12
          · rw [if_pos h12] at hvv
            simp only [Bool.and_eq_true, numB, decide_eq_true_eq] at hvv
            omega
          · rw [if_neg h12, if_neg (by omega), if_pos (by omega)] at hvv
            simp only [numB, decide_eq_true_eq] at hvv
            omega
        rw [this]; rfl
      | false =>
        rw [if_neg (by simp), hn2 hnm]; rfl
    unfold riB at h ⊢
    cases hnm : named o with
    | true =>
      rw [if_pos hnm] at h
      rw [if_pos rfl]
      by_cases h1 : r.length = 0
      · rw [if_pos h1] at h; cases h
      · rw [if_neg h1] at h ⊢
        exact fin _ _ h (fun _ => ⟨_, rfl, head_tail h1⟩) (fun e => by rw [hnm] at e; cases e)
    | false =>
      rw [hnm] at h
      rw [if_neg (by simp)] at h ⊢
      exact fin _ _ h (fun e => by rw [hnm] at e; cases e) (fun _ => rfl)
theorem riF_ok {s : List UInt8} (h : (riF s).2 = true) : formB (riF s).1 = true ∧ lineL (riF s).1 = s := by
  unfold riF at h ⊢
  obtain ⟨h1, h2⟩ := riA_ok (cutL_ne 32 false s) h
  refine ⟨h1, ?_⟩
  rw [← lineW_join, lineW_rlW _ ((formB_iff _).1 h1).1, h2]
  exact join_cutL 32 s
end Go.Proofs.YtlglfdhiopnglaaGreatDoor
end
