/-
  Substitution in forms with small numbers, in plain Lean.
-/
import Derived.Test.YtpclbgaaoednnaaLinQ2
import Derived.Test.YtpclbgaaoednnaaLinSu
namespace Go.Proofs.Ytpclbgaaoednnaa
open Go.RowKit
set_option linter.unusedVariables false
set_option linter.unusedSimpArgs false

def bdAll (l : List Mono) : Prop := ∀ m ∈ l, -1152921504606846976 ≤ m.2 ∧ m.2 ≤ 1152921504606846976
theorem bdAll_cons {m : Mono} {l : List Mono} (h : bdAll (m :: l)) : (-1152921504606846976 ≤ m.2 ∧ m.2 ≤ 1152921504606846976) ∧ bdAll l := ⟨h m (by simp), fun x hx => h x (by simp [hx])⟩
theorem stepA_bd (acc : List Mono × Bool) (s : ByteArray) (x y : Int) (hx : -1152921504606846976 ≤ x ∧ x ≤ 1152921504606846976) (hy : -1152921504606846976 ≤ y ∧ y ≤ 1152921504606846976) :
    stepA acc s x y = (acc.1 ++ putM s (x + y) [], acc.2) := by
  have hw : wrap64 (x + y) = x + y := by unfold wrap64; omega
  have hf : fitB (x + y) = true := fit_true (by omega)
  unfold stepA putM
  rw [hw, hf, Bool.and_true]
  split <;> simp
theorem merge_bd (l l' : List Mono) (acc : List Mono × Bool) (h : bdAll l) (h' : bdAll l') : mergeF l l' acc = (acc.1 ++ sumM l l', acc.2) := by
  induction l, l', acc using mergeF.induct with
  | case1 acc => rw [mergeF, sumM]; simp
  | case2 m r acc ih =>
    obtain ⟨h1, h2⟩ := bdAll_cons h
    rw [mergeF, ih h2 h', stepA_bd _ _ _ _ h1 ⟨by omega, by omega⟩, sumM, Int.add_zero]
    exact Prod.ext (put_app _ _ _ _).symm rfl
  | case3 m' r' acc ih =>
    obtain ⟨h1, h2⟩ := bdAll_cons h'
    rw [mergeF, ih h h2, stepA_bd _ _ _ _ ⟨by omega, by omega⟩ h1, sumM, Int.zero_add]
    exact Prod.ext (put_app _ _ _ _).symm rfl
  | case4 m r m' r' acc hc ih =>
    obtain ⟨h1, h2⟩ := bdAll_cons h
    rw [mergeF, if_pos hc, ih h2 h', stepA_bd _ _ _ _ h1 ⟨by omega, by omega⟩, sumM, if_pos hc, Int.add_zero]
    exact Prod.ext (put_app _ _ _ _).symm rfl
  | case5 m r m' r' acc hc hd ih =>
    obtain ⟨h1, h2⟩ := bdAll_cons h'
    rw [mergeF, if_neg hc, if_pos hd, ih h h2, stepA_bd _ _ _ _ ⟨by omega, by omega⟩ h1, sumM, if_neg hc, if_pos hd, Int.zero_add]
    exact Prod.ext (put_app _ _ _ _).symm rfl
  | case6 m r m' r' acc hc hd ih =>
    obtain ⟨h1, h2⟩ := bdAll_cons h
    obtain ⟨h3, h4⟩ := bdAll_cons h'
    rw [mergeF, if_neg hc, if_neg hd, ih h2 h4, stepA_bd _ _ _ _ h1 h3, sumM, if_neg hc, if_neg hd]
    exact Prod.ext (put_app _ _ _ _).symm rfl

/-- No monomial of a name that stands before. -/
theorem no_name (s : List UInt8) : ∀ (r : List Mono) (t : List UInt8), (t = s ∨ Op.bytesLess s t = true) → okFrom (some t) r = true → (∀ a, byF s r a = a) ∧ restL s r = r
  | [], _, _, _ => ⟨fun _ => rfl, rfl⟩
  | m :: r, t, ht, h => by
    obtain ⟨h1, h2, h3, h4⟩ := (okFrom_cons _ _ _).1 h
    have hl : Op.bytesLess s m.1.toList = true := by
      rcases ht with rfl | ht
      · exact h3
      · exact bl_trans _ _ _ ht h3
    have hne : (m.1.toList == s) = false := by
      rw [← Bool.not_eq_true]
      intro e
      have e' : m.1.toList = s := by simpa using e
      rw [e', bl_irrefl] at hl; cases hl
    obtain ⟨i1, i2⟩ := no_name s r m.1.toList (Or.inr hl) h4
    refine ⟨fun a => ?_, ?_⟩
    · show byF s r (if m.1.toList == s then m.2 else a) = a
      rw [hne]; exact i1 a
    · show (m :: r).filter _ = _
      rw [List.filter_cons, if_pos (by rw [hne]; rfl)]
      exact congrArg (m :: ·) i2
theorem has_name (s : List UInt8) : ∀ (r : List Mono) (t : List UInt8), okFrom (some t) r = true → byF s r 0 ≠ 0 → Op.bytesLess t s = true
  | [], _, _, h => absurd rfl h
  | m :: r, t, h, g => by
    obtain ⟨h1, h2, h3, h4⟩ := (okFrom_cons _ _ _).1 h
    cases hc : (m.1.toList == s)
    · have : byF s (m :: r) 0 = byF s r 0 := by show byF s r (if m.1.toList == s then m.2 else 0) = _; rw [hc]; rfl
      rw [this] at g
      exact bl_trans _ _ _ h3 (has_name s r _ h4 g)
    · have e' : m.1.toList = s := by simpa using hc
      rw [← e']; exact h3
theorem rest_cons (s : List UInt8) (m : Mono) (r : List Mono) : restL s (m :: r) = if m.1.toList == s then restL s r else m :: restL s r := by
  show (m :: r).filter _ = _
  rw [List.filter_cons]
  cases m.1.toList == s <;> rfl
theorem by_cons (s : List UInt8) (m : Mono) (r : List Mono) (a : Int) : byF s (m :: r) a = byF s r (if m.1.toList == s then m.2 else a) := rfl
theorem rest_ok (s : List UInt8) : ∀ (l : List Mono) (p : Option (List UInt8)), okFrom p l = true → okFrom p (restL s l) = true
  | [], _, _ => rfl
  | m :: r, p, h => by
    obtain ⟨h1, h2, h3, h4⟩ := (okFrom_cons _ _ _).1 h
    rw [rest_cons]
    split
    · exact okFrom_weak h3 _ (rest_ok s r _ h4)
    · exact (okFrom_cons _ _ _).2 ⟨h1, h2, h3, rest_ok s r _ h4⟩

theorem sum_nil : ∀ (l : List Mono) (p : Option (List UInt8)), okFrom p l = true → sumM l [] = l
  | [], _, _ => by rw [sumM]
  | m :: r, p, h => by
    obtain ⟨h1, h2, h3, h4⟩ := (okFrom_cons _ _ _).1 h
    rw [sumM, sum_nil r _ h4]
    unfold putM
    rw [if_neg h2]
theorem sum_self (i : ByteArray) : ∀ (l : List Mono) (p : Option (List UInt8)), okFrom p l = true → sumM (restL i.toList l) (if byF i.toList l 0 = 0 then [] else [(i, byF i.toList l 0)]) = l
  | [], _, _ => by
    show sumM [] (if (0 : Int) = 0 then [] else _) = []
    rw [if_pos rfl, sumM]
  | m :: r, p, h => by
    obtain ⟨h1, h2, h3, h4⟩ := (okFrom_cons _ _ _).1 h
    rw [rest_cons, by_cons]
    cases hc : (m.1.toList == i.toList)
    · simp only [Bool.false_eq_true, if_false]
      have ih := sum_self i r _ h4
      by_cases hy : byF i.toList r 0 = 0
      · rw [if_pos hy] at ih ⊢
        rw [sumM, ih]
        unfold putM
        rw [if_neg h2]
      · rw [if_neg hy] at ih ⊢
        rw [sumM, if_pos (has_name _ _ _ h4 hy), ih]
        unfold putM
        rw [if_neg h2]
    · have e' : m.1.toList = i.toList := by simpa using hc
      obtain ⟨i1, i2⟩ := no_name i.toList r m.1.toList (Or.inl e') h4
      simp only [if_true]
      rw [i1, i2, if_neg h2]
      have hm : (i, m.2) = m := by
        obtain ⟨s, b⟩ := m
        exact Prod.ext (toList_inj e').symm rfl
      cases r with
      | nil =>
        rw [sumM, sumM]
        unfold putM
        rw [if_neg h2, hm]
      | cons m' r' =>
        obtain ⟨g1, g2, g3, g4⟩ := (okFrom_cons _ _ _).1 h4
        have hl : Op.bytesLess i.toList m'.1.toList = true := by rw [← e']; exact g3
        rw [sumM, if_neg (by rw [bl_asymm _ _ hl]; simp), if_pos hl, sum_nil _ _ h4]
        unfold putM
        rw [if_neg h2, hm]

theorem sumE_shift (env : List Mono) : ∀ (l : List Mono) (a c u : Int), sumE env l (a + c) = some u → sumE env l a = some (u - c)
  | [], a, c, u, h => by
    have h1 : some (a + c) = some u := h
    cases h1
    show some a = _
    congr 1; omega
  | m :: r, a, c, u, h => by
    obtain ⟨v, h1, h2⟩ := sumE_some h
    rw [sumE_cons, h1]
    simp only
    exact sumE_shift env r _ c u (by rw [← h2]; congr 1; omega)
theorem rest_value (i : ByteArray) (v : Int) (env : List Mono) : ∀ (l : List Mono) (p : Option (List UInt8)) (a u : Int), okFrom p l = true → sumE ((i, v) :: env) l a = some u → sumE env (restL i.toList l) a = some (u - byF i.toList l 0 * v)
  | [], _, a, u, _, h => by
    have h1 : some a = some u := h
    cases h1
    show some a = some (a - 0 * v)
    rw [Int.zero_mul, Int.sub_zero]
  | m :: r, p, a, u, ho, h => by
    obtain ⟨h1, h2, h3, h4⟩ := (okFrom_cons _ _ _).1 ho
    obtain ⟨x, k1, k2⟩ := sumE_some h
    rw [rest_cons, by_cons]
    cases hc : (m.1.toList == i.toList)
    · have hl : lookE ((i, v) :: env) m.1.toList = lookE env m.1.toList := by
        show (if i.toList == m.1.toList then some v else lookE env m.1.toList) = _
        rw [beq_swap, hc]; rfl
      rw [hl] at k1
      simp only [Bool.false_eq_true, if_false]
      rw [sumE_cons, k1]
      exact rest_value i v env r _ _ u h4 k2
    · have e' : m.1.toList = i.toList := by simpa using hc
      obtain ⟨i1, i2⟩ := no_name i.toList r m.1.toList (Or.inl e') h4
      have hl : lookE ((i, v) :: env) m.1.toList = some v := by
        show (if i.toList == m.1.toList then some v else _) = _
        rw [e']; simp
      rw [hl] at k1
      cases k1
      have ih := rest_value i v env r _ _ u h4 k2
      rw [i1, Int.zero_mul, Int.sub_zero] at ih
      simp only [if_true]
      rw [i1]
      exact sumE_shift env _ _ _ _ ih
theorem scale_value (env : List Mono) (y : Int) : ∀ (l : List Mono) (a u : Int), allFit y l = true → sumE env l a = some u → sumE env (outL y l) (a * y) = some (u * y)
  | [], a, u, _, h => by
    have h1 : some a = some u := h
    cases h1; rfl
  | m :: r, a, u, hf, h => by
    obtain ⟨v, h1, h2⟩ := sumE_some h
    have hf2 : fitB (m.2 * y) = true ∧ allFit y r = true := Bool.and_eq_true_iff.1 hf
    have hm : (mulR m.2 y).1 = m.2 * y := by unfold mulR; rw [hf2.1]; rfl
    rw [outL_cons, sumE_cons, h1, hm]
    simp only
    rw [← scale_value env y r _ u hf2.2 h2]
    congr 1
    rw [Int.add_mul, Int.mul_right_comm]
theorem scale_ok (y : Int) (hy : y ≠ 0) : ∀ (l : List Mono) (p : Option (List UInt8)), allFit y l = true → okFrom p l = true → okFrom p (outL y l) = true
  | [], _, _, _ => rfl
  | m :: r, p, hf, g => by
    obtain ⟨g1, g2, g3, g4⟩ := (okFrom_cons _ _ _).1 g
    have hf2 : fitB (m.2 * y) = true ∧ allFit y r = true := Bool.and_eq_true_iff.1 hf
    have hm : (mulR m.2 y).1 = m.2 * y := by unfold mulR; rw [hf2.1]; rfl
    rw [outL_cons, hm]
    exact (okFrom_cons _ _ _).2 ⟨g1, Int.mul_ne_zero g2 hy, g3, scale_ok y hy r _ hf2.2 g4⟩
theorem scale_fit {y : Int} (hy : -1048576 ≤ y ∧ y ≤ 1048576) : ∀ l : List Mono, nearAll l = true → allFit y l = true
  | [], _ => rfl
  | m :: r, h => by
    obtain ⟨h1, h2⟩ := (nearAll_cons _ _).1 h
    have := mul_near ((near_iff _).1 h1) hy
    show (fitB (m.2 * y) && allFit y r) = true
    rw [fit_true (by omega), scale_fit hy r h2]; rfl
theorem scale_bd {y : Int} (hy : -1048576 ≤ y ∧ y ≤ 1048576) {l : List Mono} (h : nearAll l = true) : ∀ m ∈ outL y l, -1099511627776 ≤ m.2 ∧ m.2 ≤ 1099511627776 := fun m hm => by
  obtain ⟨x, hx, rfl⟩ := List.mem_map.1 hm
  have h1 := (near_iff _).1 (List.all_eq_true.1 h x hx)
  have h2 := mul_near h1 hy
  have : (mulR x.2 y).1 = x.2 * y := by unfold mulR; rw [fit_true (by omega)]; rfl
  show -1099511627776 ≤ (mulR x.2 y).1 ∧ (mulR x.2 y).1 ≤ 1099511627776
  rw [this]; exact h2
theorem by_near (s : List UInt8) : ∀ (l : List Mono) (a : Int), nearAll l = true → (-1048576 ≤ a ∧ a ≤ 1048576) → -1048576 ≤ byF s l a ∧ byF s l a ≤ 1048576
  | [], a, _, h => h
  | m :: r, a, h, g => by
    obtain ⟨h1, h2⟩ := (nearAll_cons _ _).1 h
    rw [by_cons]
    refine by_near s r _ h2 ?_
    split
    · exact (near_iff _).1 h1
    · exact g
theorem rest_near (s : List UInt8) (l : List Mono) (h : nearAll l = true) : nearAll (restL s l) = true :=
  List.all_eq_true.2 fun m hm => List.all_eq_true.1 h m (List.mem_filter.1 hm).1
theorem bd_near {l : List Mono} (h : nearAll l = true) : bdAll l := fun m hm => by
  have := (near_iff _).1 (List.all_eq_true.1 h m hm)
  omega

/-- What Substitute returns, where all numbers are small. -/
theorem substF_near {K K' : Int} {l l' : List Mono} {s : List UInt8} (hs : nameB s = true) (hK : nearB K = true) (hK' : nearB K' = true) (hl : nearAll l = true) (hl' : nearAll l' = true) (ho : okL l = true) (ho' : okL l' = true) :
    substF K l s K' l' = (K + K' * byF s l 0, sumM (restL s l) (if byF s l 0 = 0 then [] else outL (byF s l 0) l'), 0) ∧ okL (sumM (restL s l) (if byF s l 0 = 0 then [] else outL (byF s l 0) l')) = true := by
  obtain ⟨y, hy⟩ : ∃ y, byF s l 0 = y := ⟨_, rfl⟩
  have hyn := by_near s l 0 hl ⟨by omega, by omega⟩
  rw [hy] at hyn
  obtain ⟨k1, k2⟩ := (near_iff _).1 hK
  have hm := mul_near ((near_iff _).1 hK') hyn
  have hsc : scaleF K' l' y = (K' * y, if y = 0 then [] else outL y l', 0) := by
    unfold scaleF
    rw [ho', if_pos rfl]
    by_cases h0 : y = 0
    · rw [if_pos h0, if_pos h0, h0, Int.mul_zero]
    · rw [if_neg h0, if_neg h0, fit_true (by omega), scale_fit hyn l' hl']; rfl
  have hok2 : okL (if y = 0 then [] else outL y l') = true := by
    split
    · rfl
    · rename_i h0; exact scale_ok y h0 l' none (scale_fit hyn l' hl') ho'
  have hb2 : bdAll (if y = 0 then [] else outL y l') := by
    split
    · intro m hm; cases hm
    · intro m hm
      have := scale_bd hyn hl' m hm
      omega
  have hr := rest_ok s l none ho
  unfold substF
  rw [ho, hs, ho', hy, hsc]
  simp only [Bool.and_self, if_true, ne_eq, not_true_eq_false, if_false]
  unfold addF
  rw [show okL (restL s l) = true from hr, hok2, merge_bd _ _ _ (bd_near (rest_near s l hl)) hb2, fit_true (by omega : -9223372036854775808 ≤ K + K' * y ∧ K + K' * y ≤ 9223372036854775807)]
  rw [show wrap64 (K + K' * y) = K + K' * y by unfold wrap64; omega]
  exact ⟨rfl, ok_sumM _ _ none hr hok2⟩
end Go.Proofs.Ytpclbgaaoednnaa
