/-
  Forms with small numbers: their sums, negations and values, in plain Lean.
-/
import Derived.Test.YtpclbgaaoednnaaLinQ
namespace Go.Proofs.Ytpclbgaaoednnaa
open Go.RowKit
set_option linter.unusedVariables false
set_option linter.unusedSimpArgs false

theorem near_sum {K K' : Int} (h : nearB K = true) (h' : nearB K' = true) : wrap64 (K + K') = K + K' ∧ fitB (K + K') = true := by
  obtain ⟨h1, h2⟩ := (near_iff _).1 h
  obtain ⟨h3, h4⟩ := (near_iff _).1 h'
  exact ⟨by unfold wrap64; omega, fit_true (by omega)⟩
theorem addF_near {K K' : Int} {l l' : List Mono} (h : nearB K = true) (h' : nearB K' = true) (hl : nearAll l = true) (hl' : nearAll l' = true) (ho : okL l = true) (ho' : okL l' = true) :
    addF K l K' l' = (K + K', sumM l l', 0) := by
  obtain ⟨h1, h2⟩ := near_sum h h'
  unfold addF
  rw [ho, ho', merge_sum l l' _ hl hl', h1, h2]
  rfl

theorem mulR_neg {b : Int} (h : nearB b = true) : (mulR b (-1)).1 = -b ∧ fitB (b * -1) = true := by
  obtain ⟨h1, h2⟩ := (near_iff _).1 h
  have hf : fitB (b * -1) = true := fit_true (by omega)
  refine ⟨?_, hf⟩
  unfold mulR
  rw [hf]
  show b * -1 = -b
  omega
theorem near_neg {b : Int} (h : nearB b = true) : nearB (-b) = true := by
  obtain ⟨h1, h2⟩ := (near_iff _).1 h
  exact (near_iff _).2 (by omega)

theorem outL_cons (y : Int) (m : Mono) (l : List Mono) : outL y (m :: l) = (m.1, (mulR m.2 y).1) :: outL y l := rfl
theorem neg_near : ∀ l : List Mono, nearAll l = true → nearAll (outL (-1) l) = true
  | [], _ => rfl
  | m :: r, h => by
    obtain ⟨h1, h2⟩ := (nearAll_cons _ _).1 h
    rw [outL_cons, (mulR_neg h1).1]
    exact (nearAll_cons _ _).2 ⟨near_neg h1, neg_near r h2⟩
theorem neg_fit : ∀ l : List Mono, nearAll l = true → allFit (-1) l = true
  | [], _ => rfl
  | m :: r, h => by
    obtain ⟨h1, h2⟩ := (nearAll_cons _ _).1 h
    show (fitB (m.2 * -1) && allFit (-1) r) = true
    rw [(mulR_neg h1).2, neg_fit r h2]; rfl
theorem neg_ok : ∀ (l : List Mono) (p : Option (List UInt8)), nearAll l = true → okFrom p l = true → okFrom p (outL (-1) l) = true
  | [], _, _, _ => rfl
  | m :: r, p, h, g => by
    obtain ⟨h1, h2⟩ := (nearAll_cons _ _).1 h
    obtain ⟨g1, g2, g3, g4⟩ := (okFrom_cons _ _ _).1 g
    rw [outL_cons, (mulR_neg h1).1]
    exact (okFrom_cons _ _ _).2 ⟨g1, by show -m.2 ≠ 0; omega, g3, neg_ok r _ h2 g4⟩
theorem neg_sum : ∀ l : List Mono, nearAll l = true → sumM l (outL (-1) l) = []
  | [], _ => by show sumM [] [] = []; rw [sumM]
  | m :: r, h => by
    obtain ⟨h1, h2⟩ := (nearAll_cons _ _).1 h
    rw [outL_cons, (mulR_neg h1).1, sumM, if_neg (by rw [bl_irrefl]; simp), if_neg (by rw [bl_irrefl]; simp), neg_sum r h2]
    unfold putM
    rw [if_pos (by omega)]
theorem scaleF_neg {K : Int} {l : List Mono} (h : nearB K = true) (hl : nearAll l = true) (ho : okL l = true) : scaleF K l (-1) = (-K, outL (-1) l, 0) := by
  obtain ⟨h1, h2⟩ := (near_iff _).1 h
  unfold scaleF
  rw [ho, if_pos rfl, if_neg (by decide), (mulR_neg h).2, neg_fit l hl]
  rw [show K * -1 = -K by omega]; rfl

theorem look_near : ∀ (env : List Mono) (s : List UInt8) (v : Int), nearAll env = true → lookE env s = some v → -1048576 ≤ v ∧ v ≤ 1048576
  | [], _, _, _, h => by cases h
  | m :: r, s, v, h, g => by
    obtain ⟨h1, h2⟩ := (nearAll_cons _ _).1 h
    unfold lookE at g
    split at g
    · cases g; exact (near_iff _).1 h1
    · exact look_near r s v h2 g
theorem mul_near {b v : Int} (h : -1048576 ≤ b ∧ b ≤ 1048576) (g : -1048576 ≤ v ∧ v ≤ 1048576) : -1099511627776 ≤ b * v ∧ b * v ≤ 1099511627776 := by
  have h1 : (b * v).natAbs ≤ 1048576 * 1048576 := by
    rw [Int.natAbs_mul]
    exact Nat.mul_le_mul (by omega) (by omega)
  omega
theorem sumE_bd (env : List Mono) (he : nearAll env = true) : ∀ (l : List Mono) (a u : Int), nearAll l = true → sumE env l a = some u → a - (l.length : Int) * 1099511627776 ≤ u ∧ u ≤ a + (l.length : Int) * 1099511627776
  | [], a, u, _, h => by
    have h1 : some a = some u := h
    cases h1
    simp
  | m :: r, a, u, hl, h => by
    obtain ⟨h1, h2⟩ := (nearAll_cons _ _).1 hl
    obtain ⟨v, h3, h4⟩ := sumE_some h
    have h5 := mul_near ((near_iff _).1 h1) (look_near env _ v he h3)
    have h6 := sumE_bd env he r _ u h2 h4
    have h7 : ((m :: r).length : Int) = (r.length : Int) + 1 := by simp
    rw [h7]
    omega

theorem eval_near {K u : Int} {l env : List Mono} (h : nearB K = true) (hl : nearAll l = true) (hn : l.length ≤ 40) (ho : okL l = true) (he : nearAll env = true) (hs : sumE env l K = some u) :
    evalF K l env = (u, 0) ∧ -4503599627370496 ≤ u ∧ u ≤ 4503599627370496 := by
  obtain ⟨h1, h2⟩ := (near_iff _).1 h
  have hb := sumE_bd env he l K u hl hs
  have hb2 : -4503599627370496 ≤ u ∧ u ≤ 4503599627370496 := by omega
  refine ⟨?_, hb2⟩
  unfold evalF
  rw [ho, hs]
  show (if fitB u then (u, 0) else (0, 3)) = (u, 0)
  rw [fit_true (by omega), if_pos rfl]
theorem eval_none {K : Int} {l env : List Mono} (ho : okL l = true) (hs : sumE env l K = none) : evalF K l env = (0, 9) := by
  unfold evalF
  rw [ho, hs]; rfl
theorem eval_sum {K K' u u' : Int} {l l' env : List Mono} (ho : okL l = true) (ho' : okL l' = true) (hs : sumE env l K = some u) (hs' : sumE env l' K' = some u')
    (b : -4503599627370496 ≤ u ∧ u ≤ 4503599627370496) (b' : -4503599627370496 ≤ u' ∧ u' ≤ 4503599627370496) : evalF (K + K') (sumM l l') env = (u + u', 0) := by
  unfold evalF
  rw [show okL (sumM l l') = true from ok_sumM l l' none ho ho', sum_sumM env l l' K K' u u' hs hs']
  show (if fitB (u + u') then (u + u', 0) else (0, 3)) = (u + u', 0)
  rw [fit_true (by omega), if_pos rfl]

theorem sumM_len (l l' : List Mono) : (sumM l l').length ≤ l.length + l'.length := by
  have hp : ∀ (s : ByteArray) (c : Int) (r : List Mono), (putM s c r).length ≤ r.length + 1 := fun s c r => by unfold putM; split <;> simp
  induction l, l' using sumM.induct with
  | case1 => simp [sumM]
  | case2 m r ih => rw [sumM]; have := hp m.1 m.2 (sumM r []); simp only [List.length_cons] at *; omega
  | case3 m' r' ih => rw [sumM]; have := hp m'.1 m'.2 (sumM [] r'); simp only [List.length_cons] at *; omega
  | case4 m r m' r' hc ih => rw [sumM, if_pos hc]; have := hp m.1 m.2 (sumM r (m' :: r')); simp only [List.length_cons] at *; omega
  | case5 m r m' r' hc hd ih => rw [sumM, if_neg hc, if_pos hd]; have := hp m'.1 m'.2 (sumM (m :: r) r'); simp only [List.length_cons] at *; omega
  | case6 m r m' r' hc hd ih => rw [sumM, if_neg hc, if_neg hd]; have := hp m.1 (m.2 + m'.2) (sumM r r'); simp only [List.length_cons] at *; omega

def smallAll (l : List Mono) : Prop := ∀ m ∈ l, -2097152 ≤ m.2 ∧ m.2 ≤ 2097152
theorem sumM_small (l l' : List Mono) (h : nearAll l = true) (h' : nearAll l' = true) : smallAll (sumM l l') := by
  have hp : ∀ (s : ByteArray) (c : Int) (r : List Mono), (-2097152 ≤ c ∧ c ≤ 2097152) → smallAll r → smallAll (putM s c r) := fun s c r hc hr => by
    unfold putM
    split
    · exact hr
    · intro m hm
      rcases List.mem_cons.1 hm with rfl | hm
      · exact hc
      · exact hr m hm
  induction l, l' using sumM.induct with
  | case1 => rw [sumM]; intro m hm; cases hm
  | case2 m r ih =>
    obtain ⟨h1, h2⟩ := (nearAll_cons _ _).1 h
    have := (near_iff _).1 h1
    rw [sumM]; exact hp _ _ _ (by omega) (ih h2 h')
  | case3 m' r' ih =>
    obtain ⟨h1, h2⟩ := (nearAll_cons _ _).1 h'
    have := (near_iff _).1 h1
    rw [sumM]; exact hp _ _ _ (by omega) (ih h h2)
  | case4 m r m' r' hc ih =>
    obtain ⟨h1, h2⟩ := (nearAll_cons _ _).1 h
    have := (near_iff _).1 h1
    rw [sumM, if_pos hc]; exact hp _ _ _ (by omega) (ih h2 h')
  | case5 m r m' r' hc hd ih =>
    obtain ⟨h1, h2⟩ := (nearAll_cons _ _).1 h'
    have := (near_iff _).1 h1
    rw [sumM, if_neg hc, if_pos hd]; exact hp _ _ _ (by omega) (ih h h2)
  | case6 m r m' r' hc hd ih =>
    obtain ⟨h1, h2⟩ := (nearAll_cons _ _).1 h
    obtain ⟨h3, h4⟩ := (nearAll_cons _ _).1 h'
    have := (near_iff _).1 h1
    have := (near_iff _).1 h3
    rw [sumM, if_neg hc, if_neg hd]; exact hp _ _ _ (by omega) (ih h2 h4)
theorem rng_of_mem {l : List Mono} (h : ∀ m ∈ l, In64 m.2) : Rng l := fun k hk => by
  rw [List.getD_eq_getElem?_getD, List.getElem?_eq_getElem hk]
  exact h _ (List.getElem_mem hk)
theorem rng_small {l : List Mono} (h : smallAll l) : Rng l := rng_of_mem fun m hm => by
  have := h m hm
  unfold In64; omega
theorem rng_near {l : List Mono} (h : nearAll l = true) : Rng l := rng_of_mem fun m hm => by
  have := (near_iff _).1 (List.all_eq_true.1 h m hm)
  unfold In64; omega
end Go.Proofs.Ytpclbgaaoednnaa
