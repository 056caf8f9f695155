/-
  Combine: the plain function; a linear combination holds wherever all of its constraints hold.
-/
import Derived.Test.YtahlecmlhdikjaaDoorCoCp
import Derived.Test.YtahlecmlhdikjaaDoorGd
import Derived.Test.YtahlecmlhdikjaaDoorGc
namespace Go.Proofs.YtahlecmlhdikjaaDoor
open Go.RowKit
set_option linter.unusedVariables false
set_option linter.unusedSimpArgs false

def chkF : List Con → List Int → Int
  | c :: r, b :: bs => if okL c.2.1 then (if decide (b < 0) && !c.2.2 then 1 else chkF r bs) else 1
  | _, _ => 0
def cmbF : List Con → List Int → Con → Con × Int
  | c :: r, b :: bs, o =>
    if (scaleF c.1 c.2.1 b).2.2 ≠ 0 then (c0, (scaleF c.1 c.2.1 b).2.2)
    else if (addF o.1 o.2.1 (scaleF c.1 c.2.1 b).1 (scaleF c.1 c.2.1 b).2.1).2.2 ≠ 0 then (c0, (addF o.1 o.2.1 (scaleF c.1 c.2.1 b).1 (scaleF c.1 c.2.1 b).2.1).2.2)
    else cmbF r bs ((addF o.1 o.2.1 (scaleF c.1 c.2.1 b).1 (scaleF c.1 c.2.1 b).2.1).1, (addF o.1 o.2.1 (scaleF c.1 c.2.1 b).1 (scaleF c.1 c.2.1 b).2.1).2.1, o.2.2 && (c.2.2 || decide (b = 0)))
  | _, _, o => (o, 0)
def combF (cs : List Con) (bs : List Int) : Con × Int :=
  if cs.length ≠ bs.length then (c0, 1) else if chkF cs bs ≠ 0 then (c0, chkF cs bs) else cmbF cs bs (0, [], true)

theorem stepA_ok (acc : List Mono × Bool) (s : ByteArray) (x y : Int) (h : (stepA acc s x y).2 = true) : stepA acc s x y = (acc.1 ++ putM s (x + y) [], true) ∧ acc.2 = true := by
  unfold stepA at h ⊢
  obtain ⟨h1, h2⟩ := Bool.and_eq_true_iff.1 h
  have hw : wrap64 (x + y) = x + y := by
    unfold fitB at h2
    obtain ⟨a, b⟩ := Bool.and_eq_true_iff.1 h2
    have a := of_decide_eq_true a
    have b := of_decide_eq_true b
    unfold wrap64; omega
  rw [hw, h1, h2]
  unfold putM
  refine ⟨?_, rfl⟩
  split <;> simp
theorem merge_ok (l l' : List Mono) (acc : List Mono × Bool) (h : (mergeF l l' acc).2 = true) : mergeF l l' acc = (acc.1 ++ sumM l l', true) ∧ acc.2 = true := by
  induction l, l', acc using mergeF.induct with
  | case1 acc =>
    rw [mergeF] at h ⊢
    rw [sumM]
    exact ⟨Prod.ext (by simp) h, h⟩
  | case2 m r acc ih =>
    rw [mergeF] at h ⊢
    obtain ⟨i1, i2⟩ := ih h
    obtain ⟨s1, s2⟩ := stepA_ok _ _ _ _ i2
    rw [i1, s1, sumM, Int.add_zero]
    exact ⟨Prod.ext (put_app _ _ _ _).symm rfl, s2⟩
  | case3 m' r' acc ih =>
    rw [mergeF] at h ⊢
    obtain ⟨i1, i2⟩ := ih h
    obtain ⟨s1, s2⟩ := stepA_ok _ _ _ _ i2
    rw [i1, s1, sumM, Int.zero_add]
    exact ⟨Prod.ext (put_app _ _ _ _).symm rfl, s2⟩
  | case4 m r m' r' acc hc ih =>
    rw [mergeF, if_pos hc] at h ⊢
    obtain ⟨i1, i2⟩ := ih h
    obtain ⟨s1, s2⟩ := stepA_ok _ _ _ _ i2
    rw [i1, s1, sumM, if_pos hc, Int.add_zero]
    exact ⟨Prod.ext (put_app _ _ _ _).symm rfl, s2⟩
  | case5 m r m' r' acc hc hd ih =>
    rw [mergeF, if_neg hc, if_pos hd] at h ⊢
    obtain ⟨i1, i2⟩ := ih h
    obtain ⟨s1, s2⟩ := stepA_ok _ _ _ _ i2
    rw [i1, s1, sumM, if_neg hc, if_pos hd, Int.zero_add]
    exact ⟨Prod.ext (put_app _ _ _ _).symm rfl, s2⟩
  | case6 m r m' r' acc hc hd ih =>
    rw [mergeF, if_neg hc, if_neg hd] at h ⊢
    obtain ⟨i1, i2⟩ := ih h
    obtain ⟨s1, s2⟩ := stepA_ok _ _ _ _ i2
    rw [i1, s1, sumM, if_neg hc, if_neg hd]
    exact ⟨Prod.ext (put_app _ _ _ _).symm rfl, s2⟩
theorem scale_val (env : List Mono) (y : Int) : ∀ (l : List Mono) (a u : Int), allFit y l = true → sumE env l a = some u → sumE env (outL y l) (a * y) = some (u * y)
  | [], a, u, _, h => by
    have h1 : some a = some u := h
    cases h1; rfl
  | m :: r, a, u, hf, h => by
    obtain ⟨v, h1, h2⟩ := sumE_some h
    have hf2 : fitB (m.2 * y) = true ∧ allFit y r = true := Bool.and_eq_true_iff.1 hf
    have hm : (mulR m.2 y).1 = m.2 * y := by unfold mulR; rw [hf2.1]; rfl
    show sumE env ((m.1, (mulR m.2 y).1) :: outL y r) (a * y) = _
    rw [sumE_cons, h1, hm]
    simp only
    rw [← scale_val env y r _ u hf2.2 h2]
    congr 1
    rw [Int.add_mul, Int.mul_right_comm]
theorem add_val {env : List Mono} {K K' u u' : Int} {l l' : List Mono} (h : (addF K l K' l').2.2 = 0) (h1 : sumE env l K = some u) (h2 : sumE env l' K' = some u') :
    sumE env (addF K l K' l').2.1 (addF K l K' l').1 = some (u + u') := by
  unfold addF at h ⊢
  split at h
  · rename_i ho
    rw [if_pos ho]
    split at h
    · rename_i hm
      rw [if_pos hm]
      obtain ⟨e1, e2⟩ := merge_ok _ _ _ hm
      rw [e1]
      have hw : wrap64 (K + K') = K + K' := by
        have e2 : fitB (K + K') = true := e2
        unfold fitB at e2
        obtain ⟨a, b⟩ := Bool.and_eq_true_iff.1 e2
        have a := of_decide_eq_true a
        have b := of_decide_eq_true b
        unfold wrap64; omega
      dsimp only
      rw [hw, List.nil_append]
      exact sum_sumM env l l' K K' u u' h1 h2
    · exact absurd h (by decide)
  · exact absurd h (by decide)
theorem sc_val {env : List Mono} {K y u : Int} {l : List Mono} (h : (scaleF K l y).2.2 = 0) (h1 : sumE env l K = some u) :
    sumE env (scaleF K l y).2.1 (scaleF K l y).1 = some (u * y) := by
  unfold scaleF at h ⊢
  split at h
  · rename_i ho
    rw [if_pos ho]
    split at h
    · rename_i hy
      rw [if_pos hy, hy, Int.mul_zero]; rfl
    · rename_i hy
      rw [if_neg hy]
      split at h
      · rename_i hf
        rw [if_pos hf]
        exact scale_val env y l K u (Bool.and_eq_true_iff.1 hf).2 h1
      · exact absurd h (by decide)
  · exact absurd h (by decide)

theorem holdsB_iff (u : Int) (e : Bool) : holdsB u e = true ↔ u = 0 ∨ (0 < u ∧ e = false) := by
  unfold holdsB
  cases e <;> simp

/-- The list's constraints all hold. -/
def AllHold (env : List Mono) (cs : List Con) : Prop := ∀ c ∈ cs, ∃ u, sumE env c.2.1 c.1 = some u ∧ holdsB u c.2.2 = true
theorem cmb_sound (env : List Mono) : ∀ (cs : List Con) (bs : List Int) (o : Con), AllHold env cs → chkF cs bs = 0 → (∃ u, sumE env o.2.1 o.1 = some u ∧ holdsB u o.2.2 = true) → (cmbF cs bs o).2 = 0 →
    ∃ u, sumE env (cmbF cs bs o).1.2.1 (cmbF cs bs o).1.1 = some u ∧ holdsB u (cmbF cs bs o).1.2.2 = true
  | [], bs, o, _, _, h, _ => by unfold cmbF; exact h
  | c :: r, [], o, _, _, h, _ => by unfold cmbF; exact h
  | c :: r, b :: bs, o, ha, hc, ⟨u, h1, h2⟩, h0 => by
    unfold cmbF at h0 ⊢
    by_cases hs : (scaleF c.1 c.2.1 b).2.2 ≠ 0
    · rw [if_pos hs] at h0; exact absurd h0 hs
    rw [if_neg hs] at h0 ⊢
    by_cases hd : (addF o.1 o.2.1 (scaleF c.1 c.2.1 b).1 (scaleF c.1 c.2.1 b).2.1).2.2 ≠ 0
    · rw [if_pos hd] at h0; exact absurd h0 hd
    rw [if_neg hd] at h0 ⊢
    have hs := Classical.not_not.1 hs
    have hd := Classical.not_not.1 hd
    unfold chkF at hc
    have hok : okL c.2.1 = true := by
      by_cases h : okL c.2.1 = true
      · exact h
      · rw [if_neg h] at hc; exact absurd hc (by decide)
    rw [if_pos hok] at hc
    have hbc : ¬ ((decide (b < 0) && !c.2.2) = true) := by
      intro h
      rw [if_pos h] at hc; exact absurd hc (by decide)
    rw [if_neg hbc] at hc
    obtain ⟨uc, hu1, hu2⟩ := ha c (by simp)
    refine cmb_sound env r bs _ (fun x hx => ha x (List.mem_cons_of_mem _ hx)) hc ⟨_, add_val hd h1 (sc_val hs hu1), ?_⟩ h0
    dsimp only
    rw [holdsB_iff] at h2 hu2 ⊢
    simp only [Bool.and_eq_true, decide_eq_true_eq, Bool.not_eq_true', not_and, Bool.not_eq_false] at hbc
    by_cases hb0 : b = 0
    · subst hb0
      rw [Int.mul_zero, Int.add_zero]
      simp only [decide_true, Bool.or_true, Bool.and_true]
      exact h2
    · rcases hu2 with hu2 | ⟨hu2, he⟩
      · rw [hu2, Int.zero_mul, Int.add_zero]
        rcases h2 with h2 | ⟨h2, h3⟩
        · exact .inl h2
        · exact .inr ⟨h2, by rw [h3]; rfl⟩
      · have hbp : 0 < b := by
          rcases Int.lt_or_le b 0 with h | h
          · have := hbc h
            rw [he] at this; cases this
          · omega
        have hp := Int.mul_pos hu2 hbp
        refine .inr ⟨by rcases h2 with h2 | ⟨h2, _⟩ <;> omega, ?_⟩
        rw [he]
        simp [hb0]

theorem comb_sound {env : List Mono} {cs : List Con} {bs : List Int} (ha : AllHold env cs) (h : (combF cs bs).2 = 0) (hh : (holdsF (combF cs bs).1 env).2 = 0) : (holdsF (combF cs bs).1 env).1 = true := by
  obtain ⟨u', e1, e2⟩ := holds_ok hh
  rw [e2]
  have key : ∃ u, sumE env (combF cs bs).1.2.1 (combF cs bs).1.1 = some u ∧ holdsB u (combF cs bs).1.2.2 = true := by
    unfold combF at h ⊢
    by_cases h1 : cs.length ≠ bs.length
    · rw [if_pos h1] at h; exact absurd h (by decide)
    rw [if_neg h1] at h ⊢
    by_cases h2 : chkF cs bs ≠ 0
    · rw [if_pos h2] at h; exact absurd h h2
    rw [if_neg h2] at h ⊢
    exact cmb_sound env cs bs _ ha (Classical.not_not.1 h2) ⟨0, rfl, rfl⟩ h
  obtain ⟨u, k1, k2⟩ := key
  rw [e1] at k1
  cases k1
  exact k2
theorem first_all (env : List Mono) : ∀ (cs : List Con) (i : Int), (firstF env cs i).2 = 0 → i + cs.length ≤ (firstF env cs i).1 → AllHold env cs
  | [], i, _, _ => fun c hc => by cases hc
  | c :: r, i, h0, h1 => by
    rw [firstF_cons] at h0 h1
    by_cases hc : (holdsF c env).2 ≠ 0 ∨ (holdsF c env).1 = false
    · rw [if_pos hc] at h1
      rw [List.length_cons] at h1
      dsimp only at h1
      omega
    · rw [if_neg hc] at h0 h1
      rw [not_or] at hc
      rw [List.length_cons] at h1
      have ih := first_all env r (i + 1) h0 (by omega)
      intro x hx
      rcases List.mem_cons.1 hx with rfl | hx
      · obtain ⟨u, e1, e2⟩ := holds_ok (Classical.not_not.1 hc.1)
        refine ⟨u, e1, ?_⟩
        have := hc.2
        rw [e2] at this
        simpa using this
      · exact ih x hx

/-- Lengths and ranges. -/
theorem mergeF_len (l l' : List Mono) (acc : List Mono × Bool) : (mergeF l l' acc).1.length ≤ acc.1.length + l.length + l'.length := by
  have hp : ∀ (acc : List Mono × Bool) (s : ByteArray) (x y : Int), (stepA acc s x y).1.length ≤ acc.1.length + 1 := fun acc s x y => by unfold stepA; dsimp only; split <;> simp
  induction l, l', acc using mergeF.induct with
  | case1 acc => rw [mergeF]; simp
  | case2 m r acc ih => rw [mergeF]; have := hp acc m.1 m.2 0; simp only [List.length_cons] at *; omega
  | case3 m' r' acc ih => rw [mergeF]; have := hp acc m'.1 0 m'.2; simp only [List.length_cons] at *; omega
  | case4 m r m' r' acc hc ih => rw [mergeF, if_pos hc]; have := hp acc m.1 m.2 0; simp only [List.length_cons] at *; omega
  | case5 m r m' r' acc hc hd ih => rw [mergeF, if_neg hc, if_pos hd]; have := hp acc m'.1 0 m'.2; simp only [List.length_cons] at *; omega
  | case6 m r m' r' acc hc hd ih => rw [mergeF, if_neg hc, if_neg hd]; have := hp acc m.1 m.2 m'.2; simp only [List.length_cons] at *; omega
def RngM (l : List Mono) : Prop := ∀ m ∈ l, In64 m.2
theorem mergeF_rng (l l' : List Mono) (acc : List Mono × Bool) (h : RngM acc.1) : RngM (mergeF l l' acc).1 := by
  have hp : ∀ (acc : List Mono × Bool) (s : ByteArray) (x y : Int), RngM acc.1 → RngM (stepA acc s x y).1 := fun acc s x y h => by
    unfold stepA; dsimp only; split
    · exact h
    · intro m hm
      rcases List.mem_append.1 hm with hm | hm
      · exact h m hm
      · rw [List.mem_singleton.1 hm]; unfold In64 wrap64; dsimp only; omega
  induction l, l', acc using mergeF.induct with
  | case1 acc => rw [mergeF]; exact h
  | case2 m r acc ih => rw [mergeF]; exact ih (hp _ _ _ _ h)
  | case3 m' r' acc ih => rw [mergeF]; exact ih (hp _ _ _ _ h)
  | case4 m r m' r' acc hc ih => rw [mergeF, if_pos hc]; exact ih (hp _ _ _ _ h)
  | case5 m r m' r' acc hc hd ih => rw [mergeF, if_neg hc, if_pos hd]; exact ih (hp _ _ _ _ h)
  | case6 m r m' r' acc hc hd ih => rw [mergeF, if_neg hc, if_neg hd]; exact ih (hp _ _ _ _ h)
theorem rng_of {l : List Mono} (h : RngM l) : Rng l := fun k hk => by
  rw [List.getD_eq_getElem?_getD, List.getElem?_eq_getElem hk]
  exact h _ (List.getElem_mem hk)
theorem addF_bounds (K : Int) (l : List Mono) (K' : Int) (l' : List Mono) : In64 (addF K l K' l').1 ∧ Rng (addF K l K' l').2.1 ∧ (addF K l K' l').2.1.length ≤ l.length + l'.length := by
  have z : In64 0 := ⟨by decide, by decide⟩
  have rn : Rng [] := fun k hk => absurd hk (by simp)
  unfold addF
  split
  · split
    · refine ⟨by unfold In64 wrap64; dsimp only; omega, rng_of (mergeF_rng _ _ _ (fun m hm => by cases hm)), ?_⟩
      have := mergeF_len l l' ([], fitB (K + K'))
      simpa using this
    · exact ⟨z, rn, Nat.zero_le _⟩
  · exact ⟨z, rn, Nat.zero_le _⟩
theorem fit_in {n : Int} (h : fitB n = true) : In64 n := by
  unfold fitB at h
  obtain ⟨a, b⟩ := Bool.and_eq_true_iff.1 h
  exact ⟨of_decide_eq_true a, of_decide_eq_true b⟩
theorem scaleF_bounds (K : Int) (l : List Mono) (y : Int) : In64 (scaleF K l y).1 ∧ Rng (scaleF K l y).2.1 ∧ (scaleF K l y).2.1.length ≤ l.length := by
  have z : In64 0 := ⟨by decide, by decide⟩
  have rn : Rng [] := fun k hk => absurd hk (by simp)
  unfold scaleF
  split
  · split
    · exact ⟨z, rn, Nat.zero_le _⟩
    · split
      · rename_i hf
        obtain ⟨h1, h2⟩ := Bool.and_eq_true_iff.1 hf
        refine ⟨fit_in h1, rng_of ?_, by simp [outL]⟩
        intro m hm
        obtain ⟨x, hx, rfl⟩ := List.mem_map.1 hm
        have h3 : fitB (x.2 * y) = true := List.all_eq_true.1 h2 x hx
        have h4 : (mulR x.2 y).1 = x.2 * y := by unfold mulR; rw [h3]; rfl
        dsimp only
        rw [h4]; exact fit_in h3
      · exact ⟨z, rn, Nat.zero_le _⟩
  · exact ⟨z, rn, Nat.zero_le _⟩
theorem cmbF_bounds : ∀ (cs : List Con) (bs : List Int) (o : Con), In64 o.1 → (∀ c ∈ cs, c.2.1.length ≤ 40) → In64 (cmbF cs bs o).1.1 ∧ (cmbF cs bs o).1.2.1.length ≤ o.2.1.length + 40 * cs.length
  | [], bs, o, ho, _ => by unfold cmbF; exact ⟨ho, by simp⟩
  | c :: r, [], o, ho, _ => by unfold cmbF; exact ⟨ho, by simp⟩
  | c :: r, b :: bs, o, ho, hc => by
    have z : In64 (0 : Int) := ⟨by decide, by decide⟩
    unfold cmbF
    split
    · exact ⟨z, Nat.zero_le _⟩
    · split
      · exact ⟨z, Nat.zero_le _⟩
      · obtain ⟨a1, a2, a3⟩ := addF_bounds o.1 o.2.1 (scaleF c.1 c.2.1 b).1 (scaleF c.1 c.2.1 b).2.1
        obtain ⟨s1, s2, s3⟩ := scaleF_bounds c.1 c.2.1 b
        obtain ⟨i1, i2⟩ := cmbF_bounds r bs ((addF o.1 o.2.1 (scaleF c.1 c.2.1 b).1 (scaleF c.1 c.2.1 b).2.1).1, (addF o.1 o.2.1 (scaleF c.1 c.2.1 b).1 (scaleF c.1 c.2.1 b).2.1).2.1, o.2.2 && (c.2.2 || decide (b = 0))) a1 (fun x hx => hc x (List.mem_cons_of_mem _ hx))
        have h4 := hc c (by simp)
        refine ⟨i1, ?_⟩
        rw [List.length_cons]
        dsimp only at i2
        omega
theorem combF_bounds (cs : List Con) (bs : List Int) (hc : ∀ c ∈ cs, c.2.1.length ≤ 40) : In64 (combF cs bs).1.1 ∧ (combF cs bs).1.2.1.length ≤ 40 * cs.length := by
  have z : In64 (0 : Int) := ⟨by decide, by decide⟩
  unfold combF
  split
  · exact ⟨z, Nat.zero_le _⟩
  · split
    · exact ⟨z, Nat.zero_le _⟩
    · have := cmbF_bounds cs bs (0, [], true) z hc
      simpa using this
end Go.Proofs.YtahlecmlhdikjaaDoor
