/-
  Plain laws of Tighten: a constraint and its tightened form hold alike.
-/
import Derived.Test.YtahlecmlhdikjaaDoorCoCp
namespace Go.Proofs.YtahlecmlhdikjaaDoor
set_option linter.unusedVariables false
set_option linter.unusedSimpArgs false

theorem sumE_div (env : List Mono) (g : Int) (hg : 0 < g) : ∀ (l : List Mono) (a u : Int), (∀ m ∈ l, g ∣ m.2) → sumE env l a = some u → sumE env (divL l g) (a / g) = some (u / g) ∧ u % g = a % g
  | [], a, u, _, h => by
    have h : some a = some u := h
    cases h
    exact ⟨rfl, rfl⟩
  | m :: r, a, u, hd, h => by
    obtain ⟨v, h1, h2⟩ := sumE_some h
    obtain ⟨k, hk⟩ := hd m (by simp)
    obtain ⟨i1, i2⟩ := sumE_div env g hg r _ u (fun x hx => hd x (List.mem_cons_of_mem _ hx)) h2
    have e1 : a + m.2 * v = a + g * (k * v) := by rw [hk, Int.mul_assoc]
    rw [e1] at i1 i2
    rw [Int.add_mul_ediv_left _ _ (by omega : g ≠ 0)] at i1
    rw [Int.add_mul_emod_self_left] at i2
    refine ⟨?_, i2⟩
    show sumE env ((m.1, m.2 / g) :: divL r g) (a / g) = _
    rw [sumE_cons]
    dsimp only
    rw [h1]
    dsimp only
    rw [hk, Int.mul_ediv_cancel_left _ (by omega : g ≠ 0)]
    exact i1

/-- What the law asks of Tighten's answer. -/
def tightLaw (a b : Bool) (kind : Int) : Prop := a = b ∧ (kind ≠ 1 ∨ a = true) ∧ (kind ≠ 2 ∨ a = false) ∧ 0 ≤ kind ∧ kind ≤ 2

theorem tight_exact (c : Con) (env : List Mono) (h : (tightF c).2.2 = 0) (h0 : (holdsF c env).2 = 0) (h1 : (holdsF (tightF c).1 env).2 = 0) :
    tightLaw (holdsF c env).1 (holdsF (tightF c).1 env).1 (tightF c).2.1 := by
  obtain ⟨K, l, b⟩ := c
  obtain ⟨u, e1, e2⟩ := holds_ok h0
  obtain ⟨u', e3, e4⟩ := holds_ok h1
  rw [e2, e4]
  clear e2 e4 h0 h1
  dsimp only at e1
  unfold tightF at h e3 ⊢
  dsimp only at h e3 ⊢
  by_cases ho : okL l = true
  · rw [if_pos ho] at h e3 ⊢
    by_cases hn : l.length = 0
    · rw [if_pos hn] at h e3 ⊢
      have hl : l = [] := List.eq_nil_of_length_eq_zero hn
      subst hl
      have e1 : some K = some u := e1
      cases e1
      by_cases hh : holdsB K b = true
      · rw [if_pos hh] at e3 ⊢
        have e3 : some (0 : Int) = some u' := e3
        cases e3
        exact ⟨by rw [hh]; rfl, .inr hh, .inl (by decide), by decide, by decide⟩
      · rw [if_neg hh] at e3 ⊢
        have e3 : some (-1 : Int) = some u' := e3
        cases e3
        have hh : holdsB K b = false := by simpa using hh
        exact ⟨by rw [hh]; rfl, .inl (by decide), .inr hh, by decide, by decide⟩
    · rw [if_neg hn] at h e3 ⊢
      obtain ⟨g, hg⟩ : ∃ g : Int, (gcdL l : Int) = g := ⟨_, rfl⟩
      have g0 : 0 < g := by rw [← hg]; have := gcd_pos ho hn; omega
      have gd : ∀ m ∈ l, g ∣ m.2 := by rw [← hg]; exact gcd_dvd l
      rw [hg] at h e3 ⊢
      obtain ⟨s1, s2⟩ := sumE_div env g g0 l K u gd e1
      have ue := Int.mul_ediv_add_emod u g
      have r0 := Int.emod_nonneg u (by omega : g ≠ 0)
      have r1 := Int.emod_lt_of_pos u g0
      by_cases c1 : (b && decide (K % g ≠ 0)) = true
      · rw [if_pos c1] at e3 ⊢
        have e3 : some (-1 : Int) = some u' := e3
        cases e3
        simp only [Bool.and_eq_true, decide_eq_true_eq] at c1
        obtain ⟨rfl, c1⟩ := c1
        have hu : u ≠ 0 := by
          intro hu
          rw [hu] at s2
          rw [Int.zero_emod] at s2
          exact c1 s2.symm
        have hh : holdsB u true = false := by unfold holdsB; simp [hu]
        exact ⟨by rw [hh]; rfl, .inl (by decide), .inr hh, by decide, by decide⟩
      · rw [if_neg c1] at h e3 ⊢
        have hz : b = true → u = g * (u / g) := fun hb => by
          rw [hb] at c1
          have : K % g = 0 := by simpa using c1
          omega
        by_cases c2 : (b && decide ((l.getD 0 m0).2 < 0)) = true
        · rw [if_pos c2] at h e3 ⊢
          have hb : b = true := (Bool.and_eq_true_iff.1 c2).1
          subst hb
          split at h
          · rename_i c3
            rw [if_pos c3] at e3 ⊢
            have t := sumE_neg env _ _ _ 0 s1
            rw [Int.zero_sub, Int.zero_sub] at t
            dsimp only at e3 ⊢
            rw [t] at e3
            cases e3
            have hz := hz rfl
            refine ⟨?_, .inl (by decide), .inl (by decide), by decide, by decide⟩
            unfold holdsB
            by_cases hu : u = 0
            · subst hu; simp
            · have : -(u / g) ≠ 0 := by
                intro hq
                have : u / g = 0 := by omega
                rw [this] at hz
                omega
              simp [hu]
              intro hq
              exact absurd hq (by omega)
          · exact absurd h (by decide)
        · rw [if_neg c2] at e3 ⊢
          dsimp only at e3 ⊢
          rw [s1] at e3
          cases e3
          refine ⟨?_, .inl (by decide), .inl (by decide), by decide, by decide⟩
          cases b
          · have : (0 ≤ u) ↔ (0 ≤ u / g) := by
              constructor
              · intro hu; exact Int.ediv_nonneg hu (by omega)
              · intro hu
                have := Int.mul_nonneg (by omega : 0 ≤ g) hu
                omega
            unfold holdsB
            rw [Bool.eq_iff_iff]
            simp
            omega
          · have hz := hz rfl
            unfold holdsB
            by_cases hu : u = 0
            · subst hu; simp
            · have : u / g ≠ 0 := by
                intro hq
                rw [hq] at hz
                omega
              simp [hu, this]
  · rw [if_neg ho] at h
    exact absurd h (by decide)

theorem tight_err (c : Con) : (tightF c).2.2 = 0 ∨ (tightF c).2.2 = 3 ∨ ((tightF c).2.2 = 1 ∧ okL c.2.1 = false) := by
  unfold tightF
  split
  · refine (fun h => by rcases h with h | h; exact .inl h; exact .inr (.inl h) : (_ = (0 : Int) ∨ _ = (3 : Int)) → _) ?_
    repeat' split
    all_goals first | exact .inl rfl | exact .inr rfl
  · rename_i h
    exact .inr (.inr ⟨rfl, by simpa using h⟩)
theorem tight_len (c : Con) : (tightF c).1.2.1.length ≤ c.2.1.length := by
  unfold tightF
  repeat' split
  all_goals simp [divL, negL]
theorem tight_in (c : Con) (hK : In64 c.1) (hl : Rng c.2.1) : In64 (tightF c).1.1 := by
  obtain ⟨K, l, b⟩ := c
  have dv : ∀ g : Nat, In64 (K / (g : Int)) := fun g => by
    have h : In64 K := hK
    have h1 := Int.natAbs_ediv_le_natAbs K g
    unfold In64 at h ⊢
    by_cases hk : 0 ≤ K
    · have := Int.ediv_nonneg hk (by omega : (0 : Int) ≤ g)
      omega
    · have : (K / (g : Int)) ≤ 0 := by
        by_cases hg : g = 0
        · subst hg; simp
        · exact Int.le_of_lt (Int.ediv_neg_of_neg_of_pos (by omega) (by omega))
      omega
  have z : In64 0 := ⟨by decide, by decide⟩
  have o : In64 (-1) := ⟨by decide, by decide⟩
  unfold tightF
  dsimp only
  repeat' split
  all_goals first | exact z | exact o | exact dv _ | skip
  rename_i h
  have h := (Bool.and_eq_true_iff.1 h).1
  have := dv (gcdL l)
  simp only [ne_eq, decide_not, Bool.not_eq_true', decide_eq_false_iff_not] at h
  unfold In64 at this ⊢
  dsimp only
  omega
end Go.Proofs.YtahlecmlhdikjaaDoor
