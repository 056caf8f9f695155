/-
  Plain laws of Complement: exactly one of a constraint and its alternatives holds.
-/
import Derived.Test.YtahlecmlhdikjaaDoorGe
import Derived.Test.YtahlecmlhdikjaaDoorGd
namespace Go.Proofs.YtahlecmlhdikjaaDoor
set_option linter.unusedVariables false
set_option linter.unusedSimpArgs false

theorem holds_ok {c : Con} {env : List Mono} (h : (holdsF c env).2 = 0) :
    ∃ u, sumE env c.2.1 c.1 = some u ∧ holdsF c env = (holdsB u c.2.2, 0) := by
  have h1 : (evalF c.1 c.2.1 env).2 = 0 := by
    unfold holdsF at h
    split at h
    · exact h
    · rename_i h'; exact Classical.byContradiction h'
  have h2 : holdsF c env = (holdsB (evalF c.1 c.2.1 env).1 c.2.2, 0) := by unfold holdsF; rw [if_neg (by simpa using h1)]
  unfold evalF at h1 h2
  by_cases ho : okL c.2.1 = true
  · rw [if_pos ho] at h1 h2
    cases hs : sumE env c.2.1 c.1 with
    | none => rw [hs] at h1; exact absurd h1 (by decide)
    | some u =>
      rw [hs] at h1 h2
      unfold evalR at h1 h2
      dsimp only at h1 h2
      by_cases hf : fitB u = true
      · rw [if_pos hf] at h2
        exact ⟨u, rfl, h2⟩
      · rw [if_neg hf] at h1
        exact absurd h1 (by decide)
  · rw [if_neg ho] at h1
    exact absurd h1 (by decide)

theorem sumE_neg (env : List Mono) : ∀ (l : List Mono) (a u c : Int), sumE env l a = some u → sumE env (negL l) (c - a) = some (c - u)
  | [], a, u, c, h => by
    have h : some a = some u := h
    cases h
    rfl
  | m :: r, a, u, c, h => by
    obtain ⟨v, h1, h2⟩ := sumE_some h
    show sumE env ((m.1, -m.2) :: negL r) (c - a) = _
    rw [sumE_cons]
    dsimp only
    rw [h1]
    dsimp only
    have := sumE_neg env r _ u c h2
    rw [show c - a + -m.2 * v = c - (a + m.2 * v) by rw [Int.neg_mul]; omega]
    exact this
theorem sumE_move (env : List Mono) : ∀ (l : List Mono) (a u c : Int), sumE env l a = some u → sumE env l (a + c) = some (u + c)
  | [], a, u, c, h => by
    have h : some a = some u := h
    cases h
    rfl
  | m :: r, a, u, c, h => by
    obtain ⟨v, h1, h2⟩ := sumE_some h
    rw [sumE_cons, h1]
    dsimp only
    have := sumE_move env r _ u c h2
    rw [show a + c + m.2 * v = a + m.2 * v + c by omega]
    exact this

def n01 (b : Bool) : Int := if b then 1 else 0
theorem compl_one {c x : Con} {env : List Mono} (h : negF c = ([x], 0)) (h0 : (holdsF c env).2 = 0) (h1 : (holdsF x env).2 = 0) : (!(holdsF c env).1) = (holdsF x env).1 := by
  obtain ⟨K, l, b⟩ := c
  unfold negF at h
  dsimp only at h
  split at h
  · split at h
    · split at h
      · split at h <;> simp at h
      · rename_i hb
        simp only [Prod.mk.injEq, List.cons.injEq, and_true] at h
        subst h
        obtain ⟨u, e1, e2⟩ := holds_ok h0
        obtain ⟨u', e3, e4⟩ := holds_ok h1
        dsimp only at e1 e2 e3 e4
        have := sumE_neg env l K u (-1) e1
        rw [e3] at this
        cases this
        rw [e2, e4]
        have hb : b = false := by simpa using hb
        subst hb
        unfold holdsB
        dsimp only
        simp only [Bool.not_false, Bool.and_true]
        rw [Bool.eq_iff_iff]
        simp
        omega
    · simp at h
  · simp at h
theorem compl_two {c x y : Con} {env : List Mono} (h : negF c = ([x, y], 0)) (h0 : (holdsF c env).2 = 0) (h1 : (holdsF x env).2 = 0) (h2 : (holdsF y env).2 = 0) :
    ((holdsF c env).1, (holdsF x env).1, (holdsF y env).1) = (true, false, false) ∨ ((holdsF c env).1, (holdsF x env).1, (holdsF y env).1) = (false, true, false) ∨ ((holdsF c env).1, (holdsF x env).1, (holdsF y env).1) = (false, false, true) := by
  obtain ⟨K, l, b⟩ := c
  unfold negF at h
  dsimp only at h
  split at h
  · split at h
    · split at h
      · split at h
        · simp at h
        · rename_i hb _
          simp only [Prod.mk.injEq, List.cons.injEq, and_true] at h
          obtain ⟨rfl, rfl⟩ := h
          obtain ⟨u, e1, e2⟩ := holds_ok h0
          obtain ⟨u', e3, e4⟩ := holds_ok h1
          obtain ⟨u'', e5, e6⟩ := holds_ok h2
          dsimp only at e1 e2 e3 e4 e5 e6
          have t1 := sumE_neg env l K u (-1) e1
          rw [e5] at t1
          cases t1
          have t2 := sumE_move env l K u (-1) e1
          rw [show K + -1 = K - 1 by omega, e3] at t2
          cases t2
          rw [e2, e4, e6]
          subst hb
          unfold holdsB
          simp only [Bool.not_true, Bool.and_false, Bool.or_false, Bool.not_false, Bool.and_true, Prod.mk.injEq, decide_eq_true_eq, decide_eq_false_iff_not, Bool.or_eq_true, Bool.or_eq_false_iff]
          omega
      · simp at h
    · simp at h
  · simp at h

def cntF (env : List Mono) (l : List Con) : Int := (l.map fun c => n01 (holdsF c env).1).sum
theorem cntF_snoc (env : List Mono) (l : List Con) (c : Con) : cntF env (l ++ [c]) = cntF env l + n01 (holdsF c env).1 := by
  unfold cntF
  simp
theorem cntF_bd (env : List Mono) : ∀ l : List Con, 0 ≤ cntF env l ∧ cntF env l ≤ l.length
  | [] => ⟨Int.le_refl 0, Int.le_refl 0⟩
  | c :: r => by
    have h := cntF_bd env r
    have e : cntF env (c :: r) = n01 (holdsF c env).1 + cntF env r := by unfold cntF; simp
    have b : 0 ≤ n01 (holdsF c env).1 ∧ n01 (holdsF c env).1 ≤ 1 := by unfold n01; split <;> omega
    rw [e, List.length_cons]
    omega
/-- The forms of Negate's answer. -/
theorem neg_shape (c : Con) : (∃ e, e ≠ 0 ∧ negF c = ([], e)) ∨ (∃ x, negF c = ([x], 0)) ∨ ∃ x y, negF c = ([x, y], 0) := by
  unfold negF
  split
  · split
    · split
      · split
        · exact .inl ⟨3, by decide, rfl⟩
        · exact .inr (.inr ⟨_, _, rfl⟩)
      · exact .inr (.inl ⟨_, rfl⟩)
    · exact .inl ⟨3, by decide, rfl⟩
  · exact .inl ⟨1, by decide, rfl⟩
theorem neg_len (c : Con) : ∀ x ∈ (negF c).1, x.2.1.length = c.2.1.length := by
  unfold negF
  intro x hx
  split at hx
  · split at hx
    · split at hx
      · split at hx
        · cases hx
        · rcases List.mem_cons.1 hx with rfl | hx
          · rfl
          · rcases List.mem_cons.1 hx with rfl | hx
            · simp [negL]
            · cases hx
      · rcases List.mem_cons.1 hx with rfl | hx
        · simp [negL]
        · cases hx
    · cases hx
  · cases hx
theorem compl_all {c : Con} {env : List Mono} {rl : List Con} (h : negF c = (rl, 0)) (h0 : (holdsF c env).2 = 0) (hall : ∀ x ∈ rl, (holdsF x env).2 = 0) : n01 (holdsF c env).1 + cntF env rl = 1 := by
  rcases neg_shape c with ⟨e, he, h'⟩ | ⟨x, h'⟩ | ⟨x, y, h'⟩
  · rw [h'] at h
    simp only [Prod.mk.injEq] at h
    exact absurd h.2 he
  · rw [h'] at h
    simp only [Prod.mk.injEq] at h
    obtain ⟨rfl, -⟩ := h
    have := compl_one h' h0 (hall x (by simp))
    have e : cntF env [x] = n01 (holdsF x env).1 := by unfold cntF; simp
    rw [e, ← this]
    cases (holdsF c env).1 <;> rfl
  · rw [h'] at h
    simp only [Prod.mk.injEq] at h
    obtain ⟨rfl, -⟩ := h
    have := compl_two h' h0 (hall x (by simp)) (hall y (by simp))
    have e : cntF env [x, y] = n01 (holdsF x env).1 + n01 (holdsF y env).1 := by unfold cntF; simp
    rw [e]
    simp only [Prod.mk.injEq] at this
    rcases this with ⟨h1, h2, h3⟩ | ⟨h1, h2, h3⟩ | ⟨h1, h2, h3⟩ <;> rw [h1, h2, h3] <;> rfl
theorem neg_small (c : Con) : (negF c).1.length ≤ 2 := by
  rcases neg_shape c with ⟨e, he, h'⟩ | ⟨x, h'⟩ | ⟨x, y, h'⟩ <;> rw [h'] <;> simp
end Go.Proofs.YtahlecmlhdikjaaDoor
