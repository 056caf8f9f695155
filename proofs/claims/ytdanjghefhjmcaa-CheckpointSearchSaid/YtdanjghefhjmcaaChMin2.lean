/-
  The lower bound of chapter 28, in plain Lean: the theorem.
-/
import Derived.Test.YtdanjghefhjmcaaChMin
namespace Go.Proofs.Ytdanjghefhjmcaa.Min
set_option linter.unusedVariables false
set_option linter.unusedSimpArgs false

theorem B_succ (c r : Nat) : B (c + 1) (r + 1) = B c (r + 1) + B (c + 1) r := by simp [B]

theorem length_le_of_sub : ∀ (l l' : List Nat), l.Nodup → (∀ x ∈ l, x ∈ l') → l.length ≤ l'.length
  | [], _, _, _ => Nat.zero_le _
  | a :: l, l', hn, hs => by
    rw [List.nodup_cons] at hn
    have ha := hs a (by simp)
    have h1 := length_le_of_sub l (l'.erase a) hn.2 (fun x hx => (List.mem_erase_of_ne (fun e => hn.1 (by rw [← e]; exact hx))).2 (hs x (by simp [hx])))
    rw [List.length_erase_of_mem ha] at h1
    have : 0 < l'.length := List.length_pos_of_mem ha
    simp only [List.length_cons]
    omega

theorem Run.zero {a e : St} {c : Nat → Nat} (h : Run 0 a c e) : (∀ x ∈ a.S, x = 0) → ∀ x ∈ e.S, x = 0 := by
  induction h with
  | nil a => exact fun h => h
  | @mv a b e c h r ih =>
    intro ha
    refine ih ?_
    cases h with
    | store S' hS hn hl =>
      have : S' = [] := List.eq_nil_of_length_eq_zero (by omega)
      subst this
      intro x hx
      cases hx
    | rest x hx => exact ha
    | rev hl => exact ha
  | @adv a e c r ih => exact fun ha => ih ha

theorem step_left {s : Nat} {y x : St} (h : Mv s y x ∨ x = ⟨y.now + 1, y.left, y.S⟩) : x.left ≤ y.left := by
  rcases h with h | rfl
  · cases h with
    | store => exact Nat.le_refl _
    | rest => exact Nat.le_refl _
    | rev hl => simp only; omega
  · exact Nat.le_refl _

/-- Both halves together: 'c' pays one token a step ahead of the second half. -/
theorem tok_pay {r m : Nat} {c c1 c2 c2' : Nat → Nat} (h1 : ∀ j, 1 ≤ j → j ≤ m → 1 ≤ c1 j) (h2 : ∀ j, c2' j ≤ c2 j) (h3 : ∀ j, c1 j + c2 j ≤ c j) : tok (r + 1) c m ≤ tok r c2' m :=
  tok_le m (fun j a b => by have := h1 j a b; have := h2 j; have := h3 j; omega)

theorem zero_slots : ∀ (r n : Nat) (a e : St) (c : Nat → Nat), Run 0 a c e → a.now = 0 → (∀ x ∈ a.S, x = 0) → a.left = n → e.left = 0 → tok r c n ≤ B 1 r
  | 0, n, a, e, c, _, _, _, _, _ => by rw [tok_zero]; exact Nat.zero_le _
  | r + 1, n, a, e, c, h, h0, hS, hl, he => by
    cases n with
    | zero => exact Nat.zero_le _
    | succ m =>
      have hb : (r + 1) - c (m + 1) ≤ B 0 (r + 1) := by simp only [B]; omega
      suffices hh : tok (r + 1) c m ≤ B 1 r by
        simp only [tok]
        have := B_succ 0 r
        simp only [Nat.zero_add] at this
        omega
      rcases first_bad (Q := fun x => m + 1 ≤ x.left) h (by show m + 1 ≤ a.left; omega) with ⟨_, h2⟩ | ⟨y, x, c1, c2, g1, g2, g3, g4, g5, g6⟩
      · have h2' : m + 1 ≤ e.left := h2
        omega
      · have hyl := g1.left_le
        have g2' : m + 1 ≤ y.left := g2
        have g3' : ¬ m + 1 ≤ x.left := g3
        have hyx : y.now = m ∧ x = ⟨y.now, y.now, y.S⟩ := by
          rcases g4 with g4 | rfl
          · cases g4 with
            | store => exact absurd g2' g3'
            | rest => exact absurd g2' g3'
            | rev hl' => exact ⟨by omega, rfl⟩
          · exact absurd g2' g3'
        obtain ⟨hn, rfl⟩ := hyx
        have hdone := g1.done (fun _ => False) (fun z hz j h1 h2 => by
          rcases hz with hz | hz
          · have := hS z hz; omega
          · omega) y.now (.inr rfl)
        obtain ⟨c2', p1, p2⟩ := g5.pre (m := m)
        have hSy := g1.zero hS
        have ih := zero_slots r m _ _ c2' p1 (by simp only [Min.pre]; rw [if_neg (by omega)]) (fun z hz => by
          obtain ⟨hz1, _⟩ := List.mem_filter.1 hz
          exact hSy z hz1) (by simp only [Min.pre]; omega) (by simp only [Min.pre]; omega)
        exact Nat.le_trans (tok_pay (fun j a b => (hdone j a (by omega)).resolve_left (fun g => g)) p2 g6) ih

theorem least (P : Nat → Prop) : ∀ m, P m → ∃ k, k ≤ m ∧ P k ∧ (k = 0 ∨ ¬ P (k - 1))
  | 0, h => ⟨0, Nat.le_refl _, h, .inl rfl⟩
  | m + 1, h => by
    by_cases hm : P m
    · obtain ⟨k, h1, h2, h3⟩ := least P m hm
      exact ⟨k, by omega, h2, h3⟩
    · exact ⟨m + 1, Nat.le_refl _, h, .inr (by simpa using hm)⟩

theorem main : ∀ (s r n : Nat) (a e : St) (c : Nat → Nat), Run s a c e → a.now = 0 → (∀ x ∈ a.S, x = 0) → a.left = n → e.left = 0 → tok r c n ≤ B (s + 1) r := by
  intro s
  induction s with
  | zero => exact zero_slots
  | succ s ihs =>
    intro r
    induction r with
    | zero => intro n a e c _ _ _ _ _; rw [tok_zero]; exact Nat.zero_le _
    | succ r ihr =>
      intro n a e c h h0 hS hl he
      have hsufa : ∀ m, (Min.suf m a).S = [] := fun m => by
        simp only [Min.suf]
        split
        · rw [List.map_eq_nil_iff, List.filter_eq_nil_iff]
          intro x hx
          have := hS x hx
          simp; omega
        · rfl
      have hPn : RunQ (s + 1) (fun x => n < x.left → (Min.suf n x).S.length ≤ s) a c e := by
        rcases first_bad (Q := fun x => n < x.left → (Min.suf n x).S.length ≤ s) h (fun hh => absurd hh (by omega)) with ⟨h1, _⟩ | ⟨y, x, c1, c2, g1, g2, g3, g4, g5, g6⟩
        · exact h1
        · exact absurd (fun hh : n < x.left => absurd hh (by have := g1.left_le; have := step_left g4; omega)) g3
      obtain ⟨m, hmn, hPm, hm⟩ := least (fun m => RunQ (s + 1) (fun x => m < x.left → (Min.suf m x).S.length ≤ s) a c e) n hPn
      obtain ⟨c', e', q1, q2, q3⟩ := hPm.suf (by omega)
      have hsuf := ihs (r + 1) (n - m) _ _ c' q1 (by simp only [Min.suf]; omega) (fun x hx => by rw [hsufa m] at hx; cases hx) (by simp only [Min.suf]; omega) q2
      have hsplit := tok_split (r + 1) c m (n - m)
      rw [show m + (n - m) = n by omega] at hsplit
      have hsuf2 : tok (r + 1) (fun j => c (j + m)) (n - m) ≤ tok (r + 1) c' (n - m) := tok_le _ (fun j a b => by have := q3 j a; omega)
      rcases hm with rfl | hm
      · have := B_mono (s + 1) (r + 1)
        simp only [tok] at hsplit
        show _ ≤ B (s + 1 + 1) (r + 1)
        omega
      · by_cases hm0 : m = 0
        · subst hm0; exact absurd hPm hm
        · rcases first_bad (Q := fun x => m - 1 < x.left → (Min.suf (m - 1) x).S.length ≤ s) h (fun _ => by rw [hsufa]; exact Nat.zero_le _) with ⟨h1, _⟩ | ⟨y, x, c1, c2, g1, g2, g3, g4, g5, g6⟩
          · exact absurd h1 hm
          · have g3' : m - 1 < x.left ∧ s < (Min.suf (m - 1) x).S.length := by
              by_cases u : m - 1 < x.left
              · refine ⟨u, ?_⟩
                by_cases v : (Min.suf (m - 1) x).S.length ≤ s
                · exact absurd (fun _ => v) g3
                · omega
              · exact absurd (fun hh => absurd hh u) g3
            obtain ⟨u, v⟩ := g3'
            have hkey : m ≤ y.now ∧ x.now = y.now ∧ ∀ z ∈ x.S, m ≤ z := by
              rcases g4 with g4 | rfl
              · cases g4 with
                | store S' hS' hn hlS =>
                  simp only [Min.suf] at u v
                  rw [if_pos u, List.length_map] at v
                  have hall : ∀ z ∈ S', m ≤ z := by
                    intro z hz
                    by_cases hzm : m ≤ z
                    · exact hzm
                    · exfalso
                      have hlt : (S'.filter (fun x => decide (m - 1 < x))).length < S'.length := by
                        have h1 := List.length_filter_le (fun x => decide (m - 1 < x)) S'
                        rcases Nat.lt_or_ge (S'.filter (fun x => decide (m - 1 < x))).length S'.length with g | g
                        · exact g
                        · have := (List.length_filter_eq_length_iff.1 (Nat.le_antisymm h1 g)) z hz
                          simp at this; omega
                      omega
                  refine ⟨?_, rfl, hall⟩
                  by_cases hy : m ≤ y.now
                  · exact hy
                  · exfalso
                    have hsub : ∀ z ∈ S', z ∈ y.S.filter (fun x => decide (m - 1 < x)) := fun z hz => by
                      rcases hS' z hz with g | g
                      · exact List.mem_filter.2 ⟨g, by have := hall z hz; simp; omega⟩
                      · have := hall z hz; omega
                    have h1 := length_le_of_sub _ _ hn hsub
                    have h2 := g2 u
                    simp only [Min.suf] at h2
                    rw [if_pos u, List.length_map] at h2
                    have h3 := List.length_filter_le (fun x => decide (m - 1 < x)) S'
                    omega
                | rest z hz =>
                  have h2 := g2 u
                  simp only [Min.suf] at v h2
                  omega
                | rev hl' =>
                  have u' : m - 1 < y.left := by simp only at u; omega
                  have h2 := g2 u'
                  simp only [Min.suf] at v h2
                  rw [if_pos u', List.length_map] at h2
                  simp only at u
                  rw [if_pos u, List.length_map] at v
                  omega
              · have h2 := g2 u
                simp only [Min.suf] at v h2
                omega
            obtain ⟨k1, k2, k3⟩ := hkey
            have hdone := g1.done (fun _ => False) (fun z hz j h1 h2 => by
              rcases hz with hz | hz
              · have := hS z hz; omega
              · omega) y.now (.inr rfl)
            obtain ⟨c2', p1, p2⟩ := g5.pre (m := m)
            have ih := ihr m _ _ c2' p1 (by simp only [Min.pre]; rw [if_neg (by omega)]) (fun z hz => by
              obtain ⟨hz1, hz2⟩ := List.mem_filter.1 hz
              have := k3 z hz1
              simp at hz2; omega) (by simp only [Min.pre]; omega) (by simp only [Min.pre]; omega)
            have hpay := tok_pay (r := r) (m := m) (c := c) (fun j a b => (hdone j a (by omega)).resolve_left (fun g => g)) p2 g6
            have := B_succ (s + 1) r
            omega
end Go.Proofs.Ytdanjghefhjmcaa.Min
