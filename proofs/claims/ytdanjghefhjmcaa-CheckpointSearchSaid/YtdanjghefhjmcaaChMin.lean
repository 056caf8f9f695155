/-
  The lower bound of chapter 28, in plain Lean: whoever reverses n steps with s slots, for every r: the steps' unused tokens, of r each, are at most B (s + 1) r.
-/
import Derived.RowKit
namespace Go.Proofs.Ytdanjghefhjmcaa.Min
set_option linter.unusedVariables false
set_option linter.unusedSimpArgs false

def B : Nat → Nat → Nat
  | 0, r => r
  | _ + 1, 0 => 0
  | c + 1, r + 1 => B c (r + 1) + B (c + 1) r

theorem B_mono (c r : Nat) : B c r ≤ B (c + 1) r := by
  cases r with
  | zero => cases c <;> simp [B]
  | succ r => simp [B]

/-- A state: the current step, the steps that are left, the stored ones (each once, 0 is never listed for use). -/
structure St where
  now : Nat
  left : Nat
  S : List Nat

inductive Mv (s : Nat) : St → St → Prop
  | store (a : St) (S' : List Nat) (h : ∀ x ∈ S', x ∈ a.S ∨ x = a.now) (hn : S'.Nodup) (hl : S'.length ≤ s) : Mv s a ⟨a.now, a.left, S'⟩
  | rest (a : St) (x : Nat) (h : x = 0 ∨ x ∈ a.S) : Mv s a ⟨x, a.left, a.S⟩
  | rev (a : St) (h : a.left = a.now + 1) : Mv s a ⟨a.now, a.now, a.S⟩

def bump (c : Nat → Nat) (k : Nat) : Nat → Nat := fun j => if j = k then c j + 1 else c j

/-- A run, with the number of times that each step is computed. -/
inductive Run (s : Nat) : St → (Nat → Nat) → St → Prop
  | nil (a : St) : Run s a (fun _ => 0) a
  | mv {a b e : St} {c : Nat → Nat} (h : Mv s a b) (r : Run s b c e) : Run s a c e
  | adv {a e : St} {c : Nat → Nat} (r : Run s ⟨a.now + 1, a.left, a.S⟩ c e) : Run s a (bump c (a.now + 1)) e

/-- Unused tokens of the steps p + 1 .. p + n. -/
def tok (r : Nat) (c : Nat → Nat) : Nat → Nat
  | 0 => 0
  | n + 1 => tok r c n + (r - c (n + 1))

theorem tok_le {r r' : Nat} {c c' : Nat → Nat} : ∀ n, (∀ j, 1 ≤ j → j ≤ n → r - c j ≤ r' - c' j) → tok r c n ≤ tok r' c' n
  | 0, _ => Nat.le_refl _
  | n + 1, h => by
    have h1 := tok_le n (fun j a b => h j a (by omega))
    have h2 := h (n + 1) (by omega) (by omega)
    simp only [tok]; omega

theorem tok_split (r : Nat) (c : Nat → Nat) (m : Nat) : ∀ k, tok r c (m + k) = tok r c m + tok r (fun j => c (j + m)) k
  | 0 => by simp [tok]
  | k + 1 => by
    have := tok_split r c m k
    rw [show m + (k + 1) = (m + k) + 1 by omega]
    simp only [tok, this, show k + 1 + m = m + k + 1 by omega]
    omega

theorem tok_zero (c : Nat → Nat) : ∀ n, tok 0 c n = 0
  | 0 => rfl
  | n + 1 => by simp [tok, tok_zero c n]

theorem Run.left_le {s : Nat} {a e : St} {c : Nat → Nat} (h : Run s a c e) : e.left ≤ a.left := by
  induction h with
  | nil => exact Nat.le_refl _
  | mv h r ih => cases h <;> simp_all <;> omega
  | adv r ih => exact ih

/-- The run cut down to the steps behind m, as long as more than m are left. -/
def suf (m : Nat) (a : St) : St := ⟨a.now - m, a.left - m, if m < a.left then (a.S.filter (fun x => decide (m < x))).map (· - m) else []⟩

theorem nodup_sub (m : Nat) (l : List Nat) (h : l.Nodup) : ((l.filter (fun x => decide (m < x))).map (· - m)).Nodup := by
  induction l with
  | nil => simp
  | cons a l ih =>
    rw [List.nodup_cons] at h
    by_cases ha : m < a
    · rw [List.filter_cons_of_pos (by simpa using ha), List.map_cons, List.nodup_cons]
      refine ⟨?_, ih h.2⟩
      intro hm
      obtain ⟨x, hx, he⟩ := List.mem_map.1 hm
      obtain ⟨hx1, hx2⟩ := List.mem_filter.1 hx
      have : x = a := by simp at hx2; omega
      subst this
      exact h.1 hx1
    · rw [List.filter_cons_of_neg (by simpa using ha)]
      exact ih h.2

/-- Q holds at the run's every state but the last. -/
inductive RunQ (s : Nat) (Q : St → Prop) : St → (Nat → Nat) → St → Prop
  | nil (a : St) : RunQ s Q a (fun _ => 0) a
  | mv {a b e : St} {c : Nat → Nat} (q : Q a) (h : Mv s a b) (r : RunQ s Q b c e) : RunQ s Q a c e
  | adv {a e : St} {c : Nat → Nat} (q : Q a) (r : RunQ s Q ⟨a.now + 1, a.left, a.S⟩ c e) : RunQ s Q a (bump c (a.now + 1)) e

theorem first_bad {s : Nat} {Q : St → Prop} {a e : St} {c : Nat → Nat} (h : Run s a c e) (qa : Q a) :
    (RunQ s Q a c e ∧ Q e) ∨ ∃ (y x : St) (c1 c2 : Nat → Nat), Run s a c1 y ∧ Q y ∧ ¬ Q x ∧ (Mv s y x ∨ x = ⟨y.now + 1, y.left, y.S⟩) ∧ Run s x c2 e ∧ ∀ j, c1 j + c2 j ≤ c j := by
  induction h with
  | nil a => exact .inl ⟨.nil a, qa⟩
  | @mv a b e c h r ih =>
    by_cases qb : Q b
    · rcases ih qb with ⟨h1, h2⟩ | ⟨y, x, c1, c2, h1, h2, h3, h4, h5, h6⟩
      · exact .inl ⟨.mv qa h h1, h2⟩
      · exact .inr ⟨y, x, c1, c2, .mv h h1, h2, h3, h4, h5, h6⟩
    · exact .inr ⟨a, b, fun _ => 0, c, .nil a, qa, qb, .inl h, r, fun j => by simp⟩
  | @adv a e c r ih =>
    by_cases qb : Q ⟨a.now + 1, a.left, a.S⟩
    · rcases ih qb with ⟨h1, h2⟩ | ⟨y, x, c1, c2, h1, h2, h3, h4, h5, h6⟩
      · exact .inl ⟨.adv qa h1, h2⟩
      · refine .inr ⟨y, x, bump c1 (a.now + 1), c2, .adv h1, h2, h3, h4, h5, fun j => ?_⟩
        have := h6 j
        unfold bump
        split <;> omega
    · refine .inr ⟨a, _, fun _ => 0, c, .nil a, qa, qb, .inr rfl, r, fun j => ?_⟩
      simp only [bump]
      split <;> omega

theorem RunQ.head {s : Nat} {Q : St → Prop} {a e : St} {c : Nat → Nat} (h : RunQ s Q a c e) : e = a ∨ Q a := by
  cases h with
  | nil => exact .inl rfl
  | mv q => exact .inr q
  | adv q => exact .inr q

/-- Cutting down to the steps behind m. -/
theorem RunQ.suf {s s' m : Nat} {a e : St} {c : Nat → Nat} (h : RunQ s (fun x => m < x.left → (Min.suf m x).S.length ≤ s') a c e) (he : e.left ≤ m) :
    ∃ (c' : Nat → Nat) (e' : St), Run s' (Min.suf m a) c' e' ∧ e'.left = 0 ∧ ∀ j, 1 ≤ j → c' j ≤ c (j + m) := by
  induction h with
  | nil a => exact ⟨fun _ => 0, _, .nil _, by simp [Min.suf]; omega, fun j _ => Nat.le_refl _⟩
  | @mv a b e c q h r ih =>
    by_cases hm : a.left ≤ m
    · exact ⟨fun _ => 0, _, .nil _, by simp [Min.suf]; omega, fun j _ => Nat.zero_le _⟩
    · have hm' : m < a.left := by omega
      obtain ⟨c', e', h1, h2, h3⟩ := ih he
      refine ⟨c', e', ?_, h2, h3⟩
      have hcap : m < b.left → (Min.suf m b).S.length ≤ s' := fun hb => (r.head.elim (fun e' => absurd he (by rw [e']; omega)) (fun g => g hb))
      have capa := q hm'
      clear ih r
      cases h with
      | store S' hS hn hl =>
        have hc := hcap hm'
        simp only [Min.suf, hm', if_true] at hc h1 ⊢
        refine .mv (.store _ _ (fun x hx => ?_) (nodup_sub m S' hn) hc) h1
        obtain ⟨y, hy, rfl⟩ := List.mem_map.1 hx
        obtain ⟨hy1, hy2⟩ := List.mem_filter.1 hy
        simp at hy2
        rcases hS y hy1 with g | g
        · exact .inl (List.mem_map.2 ⟨y, List.mem_filter.2 ⟨g, by simpa using hy2⟩, rfl⟩)
        · exact .inr (by rw [g])
      | rest x hx =>
        simp only [Min.suf, hm', if_true] at h1 ⊢
        refine .mv (.rest _ (x - m) ?_) h1
        rcases hx with rfl | hx
        · exact .inl (by omega)
        · by_cases hxm : m < x
          · exact .inr (List.mem_map.2 ⟨x, List.mem_filter.2 ⟨hx, by simpa using hxm⟩, rfl⟩)
          · exact .inl (by omega)
      | rev hl =>
        simp only [Min.suf, hm', if_true] at h1 capa ⊢
        refine .mv (.rev _ (by simp only; omega)) ?_
        simp only
        by_cases hmn : m < a.now
        · simp only [hmn, if_true] at h1
          exact h1
        · simp only [hmn, if_false] at h1
          exact .mv (.store _ [] (by simp) (by simp) (by simp)) h1
  | @adv a e c q r ih =>
    obtain ⟨c', e', h1, h2, h3⟩ := ih he
    by_cases hn : m ≤ a.now
    · refine ⟨bump c' (a.now - m + 1), e', .adv (a := Min.suf m a) ?_, h2, fun j hj => ?_⟩
      · have : a.now + 1 - m = a.now - m + 1 := by omega
        simp only [Min.suf, this] at h1 ⊢
        exact h1
      · have := h3 j hj
        unfold bump
        split <;> split <;> omega
    · refine ⟨c', e', ?_, h2, fun j hj => ?_⟩
      · have e1 : a.now + 1 - m = 0 := by omega
        have e2 : a.now - m = 0 := by omega
        simp only [Min.suf, e1] at h1
        simp only [Min.suf, e2]
        exact h1
      · have := h3 j hj
        unfold bump
        split <;> omega

/-- The run cut down to the steps up to m. -/
def pre (m : Nat) (a : St) : St := ⟨if a.now < m then a.now else 0, min a.left m, a.S.filter (fun x => decide (x < m ∧ 0 < x))⟩

theorem Run.pre {s m : Nat} {a e : St} {c : Nat → Nat} (h : Run s a c e) : ∃ c' : Nat → Nat, Run s (Min.pre m a) c' (Min.pre m e) ∧ ∀ j, c' j ≤ c j := by
  induction h with
  | nil a => exact ⟨_, .nil _, fun j => Nat.le_refl _⟩
  | @mv a b e c h r ih =>
    obtain ⟨c', h1, h3⟩ := ih
    refine ⟨c', ?_, h3⟩
    cases h with
    | store S' hS hn hl =>
      refine .mv (.store (Min.pre m a) (S'.filter (fun x => decide (x < m ∧ 0 < x))) (fun x hx => ?_) (hn.filter _) (Nat.le_trans (List.length_filter_le _ _) hl)) h1
      obtain ⟨hx1, hx2⟩ := List.mem_filter.1 hx
      simp at hx2
      rcases hS x hx1 with g | g
      · exact .inl (List.mem_filter.2 ⟨g, by simpa using hx2⟩)
      · right
        simp only [Min.pre]
        rw [if_pos (by omega)]; exact g
    | rest x hx =>
      refine .mv (.rest (Min.pre m a) (if x < m then x else 0) ?_) h1
      split
      · rcases hx with rfl | hx
        · exact .inl rfl
        · by_cases h0 : x = 0
          · exact .inl h0
          · exact .inr (List.mem_filter.2 ⟨hx, by simp; omega⟩)
      · exact .inl rfl
    | rev hl =>
      by_cases hm : a.left ≤ m
      · have e1 : Min.pre m a = ⟨a.now, a.left, a.S.filter (fun x => decide (x < m ∧ 0 < x))⟩ := by
          simp only [Min.pre]; rw [if_pos (by omega), Nat.min_eq_left hm]
        have e2 : Min.pre m ⟨a.now, a.now, a.S⟩ = ⟨a.now, a.now, a.S.filter (fun x => decide (x < m ∧ 0 < x))⟩ := by
          simp only [Min.pre]; rw [if_pos (by omega), Nat.min_eq_left (by omega)]
        rw [e2] at h1
        rw [e1]
        exact .mv (.rev _ hl) h1
      · have e1 : Min.pre m a = Min.pre m ⟨a.now, a.now, a.S⟩ := by
          simp only [Min.pre]; rw [Nat.min_eq_right (by omega), Nat.min_eq_right (by omega)]
        rw [e1]; exact h1
  | @adv a e c r ih =>
    obtain ⟨c', h1, h3⟩ := ih
    by_cases hn : a.now + 1 < m
    · refine ⟨bump c' (a.now + 1), ?_, fun j => ?_⟩
      · have e1 : Min.pre m a = ⟨a.now, min a.left m, a.S.filter (fun x => decide (x < m ∧ 0 < x))⟩ := by simp only [Min.pre]; rw [if_pos (by omega)]
        rw [e1]
        refine .adv ?_
        simp only [Min.pre] at h1
        rw [if_pos hn] at h1
        exact h1
      · have := h3 j
        unfold bump
        split <;> omega
    · refine ⟨c', ?_, fun j => ?_⟩
      · have e1 : Min.pre m ⟨a.now + 1, a.left, a.S⟩ = ⟨0, min a.left m, a.S.filter (fun x => decide (x < m ∧ 0 < x))⟩ := by simp only [Min.pre]; rw [if_neg hn]
        rw [e1] at h1
        exact .mv (.rest (Min.pre m a) 0 (.inl rfl)) h1
      · have := h3 j
        unfold bump
        split <;> omega

/-- Whatever is reached has been computed up to there. -/
theorem Run.done {s : Nat} {a e : St} {c : Nat → Nat} (h : Run s a c e) : ∀ D : Nat → Prop, (∀ z, z ∈ a.S ∨ z = a.now → ∀ j, 1 ≤ j → j ≤ z → D j) → ∀ z, z ∈ e.S ∨ z = e.now → ∀ j, 1 ≤ j → j ≤ z → D j ∨ 1 ≤ c j := by
  induction h with
  | nil a => intro D hD z hz j h1 h2; exact .inl (hD z hz j h1 h2)
  | @mv a b e c h r ih =>
    intro D hD
    refine ih D ?_
    intro z hz
    cases h with
    | store S' hS hn hl =>
      rcases hz with hz | hz
      · exact hD z (hS z hz)
      · exact hD z (.inr hz)
    | rest x hx =>
      rcases hz with hz | hz
      · exact hD z (.inl hz)
      · rcases hx with hx | hx
        · intro j h1 h2; have : z = x := hz; omega
        · exact hD z (.inl (by have : z = x := hz; rw [this]; exact hx))
    | rev hl => exact hD z hz
  | @adv a e c r ih =>
    intro D hD z hz j h1 h2
    rcases ih (fun j => D j ∨ j = a.now + 1) (fun z hz j h1 h2 => by
      rcases hz with hz | hz
      · exact .inl (hD z (.inl hz) j h1 h2)
      · by_cases hj : j = a.now + 1
        · exact .inr hj
        · exact .inl (hD a.now (.inr rfl) j h1 (by have : z = a.now + 1 := hz; omega))) z hz j h1 h2 with (g | g) | g
    · exact .inl g
    · right; unfold bump; rw [if_pos g]; omega
    · right; unfold bump; split <;> omega
end Go.Proofs.Ytdanjghefhjmcaa.Min
