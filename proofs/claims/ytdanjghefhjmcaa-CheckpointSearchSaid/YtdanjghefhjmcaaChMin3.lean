/-
  The lower bound of chapter 28, in plain Lean: an accepted plan is a run, and so costs at least 'costF'.
-/
import Derived.Test.YtdanjghefhjmcaaChMin2
import Derived.Test.YtdanjghefhjmcaaChPlan
import Derived.Test.YtdanjghefhjmcaaChFacts
namespace Go.Proofs.Ytdanjghefhjmcaa.Min
set_option linter.unusedVariables false
set_option linter.unusedSimpArgs false

/-! B, evaluated. -/
def su (f : Nat → Nat) : Nat → Nat
  | 0 => 0
  | r + 1 => f (r + 1) + su f r
def B2 : Nat → Nat → Nat
  | 0 => fun r => r
  | c + 1 => su (B2 c)
theorem B_eq : ∀ c r, B c r = B2 c r
  | 0, r => by simp [B, B2]
  | c + 1, 0 => by simp [B, B2, su]
  | c + 1, r + 1 => by
    rw [B_succ, B_eq c (r + 1), B_eq (c + 1) r]; rfl

theorem chP_B_b : (all64 fun n => all64 fun s => decide (rF n (s + 1) = 0) || chP (rF n (s + 1) - 1) (s + 2) == B2 (s + 1) (rF n (s + 1))) = true := by decide +kernel
theorem costF_eq (n s : Nat) (hn : n ≤ 64) (hs : s ≤ 64) : ∃ r, costF n s = r * n - B (s + 1) r := by
  refine ⟨rF n (s + 1), ?_⟩
  have := all64_spec (all64_spec chP_B_b n hn) s hs
  simp only [Bool.or_eq_true, decide_eq_true_eq, beq_iff_eq] at this
  unfold costF
  rw [B_eq]
  rcases this with h | h
  · rw [if_pos h, h]; simp
  · split
    · rename_i h0; rw [h0]; simp
    · rw [h]

/-! The number of computed steps. -/
def sm (c : Nat → Nat) : Nat → Nat
  | 0 => 0
  | n + 1 => sm c n + c (n + 1)
theorem sm_bump (c : Nat → Nat) (k : Nat) (hk : 1 ≤ k) : ∀ n, sm (bump c k) n = if k ≤ n then sm c n + 1 else sm c n
  | 0 => by rw [if_neg (by omega)]; rfl
  | n + 1 => by
    have ih := sm_bump c k hk n
    simp only [sm, ih, bump]
    by_cases h1 : k ≤ n
    · rw [if_pos h1, if_neg (by omega), if_pos (by omega)]; omega
    · rw [if_neg h1]
      by_cases h2 : n + 1 = k
      · rw [if_pos h2, if_pos (by omega)]; omega
      · rw [if_neg h2, if_neg (by omega)]
theorem sm_zero : ∀ n, sm (fun _ => 0) n = 0
  | 0 => rfl
  | n + 1 => by simp [sm, sm_zero n]
theorem tok_sm (r : Nat) (c : Nat → Nat) : ∀ n, r * n ≤ tok r c n + sm c n
  | 0 => by simp
  | n + 1 => by
    have := tok_sm r c n
    simp only [tok, sm, Nat.mul_succ]
    omega

/-! The stored steps. -/
def dd : List Nat → List Nat
  | [] => []
  | a :: l => if a ∈ l then dd l else a :: dd l
theorem mem_dd {x : Nat} : ∀ {l : List Nat}, x ∈ dd l ↔ x ∈ l
  | [] => by simp [dd]
  | a :: l => by
    unfold dd
    split
    · rename_i h
      rw [mem_dd (l := l), List.mem_cons]
      exact ⟨.inr, fun g => g.elim (fun e => e ▸ h) id⟩
    · rw [List.mem_cons, List.mem_cons, mem_dd (l := l)]
theorem nodup_dd : ∀ l : List Nat, (dd l).Nodup
  | [] => by simp [dd]
  | a :: l => by
    unfold dd
    split
    · exact nodup_dd l
    · rename_i h
      exact List.nodup_cons.2 ⟨fun g => h (mem_dd.1 g), nodup_dd l⟩
theorem length_dd : ∀ l : List Nat, (dd l).length ≤ l.length
  | [] => by simp [dd]
  | a :: l => by
    have := length_dd l
    unfold dd
    split <;> simp only [List.length_cons] <;> omega

def stored (s : Nat) (st : PSt) : List Nat := ((List.range s).filter fun i => st.full i).map fun i => (st.held i).toNat
theorem mem_stored {s : Nat} {st : PSt} {x : Nat} : x ∈ stored s st ↔ ∃ i, i < s ∧ st.full i = true ∧ (st.held i).toNat = x := by
  unfold stored
  simp only [List.mem_map, List.mem_filter, List.mem_range, and_assoc]
theorem length_stored (s : Nat) (st : PSt) : (stored s st).length ≤ s := by
  unfold stored
  rw [List.length_map]
  exact Nat.le_trans (List.length_filter_le _ _) (by simp)

def abs (s : Nat) (st : PSt) : St := ⟨st.now.toNat, st.left.toNat, dd (stored s st)⟩

/-- One valid action is one move, or one step ahead. -/
theorem step_move {n s : Nat} {st : PSt} (ok : StOk st) {op a sl : Int} (h : (stepF st op a sl n s).1 = true) :
    (op = 1 ∧ abs s (stepF st op a sl n s).2 = ⟨(abs s st).now + 1, (abs s st).left, (abs s st).S⟩ ∧ (abs s st).now + 1 ≤ n) ∨ (op ≠ 1 ∧ Mv s (abs s st) (abs s (stepF st op a sl n s).2)) := by
  obtain ⟨k1, k2, k3, k4, k5⟩ := ok
  unfold stepF at h ⊢
  split at h
  · rename_i h1
    rw [if_pos h1] at *
    split at h
    · simp at h
    · rename_i g
      rw [if_neg g]
      refine .inl ⟨h1, ?_, ?_⟩
      · have : a = st.now + 1 := by omega
        subst this
        show (⟨(st.now + 1).toNat, _, _⟩ : St) = ⟨st.now.toNat + 1, _, _⟩
        rw [show (st.now + 1).toNat = st.now.toNat + 1 by omega]
        rfl
      · show st.now.toNat + 1 ≤ n
        omega
  rename_i h1
  refine .inr ⟨h1, ?_⟩
  rw [if_neg h1]
  split at h
  · rename_i h2
    rw [if_pos h2]
    split at h
    · simp at h
    · rename_i g
      rw [if_neg g]
      refine .store (abs s st) _ (fun x hx => ?_) (nodup_dd _) (Nat.le_trans (length_dd _) (length_stored _ _))
      obtain ⟨i, hi, hf, he⟩ := mem_stored.1 (mem_dd.1 hx)
      have ha : a = st.now := by omega
      by_cases hs : i = sl.toNat
      · right
        simp only [if_pos hs] at he
        rw [← he, ha]; rfl
      · left
        simp only [if_neg hs] at he hf
        exact mem_dd.2 (mem_stored.2 ⟨i, hi, hf, he⟩)
  rename_i h2
  rw [if_neg h2]
  split at h
  · rename_i h3
    rw [if_pos h3]
    split at h
    · simp at h
    · rename_i g
      rw [if_neg g]
      refine .rest (abs s st) a.toNat ?_
      by_cases hi : sl = -1 ∧ a = 0
      · left; omega
      · right
        have h4 : ¬ (¬ (0 ≤ sl ∧ sl < (s : Int)) ∨ st.full sl.toNat = false ∨ st.held sl.toNat ≠ a) := fun q => g ⟨hi, q⟩
        have h5 : 0 ≤ sl ∧ sl < (s : Int) := by
          by_cases q : 0 ≤ sl ∧ sl < (s : Int)
          · exact q
          · exact absurd (.inl q) h4
        have h6 : st.full sl.toNat = true := by
          cases q : st.full sl.toNat
          · exact absurd (.inr (.inl q)) h4
          · rfl
        have h7 : st.held sl.toNat = a := by
          by_cases q : st.held sl.toNat = a
          · exact q
          · exact absurd (.inr (.inr q)) h4
        exact mem_dd.2 (mem_stored.2 ⟨sl.toNat, by omega, h6, by rw [h7]⟩)
  rename_i h3
  rw [if_neg h3]
  split at h
  · rename_i h4
    rw [if_pos h4]
    split at h
    · simp at h
    · rename_i g
      rw [if_neg g]
      have e1 : st.left.toNat = st.now.toNat + 1 := by omega
      have e2 : (st.left - 1).toNat = st.now.toNat := by omega
      have := Mv.rev (s := s) (abs s st) e1
      show Mv s (abs s st) ⟨st.now.toNat, (st.left - 1).toNat, _⟩
      rw [e2]
      exact this
  · simp at h

theorem run_of_plan {n s : Nat} (hn : n ≤ 64) : ∀ (l : List Actn) (i cost : Nat) (st : PSt) (a : Int), StOk st → planGo n s l i cost st = (a, 0) →
    ∃ (c : Nat → Nat) (e : St), Run s (abs s st) c e ∧ e.left = 0 ∧ a = (cost : Int) + sm c n
  | [], i, cost, st, a, ok, h => by
    unfold planGo at h
    split at h
    · simp at h
    · rename_i g
      refine ⟨_, _, .nil _, ?_, ?_⟩
      · show st.left.toNat = 0
        omega
      · rw [sm_zero]
        simp only [Prod.mk.injEq] at h
        omega
  | x :: l, i, cost, st, a, ok, h => by
    unfold planGo at h
    split at h
    · simp at h
    · rename_i g
      have g' : (stepF st x.1 x.2.1 x.2.2 n s).1 = true := by simpa using g
      obtain ⟨c, e, h1, h2, h3⟩ := run_of_plan hn l _ _ _ a (ok.step x.1 x.2.1 x.2.2 n s (by omega)) h
      rcases step_move ok g' with ⟨q1, q2, q3⟩ | ⟨q1, q2⟩
      · rw [if_pos q1] at h3
        rw [q2] at h1
        refine ⟨_, e, .adv h1, h2, ?_⟩
        rw [sm_bump _ _ (by omega), if_pos q3]
        omega
      · rw [if_neg q1] at h3
        exact ⟨c, e, .mv q2 h1, h2, h3⟩

theorem st0_ok (n : Nat) (hn : n ≤ 64) : StOk (st0 n) := ⟨by show (0 : Int) ≤ 0; omega, by show (0 : Int) ≤ 64; omega, by show (0 : Int) ≤ n; omega, by show (n : Int) ≤ 64; omega, fun i => ⟨by show (0 : Int) ≤ 0; omega, by show (0 : Int) ≤ 64; omega⟩⟩

/-- An accepted plan costs at least the cost. -/
theorem cost_le {n s : Nat} (hn : n ≤ 64) (hs : s ≤ 64) {l : List Actn} {a : Int} (h : planGo n s l 0 0 (st0 n) = (a, 0)) : (costF n s : Int) ≤ a := by
  obtain ⟨c, e, h1, h2, h3⟩ := run_of_plan hn l 0 0 (st0 n) a (st0_ok n hn) h
  obtain ⟨r, hr⟩ := costF_eq n s hn hs
  have hb := main s r n _ _ _ h1 rfl (fun x hx => by
    obtain ⟨i, _, hf, _⟩ := mem_stored.1 (mem_dd.1 hx)
    exact absurd hf (by simp [st0])) (by show ((n : Int)).toNat = n; omega) h2
  have := tok_sm r c n
  rw [hr]
  omega

/-- Still accepted with more slots. -/
theorem step_wide {st : PSt} {op a sl steps s t : Int} (hst : s ≤ t) (h : (stepF st op a sl steps s).1 = true) : stepF st op a sl steps t = stepF st op a sl steps s := by
  unfold stepF at h ⊢
  split at h
  · rename_i h1; rw [if_pos h1, if_pos h1]
  rename_i h1; rw [if_neg h1, if_neg h1]
  split at h
  · rename_i h2; rw [if_pos h2, if_pos h2]
    split at h
    · simp at h
    · rename_i g; rw [if_neg g, if_neg (by omega)]
  rename_i h2; rw [if_neg h2, if_neg h2]
  split at h
  · rename_i h3; rw [if_pos h3, if_pos h3]
    split at h
    · simp at h
    · rename_i g
      rw [if_neg g, if_neg]
      rintro ⟨g1, g2⟩
      refine g ⟨g1, ?_⟩
      rcases g2 with g2 | g2
      · left; omega
      · exact .inr g2
  · rename_i h3; rw [if_neg h3, if_neg h3]

theorem plan_wide {steps s t : Int} (hst : s ≤ t) : ∀ (l : List Actn) (i cost : Nat) (st : PSt) (a : Int), planGo steps s l i cost st = (a, 0) → planGo steps t l i cost st = (a, 0)
  | [], i, cost, st, a, h => h
  | x :: l, i, cost, st, a, h => by
    unfold planGo at h ⊢
    split at h
    · simp at h
    · rename_i g
      have g' : (stepF st x.1 x.2.1 x.2.2 steps s).1 = true := by simpa using g
      rw [step_wide hst g', if_neg g]
      exact plan_wide hst l _ _ _ a h

theorem cost_anti (n : Nat) (hn : n ≤ 64) (s : Nat) : ∀ k, s + k ≤ 64 → costF n (s + k) ≤ costF n s
  | 0, _ => Nat.le_refl _
  | k + 1, h => Nat.le_trans (ext3 n (s + k) hn (by omega)).1 (cost_anti n hn s k (by omega))
end Go.Proofs.Ytdanjghefhjmcaa.Min
