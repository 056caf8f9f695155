/-
  What Optimize hands back: valid, nothing unreachable, nothing left to do. Plain.
-/
import Derived.Test.YtbpojmhgifgfdaaDoorPeTm
namespace Go.Proofs.YtbpojmhgifgfdaaDoor
open Go.ChangeShapes Go.WideShapes Go.ChangeAt Go.RowKit
set_option linter.unusedVariables false
set_option linter.unusedSimpArgs false
set_option maxRecDepth 100000

theorem valB_A {x : Ins} {many types words many' A : Int} (h : valB x many types words = true) (hj : jumpsB x.1 = true) (h0 : 0 ≤ A) (h1 : A < many') (h2 : A ≤ 65535) : valB (x.1, A, x.2.2) many' types words = true := by
  unfold valB at h ⊢
  rw [wf_form] at h ⊢
  dsimp only at h ⊢
  rw [hj] at h ⊢
  simp only [formB, Bool.and_eq_true, if_true, decide_eq_true_eq] at h ⊢
  obtain ⟨⟨hk, hf, hr⟩, hm⟩ := h
  refine ⟨⟨hk, ?_, hr⟩, h1⟩
  rw [kd_t hj]
  show inB A 0 65535 = true
  simp only [inB, decide_eq_true_eq]
  exact ⟨h0, h2⟩
theorem valB_N {x : Ins} {many types words many' : Int} (h : valB x many types words = true) (hj : jumpsB x.1 = false) : valB x many' types words = true := by
  unfold valB at h ⊢
  rw [hj] at h ⊢
  exact h
theorem fin_range {l : List Ins} (h : ∀ x ∈ l, jumpsB x.1 = true → 0 ≤ x.2.1 ∧ x.2.1 < (l.length : Int)) {t : Int} (ht : 0 ≤ t ∧ t < (l.length : Int)) : ∀ (k : Nat) (a : Int), 0 ≤ a ∧ a < (l.length : Int) → 0 ≤ finG l t k a ∧ finG l t k a < (l.length : Int)
  | 0, a, ha => by
    unfold finG
    split
    · exact ht
    · exact ha
  | k + 1, a, ha => by
    unfold finG
    split
    · exact ha
    · rename_i hc
      have h7 : (l.getD a.toNat i0).1 = 7 := Classical.byContradiction fun h => hc (.inr (.inr h))
      exact fin_range h ht k _ (h _ (getD_mem (by omega)) (by rw [h7]; rfl))
theorem remG_mem {i : Int} {y : Ins} : ∀ (l : List Ins) (k : Int), y ∈ remG l k i → ∃ p, p < l.length ∧ k + (p : Int) ≠ i ∧ y = decA (l.getD p i0) i
  | [], k, h => absurd h (by simp [remG])
  | x :: r, k, h => by
    rw [remG_cons] at h
    rcases List.mem_append.1 h with h | h
    · by_cases he : k = i
      · rw [if_pos he] at h; cases h
      · rw [if_neg he] at h
        exact ⟨0, by simp, by simpa using he, List.mem_singleton.1 h⟩
    · obtain ⟨p, h1, h2, h3⟩ := remG_mem r (k + 1) h
      exact ⟨p + 1, by simp; omega, by push_cast; omega, h3⟩
theorem jump_target {l : List Ins} {ts : List Typ} {words : Int} (hv : ValidB l ts words) : ∀ x ∈ l, jumpsB x.1 = true → 0 ≤ x.2.1 ∧ x.2.1 < (l.length : Int) := fun x hx hj => valid_jump (hv.2.2.2 x hx) hj
theorem rem_valid {l : List Ins} {ts : List Typ} {words : Int} (hv : ValidB l ts words) {j : Nat} (hj : j < l.length) (hlast : ∀ p, p < l.length → p ≠ j → jumpsB (l.getD p i0).1 = true → (l.getD p i0).2.1 = j → j + 1 < l.length) : ValidB (remF l j) ts words := by
  have hlen : (remF l j).length + 1 = l.length := remG_len1 l 0 j (by omega) (by omega)
  refine ⟨by have := hv.1; omega, hv.2.1, hv.2.2.1, fun y hy => ?_⟩
  obtain ⟨p, hp, hpj, rfl⟩ := remG_mem l 0 hy
  have hx := hv.2.2.2 _ (getD_mem hp)
  have hl := hlast p hp (by omega)
  have h16 := hv.1
  generalize l.getD p i0 = x at *
  cases hjm : jumpsB x.1 with
  | false =>
    have e : decA x j = x := by unfold decA; rw [hjm]; simp
    rw [e]; exact valB_N hx hjm
  | true =>
    obtain ⟨h0, h1⟩ := valid_jump hx hjm
    unfold decA
    rw [hjm]
    by_cases hjA : (j : Int) < x.2.1
    · rw [if_pos (by simpa using hjA)]
      exact valB_A hx hjm (by omega) (by omega) (by omega)
    · rw [if_neg (by simpa using hjA)]
      have : x.2.1 < ((remF l j).length : Int) := by
        rcases Int.lt_or_eq_of_le (show x.2.1 ≤ j by omega) with h | h
        · omega
        · have := hl hjm h; omega
      exact valB_A (A := x.2.1) hx hjm h0 this (by omega)
theorem set_valid {l : List Ins} {ts : List Typ} {words : Int} (hv : ValidB l ts words) {j : Nat} (hj : j < l.length) (hjm : jumpsB (l.getD j i0).1 = true) : ValidB (setA l j (finF l (l.getD j i0).2.1)) ts words := by
  have ht := jump_target hv _ (getD_mem hj) hjm
  have hf : 0 ≤ finF l (l.getD j i0).2.1 ∧ finF l (l.getD j i0).2.1 < (l.length : Int) := fin_range (jump_target hv) ht _ _ ht
  have h16 := hv.1
  refine ⟨by rw [setA_len]; exact hv.1, hv.2.1, hv.2.2.1, fun y hy => ?_⟩
  rw [setA_len]
  unfold setA at hy
  rcases List.mem_or_eq_of_mem_set hy with hy | rfl
  · exact hv.2.2.2 y hy
  · exact valB_A (hv.2.2.2 _ (getD_mem hj)) hjm hf.1 hf.2 (by omega)
theorem step_valid {l r : List Ins} {ts : List Typ} {words : Int} (hv : ValidB l ts words) (h : stepF l ts words = some r) : ValidB r ts words := by
  unfold stepF at h
  split at h
  · obtain ⟨j, _, hj, hb, hr⟩ := scanF_at l.length 0 (by omega) h
    obtain ⟨hc, hcl⟩ := reachF_closed l
    rcases hr with ⟨hg, rfl⟩ | ⟨hg, hi, rfl⟩ | ⟨hg, ht, rfl⟩
    · refine rem_valid hv hj fun p hp hpj hjm hA => ?_
      refine Classical.byContradiction fun hlt => ?_
      have hpl : p < j := by omega
      have hsp := hb p (Nat.zero_le _) hpl
      unfold goneB at hsp hg
      have hsp : (reachF l).getD p false = true := by simpa using hsp
      have hg : (reachF l).getD j false = false := by simpa using hg
      rcases hc p hp hsp (j : Int) (by
        unfold succF
        rw [hjm, if_pos rfl]
        exact List.mem_append.2 (.inl (by rw [hA]; exact List.mem_singleton.2 rfl))) (by omega) (by omega) with h | h
      · rw [Int.toNat_natCast, hg] at h; cases h
      · cases h
    · refine rem_valid hv hj fun p hp hpj hjm hA => ?_
      unfold idleAt at hi
      simp only [Bool.and_eq_true, decide_eq_true_eq] at hi
      exact hi.1
    · refine set_valid hv hj ?_
      unfold threadB at ht
      simp only [Bool.and_eq_true] at ht
      exact ht.1
  · cases h
theorem scan_none {l : List Ins} {seen : List Bool} : ∀ (k i : Nat), scanF l seen k i = none → ∀ p, i ≤ p → p < i + k → goneB seen p = false
  | 0, i, _, p, h1, h2 => by omega
  | k + 1, i, h, p, h1, h2 => by
    unfold scanF at h
    cases h0 : goneB seen i with
    | true => rw [h0, if_pos rfl] at h; cases h
    | false =>
      rcases Nat.eq_or_lt_of_le h1 with rfl | h1
      · exact h0
      · rw [h0, if_neg (by simp)] at h
        split at h
        · cases h
        · split at h
          · cases h
          · exact scan_none k (i + 1) h p h1 (by omega)
theorem unF_nil : ∀ (s : List Bool) (i : Int), (∀ b ∈ s, b = true) → unF s i = []
  | [], _, _ => rfl
  | b :: r, i, h => by
    have := h b (List.mem_cons_self ..)
    subst this
    show [] ++ unF r (i + 1) = []
    rw [List.nil_append]
    exact unF_nil r (i + 1) fun b hb => h b (List.mem_cons_of_mem _ hb)
theorem done_reach {r : List Ins} {ts : List Typ} {words : Int} (hv : ValidB r ts words) (h : stepF r ts words = none) : unreachF r = [] := by
  unfold stepF at h
  rw [if_pos ((valid_iff r ts words).2 hv)] at h
  refine unF_nil _ _ fun b hb => ?_
  obtain ⟨p, hp, rfl⟩ := List.getElem_of_mem hb
  have := scan_none _ _ h p (Nat.zero_le _) (by rw [← (reachF_closed r).2]; omega)
  unfold goneB at this
  rw [List.getD_eq_getElem?_getD, List.getElem?_eq_getElem hp] at this
  simpa using this
theorem complete_of {ts : List Typ} {words : Int} {r : List Ins} : ∀ (k : Nat) {l : List Ins}, ValidB l ts words → OptTo ts words k l r → ValidB r ts words ∧ stepF r ts words = none ∧ unreachF r = [] ∧ r.length ≤ l.length
  | 0, l, hv, h => by
    obtain ⟨h1, rfl⟩ := h
    exact ⟨hv, h1, done_reach hv h1, Nat.le_refl _⟩
  | k + 1, l, hv, h => by
    obtain ⟨l', h1, h2⟩ := h
    obtain ⟨g1, g2, g3, g4⟩ := complete_of k (step_valid hv h1) h2
    exact ⟨g1, g2, g3, Nat.le_trans g4 (stepF_len h1)⟩
end Go.Proofs.YtbpojmhgifgfdaaDoor
