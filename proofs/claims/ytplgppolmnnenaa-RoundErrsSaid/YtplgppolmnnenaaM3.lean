/-
  Plain facts: the rounding error of a quantization, in lowest terms.
-/
import Derived.Test.YtplgppolmnnenaaResid
namespace Go.Proofs.Ytplgppolmnnenaa
open Go.RowKit
set_option linter.unusedSimpArgs false

/-- The residual as a fraction: the numerator times the power is the error times something. -/
theorem resid_law (n d k how : Int) (hk0 : 0 ≤ k) (hk1 : k ≤ 30) (N D : Int) (h : resR n d k how = (N, D, 0)) :
    1 ≤ D ∧ D ≤ 2147483647 ∧ N ≤ 2147483647 ∧ -2147483647 ≤ N ∧ isMode how = true ∧
      (how = 1 → 0 ≤ N * 2 ^ k.toNat ∧ N * 2 ^ k.toNat < D) ∧ (how = 2 → N * 2 ^ k.toNat ≤ 0 ∧ -D < N * 2 ^ k.toNat) ∧
      (how = 4 → 2 * (N * 2 ^ k.toNat) ≤ D ∧ -D ≤ 2 * (N * 2 ^ k.toNat)) ∧ (N * 2 ^ k.toNat < D ∧ -D < N * 2 ^ k.toNat) := by
  unfold resR at h
  split at h
  · rename_i he
    simp only [Prod.mk.injEq] at h
    exact absurd h.2.2 he
  · rename_i he
    obtain ⟨q, hq⟩ : ∃ q, quantR n d k how = (q, 0) := ⟨(quantR n d k how).1, Prod.ext rfl (by simpa using he)⟩
    obtain ⟨hv, _, _, hm, hqe⟩ := quant_ok hq
    obtain ⟨f1, f2, f3, f4, _⟩ := validF_spec hv
    obtain ⟨p1, p2⟩ := pow30 k hk0 hk1
    rw [hq] at h
    simp only at h
    generalize hP : (2 : Int) ^ k.toNat = P at *
    have hE := Int.mul_ediv_add_emod (n * P) d
    have h0 : 0 ≤ n * P % d := Int.emod_nonneg _ (by omega)
    have h1 : n * P % d < d := Int.emod_lt_of_pos _ (by omega)
    have hdP : 1 ≤ d * P := by
      have := Int.mul_le_mul_of_nonneg_left p1 (show 0 ≤ d by omega)
      omega
    obtain ⟨g, hg⟩ : ∃ g, (Int.gcd (n * P - q * d) (d * P) : Int) = g := ⟨_, rfl⟩
    obtain ⟨g1, hnf⟩ := newF_ref _ _ g hdP hg
    rw [hnf] at h
    split at h
    · simp at h
    · rename_i hb
      simp only [Prod.mk.injEq, and_true] at h
      obtain ⟨hN, hD⟩ := h
      rw [hN, hD] at hb
      have e1 : N * g = n * P - q * d := by
        rw [← hN]
        exact Int.tdiv_mul_cancel (by rw [← hg]; exact Int.gcd_dvd_left _ _)
      have e2 : D * g = d * P := by
        rw [← hD]
        exact Int.ediv_mul_cancel (by rw [← hg]; exact Int.gcd_dvd_right _ _)
      have hE2 : n * P - q * d = n * P % d - rcorr (n * P) d how * d := by
        rw [hqe, Int.add_mul, Int.mul_comm (n * P / d)]; omega
      rw [hE2] at e1
      generalize hR : n * P % d = R at *
      obtain ⟨c, hc⟩ : ∃ c, rcorr (n * P) d how = c := ⟨_, rfl⟩
      have C1 : c = 0 ∨ (c = 1 ∧ R ≠ 0) := by rw [← hc, rcorr, hR]; (repeat' split) <;> omega
      have C2 : how = 1 → c = 0 := fun e => by rw [← hc, rcorr, hR, e]; (repeat' split) <;> omega
      have C3 : how = 2 → R ≠ 0 → c = 1 := fun e h => by rw [← hc, rcorr, hR, e, if_neg h]; simp
      have C4 : how = 4 → (c = 0 ∧ 2 * R ≤ d) ∨ (c = 1 ∧ d ≤ 2 * R) := fun e => by rw [← hc, rcorr, hR, e]; (repeat' split) <;> omega
      rw [hc] at e1
      obtain ⟨E, hEE⟩ : ∃ E, R - c * d = E := ⟨_, rfl⟩
      have hE3 : c = 0 → E = R := fun e => by rw [← hEE, e]; omega
      have hE4 : c = 1 → E = R - d := fun e => by rw [← hEE, e]; omega
      rw [hEE] at e1
      have up : ∀ a b : Int, a * d ≤ b * E → a * D ≤ b * (N * P) := fun a b ha => by
        have h3 := Int.mul_le_mul_of_nonneg_right ha (show 0 ≤ P by omega)
        have x1 : a * d * P = a * D * g := by rw [Int.mul_assoc, ← e2, Int.mul_assoc]
        have x2 : b * E * P = b * (N * P) * g := by rw [← e1]; simp only [Int.mul_assoc, Int.mul_comm, Int.mul_left_comm]
        rw [x1, x2] at h3
        exact Int.le_of_mul_le_mul_right h3 (by omega)
      have lo : ∀ a b : Int, b * E < a * d → b * (N * P) < a * D := fun a b ha => by
        have h3 := Int.mul_lt_mul_of_pos_right ha (show 0 < P by omega)
        have x1 : a * d * P = a * D * g := by rw [Int.mul_assoc, ← e2, Int.mul_assoc]
        have x2 : b * E * P = b * (N * P) * g := by rw [← e1]; simp only [Int.mul_assoc, Int.mul_comm, Int.mul_left_comm]
        rw [x1, x2] at h3
        exact Int.lt_of_mul_lt_mul_right h3 (by omega)
      have hD1 : 1 ≤ D := by
        have : 0 < D * g := by omega
        have := Int.pos_of_mul_pos_left this (by omega)
        omega
      have u1 := up 0 1
      have u2 := up (-1) 2
      have u3 := up (-1) 1
      have l1 := lo 1 1
      have l2 := lo (-1) (-1)
      have l3 := up 0 (-1)
      have l4 := up (-1) (-2)
      have l5 := lo 1 (-1)
      generalize N * P = X at *
      refine ⟨hD1, by omega, by omega, by omega, hm, fun e => ?_, fun e => ?_, fun e => ?_, ?_⟩
      · have := C2 e
        omega
      · by_cases hr : R = 0
        · omega
        · have := C3 e hr
          omega
      · rcases C4 e with hh | hh
        · omega
        · omega
      · omega
end Go.Proofs.Ytplgppolmnnenaa
