/-
  Plain laws of chapter 3: bounds of the rounding error, monotonicity, wrapping sums. No walk stands here.
-/
import Derived.Test.YtknojjmbhbbcmaaFixF
namespace Go.Proofs.Ytknojjmbhbbcmaa
open Go.RowKit
set_option linter.unusedVariables false
set_option linter.unusedSimpArgs false

theorem rcorr_01 (N d r : Int) : 0 ≤ rcorr N d r ∧ rcorr N d r ≤ 1 := by unfold rcorr; repeat' split <;> omega
theorem rcorr_zero {N d r : Int} (h : N % d = 0) : rcorr N d r = 0 := by unfold rcorr; rw [if_pos h]
theorem fit_in {q b o : Int} (hb : 2 ≤ b) (hb2 : b ≤ 31) (ho : o = 1 ∨ o = 2) (h1 : -(2 ^ (b.toNat - 1) : Int) ≤ q) (h2 : q ≤ 2 ^ (b.toNat - 1) - 1) : fitN q b o = q := by
  rw [fitN, narrowW, if_neg (by omega), if_pos ⟨h1, h2⟩]

/-- The rounding error. -/
theorem err_law {N d r q off a : Int} (hd : 1 ≤ d) (h1 : 1 ≤ r) (h4 : r ≤ 4) (hqd : q = N / d + rcorr N d r) (hof : off = q * d - N) (ha : a = if off < 0 then -off else off) :
    a < d ∧ (r = 4 → 2 * a ≤ d) ∧ N / d ≤ q ∧ q ≤ N / d + rcorr N d 2 := by
  have hm0 := Int.emod_nonneg N (show d ≠ 0 by omega)
  have hm1 := Int.emod_lt_of_pos N (show 0 < d by omega)
  have hN := Int.mul_ediv_add_emod N d
  have hq : q * d = d * (N / d) + rcorr N d r * d := by rw [hqd, Int.add_mul, Int.mul_comm (N / d) d]
  have hoff : off = rcorr N d r * d - N % d := by rw [hof, hq]; omega
  clear hof hq
  unfold rcorr at *
  by_cases hz : N % d = 0
  · simp only [hz, if_true, Int.zero_mul] at hoff hqd ⊢
    rw [ha]; split <;> omega
  · simp only [hz, if_false] at hoff hqd ⊢
    rcases (by omega : r = 1 ∨ r = 2 ∨ r = 3 ∨ r = 4) with rfl | rfl | rfl | rfl <;> simp at hoff hqd ⊢ <;> (repeat' (split at hoff)) <;> (repeat' (split at hqd)) <;> (try simp at hoff) <;> (rw [ha]; split <;> omega)

theorem err_law2 {N d r q QD O lo hi : Int} (hd : 1 ≤ d) (h1 : 1 ≤ r) (h4 : r ≤ 4) (hq : N / d + rcorr N d r = q) (hQD : q * d = QD) (hO : QD - N = O) (hlo : N / d = lo) (hhi : N / d + rcorr N d 2 = hi) :
    (O < 0 → -O < d ∧ (r = 4 → 2 * -O ≤ d)) ∧ (0 ≤ O → O < d ∧ (r = 4 → 2 * O ≤ d)) ∧ lo ≤ q ∧ q ≤ hi ∧ Hid (N / d + rcorr N d 1 = lo) := by
  obtain ⟨a1, a2, a3, a4⟩ := err_law (a := if O < 0 then -O else O) hd h1 h4 hq.symm (by rw [hQD, hO]) rfl
  rw [hlo] at a3
  rw [hhi] at a4
  have h5 : rcorr N d 1 = 0 := by unfold rcorr; split <;> simp
  refine ⟨fun ho => ?_, fun ho => ?_, a3, a4, Lib.hid (by rw [h5, hlo]; omega)⟩
  · rw [if_pos ho] at a1 a2; exact ⟨a1, a2⟩
  · rw [if_neg (by omega)] at a1 a2; exact ⟨a1, a2⟩

theorem floor_mono {N1 N2 d1 d2 : Int} (hd1 : 1 ≤ d1) (hd2 : 1 ≤ d2) (h : N1 * d2 ≤ N2 * d1) : N1 / d1 ≤ N2 / d2 := by
  refine Int.le_ediv_of_mul_le (by omega) ?_
  have e := Int.mul_ediv_add_emod N1 d1
  have m0 := Int.emod_nonneg N1 (show d1 ≠ 0 by omega)
  have l1 : d1 * (N1 / d1) ≤ N1 := by omega
  have l2 : d1 * (N1 / d1) * d2 ≤ N1 * d2 := Int.mul_le_mul_of_nonneg_right l1 (by omega)
  have l3 : d1 * (N1 / d1 * d2) ≤ d1 * N2 := by rw [← Int.mul_assoc, Int.mul_comm d1 N2]; omega
  exact Int.le_of_mul_le_mul_left l3 (by omega)

theorem neg_iff {d L m N : Int} (hd : 1 ≤ d) (e : d * L + m = N) (h0 : 0 ≤ m) (h1 : m < d) : N < 0 ↔ L < 0 := by
  constructor
  · intro h
    rcases (by omega : L < 0 ∨ 0 ≤ L) with g | g
    · exact g
    · have : 0 ≤ d * L := Int.mul_nonneg (by omega) g
      omega
  · intro h
    have : d * L ≤ d * (-1) := Int.mul_le_mul_of_nonneg_left (by omega) (by omega)
    omega

theorem round_mono {N1 N2 d1 d2 r : Int} (hd1 : 1 ≤ d1) (hd2 : 1 ≤ d2) (h : N1 * d2 ≤ N2 * d1) : N1 / d1 + rcorr N1 d1 r ≤ N2 / d2 + rcorr N2 d2 r := by
  have hf := floor_mono hd1 hd2 h
  have c1 := rcorr_01 N1 d1 r
  have c2 := rcorr_01 N2 d2 r
  by_cases hlt : N1 / d1 < N2 / d2
  · omega
  · have hL : N2 / d2 = N1 / d1 := by omega
    have e1 := Int.mul_ediv_add_emod N1 d1
    have e2 := Int.mul_ediv_add_emod N2 d2
    have a0 := Int.emod_nonneg N1 (show d1 ≠ 0 by omega)
    have a1 := Int.emod_lt_of_pos N1 (show 0 < d1 by omega)
    have b0 := Int.emod_nonneg N2 (show d2 ≠ 0 by omega)
    have b1 := Int.emod_lt_of_pos N2 (show 0 < d2 by omega)
    rw [hL] at e2
    have key : N1 % d1 * d2 ≤ N2 % d2 * d1 := by
      have x1 : N1 * d2 = d1 * (N1 / d1) * d2 + N1 % d1 * d2 := by rw [← Int.add_mul, e1]
      have x2 : N2 * d1 = d2 * (N1 / d1) * d1 + N2 % d2 * d1 := by rw [← Int.add_mul, e2]
      have x3 : d1 * (N1 / d1) * d2 = d2 * (N1 / d1) * d1 := by
        rw [Int.mul_comm d1, Int.mul_assoc, Int.mul_comm d2 (N1 / d1), Int.mul_assoc, Int.mul_comm d1 d2]
      omega
    have hneg : (N1 < 0 ↔ N1 / d1 < 0) ∧ (N2 < 0 ↔ N1 / d1 < 0) := by
      exact ⟨neg_iff hd1 e1 a0 a1, neg_iff hd2 e2 b0 b1⟩
    suffices hs : rcorr N1 d1 r = 1 → rcorr N2 d2 r = 1 by omega
    intro h1
    have hm1 : N1 % d1 ≠ 0 := fun hz => by rw [rcorr_zero hz] at h1; omega
    have hm2 : N2 % d2 ≠ 0 := fun hz => by
      rw [hz, Int.zero_mul] at key
      have : 1 * 1 ≤ N1 % d1 * d2 := Int.mul_le_mul (by omega) hd2 (by omega) (by omega)
      omega
    unfold rcorr at h1 ⊢
    rw [if_neg hm1] at h1
    rw [if_neg hm2, hL]
    have cross : ∀ x y : Int, x * d2 ≤ y * d1 → (d1 < x → d2 < y) ∧ (x = d1 → d2 ≤ y) := fun x y hxy => by
      refine ⟨fun hx => ?_, fun hx => ?_⟩
      · have : d1 * d2 < x * d2 := Int.mul_lt_mul_of_pos_right hx (by omega)
        have : d1 * d2 < d1 * y := by rw [Int.mul_comm d1 y]; omega
        exact Int.lt_of_mul_lt_mul_left this (by omega)
      · subst hx
        have : x * d2 ≤ x * y := by rw [Int.mul_comm x y]; exact hxy
        exact Int.le_of_mul_le_mul_left this (by omega)
    have k2 : 2 * (N1 % d1) * d2 ≤ 2 * (N2 % d2) * d1 := by rw [Int.mul_assoc, Int.mul_assoc]; omega
    obtain ⟨q1, q2⟩ := cross _ _ k2
    generalize N1 % d1 = m1 at *
    generalize N2 % d2 = m2 at *
    generalize N1 / d1 = L at *
    by_cases r2 : r = 2
    · rw [if_pos r2]
    rw [if_neg r2] at h1 ⊢
    by_cases r3 : r = 3
    · rw [if_pos r3] at h1 ⊢
      by_cases hn : N1 < 0
      · rw [if_pos (hneg.2.2 (hneg.1.1 hn))]
      · rw [if_neg hn] at h1; omega
    rw [if_neg r3] at h1 ⊢
    by_cases r4 : r = 4
    · rw [if_pos r4] at h1 ⊢
      by_cases hh : d1 < 2 * m1 ∨ (2 * m1 = d1 ∧ L % 2 ≠ 0)
      · refine if_pos ?_
        rcases hh with hh | ⟨hh, hp⟩
        · exact Or.inl (q1 hh)
        · have := q2 hh
          rcases (by omega : d2 < 2 * m2 ∨ 2 * m2 = d2) with g | g
          · exact Or.inl g
          · exact Or.inr ⟨g, hp⟩
      · rw [if_neg hh] at h1; omega
    · rw [if_neg r4] at h1; omega

theorem fit_sat (x b : Int) (hb : 2 ≤ b) (hb2 : b ≤ 31) : fitN x b 1 = if x < -(2 ^ (b.toNat - 1) : Int) then -(2 ^ (b.toNat - 1) : Int) else if (2 ^ (b.toNat - 1) : Int) - 1 < x then (2 ^ (b.toNat - 1) : Int) - 1 else x := by
  have hp := pow_bd b hb hb2
  rw [fitN, narrowW, if_neg (by omega)]
  by_cases h1 : -(2 ^ (b.toNat - 1) : Int) ≤ x ∧ x ≤ 2 ^ (b.toNat - 1) - 1
  · rw [if_pos h1, if_neg (by omega), if_neg (by omega)]
  · rw [if_neg h1, if_pos rfl]
    by_cases h2 : x < -(2 ^ (b.toNat - 1) : Int)
    · rw [if_pos h2, if_pos h2]
    · rw [if_neg h2, if_neg h2, if_pos (by omega)]
theorem fit_mono {x y b : Int} (hb : 2 ≤ b) (hb2 : b ≤ 31) (h : x ≤ y) : fitN x b 1 ≤ fitN y b 1 := by
  have hp := pow_bd b hb hb2
  rw [fit_sat x b hb hb2, fit_sat y b hb hb2]
  repeat' split
  all_goals omega

theorem fit_wrap (n b : Int) (hb : 2 ≤ b) (hb2 : b ≤ 31) : fitN n b 2 = (n + 2 ^ (b.toNat - 1)) % (2 * 2 ^ (b.toNat - 1)) - 2 ^ (b.toNat - 1) := by
  have hp := pow_bd b hb hb2
  rw [fitN, narrowW, if_neg (by omega), pow_twice b hb]
  by_cases h : -(2 ^ (b.toNat - 1) : Int) ≤ n ∧ n ≤ 2 ^ (b.toNat - 1) - 1
  · rw [if_pos h, Int.emod_eq_of_lt (by omega) (by omega)]
    show n = _
    omega
  · rw [if_neg h, if_neg (by omega)]
theorem fit_fit (x c b : Int) (hb : 2 ≤ b) (hb2 : b ≤ 31) : fitN (fitN x b 2 + c) b 2 = fitN (x + c) b 2 := by
  rw [fit_wrap x b hb hb2, fit_wrap _ b hb hb2, fit_wrap _ b hb hb2]
  generalize (2 : Int) ^ (b.toNat - 1) = P at *
  have : ((x + P) % (2 * P) - P + c + P) % (2 * P) = (x + c + P) % (2 * P) := by
    rw [show (x + P) % (2 * P) - P + c + P = (x + P) % (2 * P) + c by omega, Int.emod_add_emod, show x + P + c = x + c + P by omega]
  rw [this]
theorem vV_fit (n b o : Int) (hb : 2 ≤ b) (hb2 : b ≤ 31) (ho : o = 1 ∨ o = 2) : vV b (fitN n b o) 1 = true := by
  have hp := pow_bd b hb hb2
  have ht := pow_twice b hb
  have h1 := Int.emod_nonneg (n + 2 ^ (b.toNat - 1)) (show (2 : Int) * 2 ^ (b.toNat - 1) ≠ 0 by omega)
  have h2 := Int.emod_lt_of_pos (n + 2 ^ (b.toNat - 1)) (show (0 : Int) < 2 * 2 ^ (b.toNat - 1) by omega)
  rw [vV]
  refine decide_eq_true ⟨rfl, ?_⟩
  rcases ho with rfl | rfl
  · rw [fit_sat n b hb hb2]
    repeat' split
    all_goals omega
  · rw [fit_wrap n b hb hb2]
    omega
end Go.Proofs.Ytknojjmbhbbcmaa
