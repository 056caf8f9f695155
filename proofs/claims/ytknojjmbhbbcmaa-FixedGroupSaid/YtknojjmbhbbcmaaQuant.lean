/-
  Contracts: Quantize of package round.
-/
import Derived.Test.YtknojjmbhbbcmaaRoundB
import Derived.Test.YtknojjmbhbbcmaaM2
namespace Go.Proofs.Ytknojjmbhbbcmaa
open Go.ChangeShapes Go.WideShapes Go.ChangeAt Go.RowKit

def quantR (n d bits how : Int) : Int × Int :=
  if validF n d = false ∨ bits < 0 ∨ 30 < bits ∨ isMode how = false then (0, 1) else divR (n * 2 ^ bits.toNat) d how

theorem pow30 (k : Int) (h1 : 0 ≤ k) (h2 : k ≤ 30) : 1 ≤ (2 : Int) ^ k.toNat ∧ (2 : Int) ^ k.toNat ≤ 1073741824 := by
  have hk : k = 0 ∨ k = 1 ∨ k = 2 ∨ k = 3 ∨ k = 4 ∨ k = 5 ∨ k = 6 ∨ k = 7 ∨ k = 8 ∨ k = 9 ∨ k = 10 ∨ k = 11 ∨ k = 12 ∨ k = 13 ∨ k = 14 ∨ k = 15 ∨ k = 16 ∨ k = 17 ∨ k = 18 ∨ k = 19 ∨ k = 20 ∨ k = 21 ∨ k = 22 ∨ k = 23 ∨ k = 24 ∨ k = 25 ∨ k = 26 ∨ k = 27 ∨ k = 28 ∨ k = 29 ∨ k = 30 := by omega
  rcases hk with rfl | rfl | rfl | rfl | rfl | rfl | rfl | rfl | rfl | rfl | rfl | rfl | rfl | rfl | rfl | rfl | rfl | rfl | rfl | rfl | rfl | rfl | rfl | rfl | rfl | rfl | rfl | rfl | rfl | rfl | rfl
  all_goals decide

theorem mul_bd (n P A B : Int) (h1 : -A ≤ n) (h2 : n ≤ A) (hA : 0 ≤ A) (p1 : 0 ≤ P) (p2 : P ≤ B) : -(A * B) ≤ n * P ∧ n * P ≤ A * B := by
  have a1 : n * P ≤ A * P := Int.mul_le_mul_of_nonneg_right h2 p1
  have a2 : A * P ≤ A * B := Int.mul_le_mul_of_nonneg_left p2 hA
  have a3 : -A * P ≤ n * P := Int.mul_le_mul_of_nonneg_right h1 p1
  rw [Int.neg_mul] at a3
  omega

theorem validF_spec {n d : Int} (h : validF n d = true) : 1 ≤ d ∧ d ≤ 2147483647 ∧ -2147483647 ≤ n ∧ n ≤ 2147483647 ∧ Int.gcd n d = 1 := by simpa [validF] using h

theorem round_Quantize (n d bits how : Int) (w1 : -9223372036854775808 ≤ n) (w2 : n ≤ 9223372036854775807) (w : World) :
    Calls Try.prog 38 #[.agg #[.int .i64 n, .int .i64 d], .int .i64 bits, .int .i64 how] w fun e w' => e = .returned (.tuple #[.int .i64 (quantR n d bits how).1, .int .i64 (quantR n d bits how).2]) ∧ Up w w' := by
  have hU := Up.refl (w.alloc (.cells #[.int .i64 n, .int .i64 d] 25))
  have hV := (Up.refl w).alloc (.cells #[.int .i64 n, .int .i64 d] 25)
  by_cases hv : validF n d = true
  · obtain ⟨f1, f2, f3, f4, _⟩ := validF_spec hv
    have HV := Lib.hid hv
    by_cases c1 : bits < 0
    · have HN := Lib.hid (show quantR n d bits how = (0, 1) from (by rw [quantR, if_pos (Or.inr (Or.inl c1))]))
      clear hv
      go_enter Try.func38, Try.ntmps38
      go_wp2_with (go_at_call 39; refine (frac_Valid _ _ true HV.out (by omega) (by omega) _).mono ?_; rintro e x ⟨rfl, hx⟩; replace hU := hU.trans hx)
      go_ret2
      exact ⟨ret_ii (by rw [HN.out]) (by rw [HN.out]), hV.trans hU⟩
    · by_cases c2 : 30 < bits
      · have c0 : 0 ≤ bits := by omega
        have HN := Lib.hid (show quantR n d bits how = (0, 1) from (by rw [quantR, if_pos (Or.inr (Or.inr (Or.inl c2)))]))
        clear hv
        go_enter Try.func38, Try.ntmps38
        go_wp2_with (go_at_call 39; refine (frac_Valid _ _ true HV.out (by omega) (by omega) _).mono ?_; rintro e x ⟨rfl, hx⟩; replace hU := hU.trans hx)
        go_ret2
        exact ⟨ret_ii (by rw [HN.out]) (by rw [HN.out]), hV.trans hU⟩
      · have c0 : 0 ≤ bits := by omega
        have c3 : bits ≤ 30 := by omega
        by_cases hm : isMode how = true
        · have HM := Lib.hid hm
          have HN := Lib.hid (show quantR n d bits how = _ from (by rw [quantR, if_neg (by simp [hv, hm]; omega)]))
          obtain ⟨p1, p2⟩ := pow30 bits c0 c3
          obtain ⟨m1, m2⟩ := mul_bd n (2 ^ bits.toNat) 2147483647 1073741824 f3 f4 (by omega) (by omega) p2
          obtain ⟨m, hmm⟩ : ∃ m, n * 2 ^ bits.toNat = m := ⟨_, rfl⟩
          rw [hmm] at m1 m2
          have HMM := Lib.hid hmm
          clear hv hm p1 p2
          go_enter Try.func38, Try.ntmps38
          go_wp2_with (first | (go_at_call 39; refine (frac_Valid _ _ true HV.out (by omega) (by omega) _).mono ?_; rintro e x ⟨rfl, hx⟩; replace hU := hU.trans hx; obtain ⟨hc, hf⟩ := hU.both) | (go_at_call 55; refine (round_mode _ true HM.out _).mono ?_; rintro e x ⟨rfl, hx⟩; replace hU := hU.trans hx; clear hc hf; obtain ⟨hc, hf⟩ := hU.both) | (go_at_call 45; refine (round_Divide _ _ _ (by omega) (by omega) (by omega) (by omega) _).mono ?_; rintro e x ⟨rfl, hx⟩; replace hU := hU.trans hx))
          go_ret2
          exact ⟨ret_ii (by rw [HN.out, HMM.out]) (by rw [HN.out, HMM.out]), hV.trans hU⟩
        · have HM : Hid (isMode how = false) := Lib.hid (by simpa using hm)
          have HN := Lib.hid (show quantR n d bits how = (0, 1) from (by rw [quantR, if_pos (Or.inr (Or.inr (Or.inr HM.out)))]))
          clear hv hm
          go_enter Try.func38, Try.ntmps38
          go_wp2_with (first | (go_at_call 39; refine (frac_Valid _ _ true HV.out (by omega) (by omega) _).mono ?_; rintro e x ⟨rfl, hx⟩; replace hU := hU.trans hx) | (go_at_call 55; refine (round_mode _ false HM.out _).mono ?_; rintro e x ⟨rfl, hx⟩; replace hU := hU.trans hx))
          go_ret2
          exact ⟨ret_ii (by rw [HN.out]) (by rw [HN.out]), hV.trans hU⟩
  · have hv2 : validF n d = false := by simpa using hv
    have HV := Lib.hid hv2
    have HN := Lib.hid (show quantR n d bits how = (0, 1) from (by rw [quantR, if_pos (Or.inl hv2)]))
    clear hv hv2
    go_enter Try.func38, Try.ntmps38
    go_wp2_with (go_at_call 39; refine (frac_Valid _ _ false HV.out (by omega) (by omega) _).mono ?_; rintro e x ⟨rfl, hx⟩; replace hU := hU.trans hx)
    go_ret2
    exact ⟨ret_ii (by rw [HN.out]) (by rw [HN.out]), hV.trans hU⟩
end Go.Proofs.Ytknojjmbhbbcmaa
