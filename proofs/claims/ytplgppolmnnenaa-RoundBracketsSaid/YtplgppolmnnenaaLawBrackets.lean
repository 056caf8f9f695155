/-
  RoundBrackets: the walk of the law.
-/
import Derived.Test.YtplgppolmnnenaaRoundB
import Derived.Test.YtplgppolmnnenaaM2
namespace Go.Proofs.Ytplgppolmnnenaa
open Go.ChangeShapes Go.WideShapes Go.ChangeAt Go.RowKit
theorem round_Divide_eq (n d how q e : Int) (h : divR n d how = (q, e)) (w1 : -9223372036854775808 ≤ n) (w2 : n ≤ 9223372036854775807) (w3 : -9223372036854775808 ≤ d) (w4 : d ≤ 9223372036854775807) (w : World) :
    Calls Try.prog 14 #[.int .i64 n, .int .i64 d, .int .i64 how] w fun e' w' => e' = .returned (.tuple #[.int .i64 q, .int .i64 e]) ∧ Up w w' := by
  have := round_Divide n d how w1 w2 w3 w4 w
  rw [h] at this
  exact this
end Go.Proofs.Ytplgppolmnnenaa
namespace Go.Proofs.Ytplgppolmnnenaa.roundBrackets
open Go.ChangeShapes Go.WideShapes Go.ChangeAt Go.RowKit
set_option linter.unusedVariables false

set_option maxHeartbeats 4000000 in
theorem core (W : World) (n d how Q H X E : Int) (hd1 : 1 ≤ d) (hd2 : d ≤ 2147483648) (hn1 : -1099511627776 ≤ n) (hn2 : n ≤ 1099511627776) (b1 : -9223372036854775808 ≤ how) (b2 : how ≤ 9223372036854775807)
    (hQ : Hid (divR n d 1 = (Q, 0))) (hH : Hid (divR n d 2 = (H, 0))) (hX : Hid (divR n d how = (X, E)))
    (q1 : -1099511627776 ≤ Q) (q2 : Q ≤ 1099511627776) (hh1 : H - Q ≤ 1) (hh2 : Q ≤ H) (P1 P2 : Int) (p1 : Q * d = P1) (p2 : H * d = P2) (p3 : P1 ≤ n) (p4 : n ≤ P2) (p5 : -9007199254740992 ≤ P1) (p6 : P2 ≤ 9007199254740992)
    (hb : ((Q == H) != (P1 == n)) = false) (hm : (1 ≤ how ∧ how ≤ 4 ∧ E = 0 ∧ ((X == Q) = true ∨ ((X == Q) = false ∧ (X == H) = true))) ∨ (how < 1 ∧ E = 1 ∧ X = 0) ∨ (1 ≤ how ∧ 4 < how ∧ E = 1 ∧ X = 0)) :
    Calls Try.prog 5 #[.int .i64 n, .int .i64 d, .int .i64 how] W fun e w' => e = .returned (.bool true) ∧ Up W w' := by
  have hU := Up.refl W
  have hb2 : (!(Q == H) == (P1 == n)) = false := hb
  rcases hm with ⟨m1, m2, rfl, m3 | ⟨m3, m4⟩⟩ | ⟨m1, rfl, rfl⟩ | ⟨m1, m2, rfl, rfl⟩
  all_goals
    go_enter Try.func5, Try.ntmps5
    go_wp2_with (first | (go_at_call_of 14 (Value.int IntKind.i64 1); refine (round_Divide_eq _ _ _ _ _ hQ.out (by omega) (by omega) (by omega) (by omega) _).mono ?_; rintro e x ⟨rfl, hx⟩; replace hU := hU.trans hx) | (go_at_call_of 14 (Value.int IntKind.i64 2); refine (round_Divide_eq _ _ _ _ _ hH.out (by omega) (by omega) (by omega) (by omega) _).mono ?_; rintro e x ⟨rfl, hx⟩; replace hU := hU.trans hx) | (go_at_call_of 14 (Value.int IntKind.i64 how); refine (round_Divide_eq _ _ _ _ _ hX.out (by omega) (by omega) (by omega) (by omega) _).mono ?_; rintro e x ⟨rfl, hx⟩; replace hU := hU.trans hx))
    go_ret
    exact ⟨rfl, hU⟩

theorem walk (W : World) {n d how : Int} (w0 : (Lit.int .i64 n).wf = true) (w1 : (Lit.int .i64 d).wf = true) (w2 : (Lit.int .i64 how).wf = true) :
    Calls Try.prog 5 #[.int .i64 n, .int .i64 d, .int .i64 how] W fun e w' => e = .returned (.bool true) ∧ Up W w' := by
  have b2 := bounds_i64 w2
  clear w0 w1 w2
  by_cases hd1 : 1 ≤ d
  · by_cases hd2 : d ≤ 2147483648
    · by_cases hn1 : -1099511627776 ≤ n
      · by_cases hn2 : n ≤ 1099511627776
        · have h := Int.mul_ediv_add_emod n d
          have h0 : 0 ≤ n % d := Int.emod_nonneg _ (by omega)
          have h1 : n % d < d := Int.emod_lt_of_pos _ (by omega)
          have e1 := divR_pos n d 1 rfl hd1 (by omega) (by omega)
          have e2 := divR_pos n d 2 rfl hd1 (by omega) (by omega)
          have r1 : rcorr n d 1 = 0 := by simp [rcorr]
          have r2 : rcorr n d 2 = if n % d = 0 then 0 else 1 := by simp [rcorr]
          rw [r1] at e1
          rw [r2] at e2
          have hq : n / d * d = n - n % d := by rw [Int.mul_comm]; omega
          have q0 : -1099511627776 ≤ n / d ∧ n / d ≤ 1099511627776 := by
            have a1 : n / d * d ≤ n := by omega
            constructor
            · by_cases hh : n / d < -1099511627776
              · have : (n / d + 1099511627776) * d ≤ (-1) * d := Int.mul_le_mul_of_nonneg_right (by omega) (by omega)
                rw [Int.add_mul] at this
                have a3 : 1099511627776 * 1 ≤ 1099511627776 * d := Int.mul_le_mul_of_nonneg_left hd1 (by omega)
                omega
              · omega
            · by_cases hh : 1099511627776 < n / d
              · have : 1099511627777 * d ≤ n / d * d := Int.mul_le_mul_of_nonneg_right (by omega) (by omega)
                omega
              · omega
          obtain ⟨X, E, hX, hm⟩ : ∃ X E, divR n d how = (X, E) ∧ ((1 ≤ how ∧ how ≤ 4 ∧ E = 0 ∧ (X = n / d ∨ (X ≠ n / d ∧ X = n / d + (if n % d = 0 then 0 else 1)))) ∨ (how < 1 ∧ E = 1 ∧ X = 0) ∨ (1 ≤ how ∧ 4 < how ∧ E = 1 ∧ X = 0)) := by
            by_cases hM : isMode how = true
            · refine ⟨_, _, divR_pos n d how hM hd1 (by omega) (by omega), ?_⟩
              have hw : 1 ≤ how ∧ how ≤ 4 := by simpa [isMode] using hM
              refine .inl ⟨hw.1, hw.2, rfl, ?_⟩
              unfold rcorr
              repeat' split
              all_goals omega
            · have hw : ¬ (1 ≤ how ∧ how ≤ 4) := by simpa [isMode] using hM
              refine ⟨0, 1, by rw [divR, if_pos (by simpa using hM)], ?_⟩
              omega
          by_cases hR : n % d = 0
          · rw [if_pos hR] at e2 hm
            rw [Int.add_zero] at e1 e2
            refine core W n d how (n / d) (n / d) X E hd1 hd2 hn1 hn2 b2.1 b2.2 (Lib.hid e1) (Lib.hid e2) (Lib.hid hX) q0.1 q0.2 (by omega) (by omega) n n (by omega) (by omega) (by omega) (by omega) (by omega) (by omega) (by simp) ?_
            simpa using hm
          · rw [if_neg hR] at e2 hm
            rw [Int.add_zero] at e1
            refine core W n d how (n / d) (n / d + 1) X E hd1 hd2 hn1 hn2 b2.1 b2.2 (Lib.hid e1) (Lib.hid e2) (Lib.hid hX) q0.1 q0.2 (by omega) (by omega) (n - n % d) (n - n % d + d) (by omega) (by rw [Int.add_mul]; omega) (by omega) (by omega) (by omega) (by omega) ?_ ?_
            · have a1 : (n / d == n / d + 1) = false := by simp; omega
              have a2 : (n - n % d == n) = false := by simp; omega
              rw [a1, a2]; rfl
            · simpa using hm
        · have hn3 : 1099511627776 < n := by omega
          go_enter Try.func5, Try.ntmps5
          go_wp2
          go_ret
          exact ⟨rfl, Up.refl _⟩
      · have hn3 : n < -1099511627776 := by omega
        go_enter Try.func5, Try.ntmps5
        go_wp2
        go_ret
        exact ⟨rfl, Up.refl _⟩
    · have hn3 : 2147483648 < d := by omega
      go_enter Try.func5, Try.ntmps5
      go_wp2
      go_ret
      exact ⟨rfl, Up.refl _⟩
  · have hn3 : d < 1 := by omega
    go_enter Try.func5, Try.ntmps5
    go_wp2
    go_ret
    exact ⟨rfl, Up.refl _⟩
end Go.Proofs.Ytplgppolmnnenaa.roundBrackets
