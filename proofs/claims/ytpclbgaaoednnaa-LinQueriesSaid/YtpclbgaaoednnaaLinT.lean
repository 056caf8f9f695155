/-
  Checked sums and products of 64-bit numbers, both sides.
-/
import Derived.Test.YtpclbgaaoednnaaLinE
namespace Go.Proofs.Ytpclbgaaoednnaa
open Go.ChangeShapes Go.WideShapes Go.ChangeAt Go.RowKit
set_option linter.unusedVariables false

def mulR (a b : Int) : Int × Bool := if fitB (a * b) then (a * b, true) else (0, false)
theorem fit_true {n : Int} (h : -9223372036854775808 ≤ n ∧ n ≤ 9223372036854775807) : fitB n = true := by
  unfold fitB; simp; omega
theorem fit_false {n : Int} (h : ¬ (-9223372036854775808 ≤ n ∧ n ≤ 9223372036854775807)) : fitB n = false := by
  unfold fitB; simp; omega

set_option maxHeartbeats 2000000 in
theorem lin_times (a b : Int) (ha : In64 a) (hb : In64 b) (w : World) :
    Calls Try.prog 56 #[.int .i64 a, .int .i64 b] w fun e w' => e = .returned (.tuple #[.int .i64 (mulR a b).1, .bool (mulR a b).2]) ∧ w' = w := by
  obtain ⟨b0, b1'⟩ := ha
  obtain ⟨x0, x1'⟩ := hb
  obtain ⟨mb, hmb⟩ : ∃ m, mag a = m := ⟨_, rfl⟩
  obtain ⟨mx, hmx⟩ : ∃ m, mag b = m := ⟨_, rfl⟩
  have HMB : Hid (∀ w, Calls Try.prog 46 #[.int .i64 a] w fun e w' => e = .returned (.int .u64 mb) ∧ w' = w) := Lib.hid (hmb ▸ lin_magnitude a b0 b1')
  have HMX : Hid (∀ w, Calls Try.prog 46 #[.int .i64 b] w fun e w' => e = .returned (.int .u64 mx) ∧ w' = w) := Lib.hid (hmx ▸ lin_magnitude b x0 x1')
  obtain ⟨r1, r2, r3⟩ := mag_range a ⟨b0, b1'⟩
  obtain ⟨r4, r5, r6⟩ := mag_range b ⟨x0, x1'⟩
  obtain ⟨r7, r8⟩ := mag_mul_le a b ⟨b0, b1'⟩ ⟨x0, x1'⟩
  have hsm := sign_mul a b
  rw [hmb] at r1 r2 r7 r8 hsm
  rw [hmx] at r4 r5 r7 r8 hsm
  obtain ⟨P, hP⟩ : ∃ P, mb * mx = P := ⟨_, rfl⟩
  obtain ⟨Hi, hHi⟩ : ∃ H, P / 18446744073709551616 = H := ⟨_, rfl⟩
  obtain ⟨Lo, hLo⟩ : ∃ L, P % 18446744073709551616 = L := ⟨_, rfl⟩
  have HPR : Hid (∀ w, Calls Try.prog 49 #[.int .u64 mb, .int .u64 mx] w fun e w' => e = .returned (.tuple #[.int .u64 Hi, .int .u64 Lo]) ∧ w' = w) := Lib.hid (fun w => by
    have := lin_product mb mx r1 r2 r4 r5 w
    rw [hP, hHi, hLo] at this
    exact this)
  rw [hP] at r7 r8 hsm
  obtain ⟨neg, hng⟩ : ∃ g, (!(decide (a < 0) == decide (b < 0))) = g := ⟨_, rfl⟩
  rw [show (decide (a < 0) != decide (b < 0)) = neg from hng] at hsm
  have HNG := Lib.hid hng
  have hPP : P = Hi * 18446744073709551616 + Lo := by omega
  have hz : 0 ≤ Hi ∧ 0 ≤ Lo ∧ Lo < 18446744073709551616 := by omega
  obtain ⟨z1, z2, z3⟩ := hz
  obtain ⟨q, hq⟩ : ∃ q, mulR a b = q := ⟨_, rfl⟩
  have HQ : Hid ((if fitB (if neg then -P else P) then ((if neg then -P else P), true) else (0, false)) = q) := Lib.hid (by rw [hsm, ← hq]; rfl)
  have HPP := Lib.hid hPP
  rw [hq]
  clear hng hsm hmb hmx hHi hLo hP r3 r6 r7 r8 hPP hq
  go_enter Try.func56, Try.ntmps56
  go_wp2_with fail
  refine (HMB.out _).mono ?_
  rintro e x5 ⟨rfl, hx5⟩
  replace hx5 := hx5.symm
  subst hx5
  go_wp2_with fail
  refine (HMX.out _).mono ?_
  rintro e x5 ⟨rfl, hx5⟩
  replace hx5 := hx5.symm
  subst hx5
  go_wp2_with fail
  refine (HPR.out _).mono ?_
  rintro e x5 ⟨rfl, hx5⟩
  replace hx5 := hx5.symm
  subst hx5
  have hng := HNG.out
  by_cases h1 : Hi = 0
  · subst h1
    by_cases h2 : 9223372036854775808 < Lo
    · have HF : Hid (q = (0, false)) := Lib.hid (by
        have := HPP.out
        rw [← HQ.out, fit_false (by split <;> omega)]; rfl)
      clear HQ
      go_wp2
      go_ret2
      exact ⟨ret_ib (by rw [HF.out]) (by rw [HF.out]), rfl⟩
    · by_cases h3 : Lo = 9223372036854775808
      · subst h3
        cases neg
        · have HF : Hid (q = (0, false)) := Lib.hid (by
            have := HPP.out
            rw [← HQ.out, fit_false (by simp; omega)]; rfl)
          clear HQ
          go_wp2
          go_ret2
          exact ⟨ret_ib (by rw [HF.out]) (by rw [HF.out]), rfl⟩
        · have HF : Hid (q = (-9223372036854775808, true)) := Lib.hid (by
            have := HPP.out
            rw [← HQ.out, fit_true (by simp; omega)]; simp; omega)
          clear HQ
          go_wp2
          go_ret2
          exact ⟨ret_ib (by rw [HF.out]; exact wrap_i64_neg _ (by omega) (by omega)) (by rw [HF.out]), rfl⟩
      · have h4 : (Lo == 9223372036854775808) = false := by simpa using h3
        cases neg
        · have HF : Hid (q = (Lo, true)) := Lib.hid (by
            have := HPP.out
            rw [← HQ.out, fit_true (by simp; omega)]; simp; omega)
          have h5 : wrap64 Lo = Lo := by unfold wrap64; omega
          clear HQ
          go_wp2
          go_ret2
          exact ⟨ret_ib (by rw [HF.out]) (by rw [HF.out]), rfl⟩
        · have HF : Hid (q = (-Lo, true)) := Lib.hid (by
            have := HPP.out
            rw [← HQ.out, fit_true (by simp; omega)]; simp; omega)
          have h5 : wrap64 (IntKind.u64.wrap (-Lo)) = -Lo := wrap_i64_neg Lo z2 (by omega)
          clear HQ
          go_wp2
          go_ret2
          exact ⟨ret_ib (by rw [HF.out]; exact wrap_i64_neg _ (by omega) (by omega)) (by rw [HF.out]), rfl⟩
  · have h2 : (Hi == 0) = false := by simpa using h1
    have HF : Hid (q = (0, false)) := Lib.hid (by
      have := HPP.out
      rw [← HQ.out, fit_false (by split <;> omega)]; rfl)
    clear HQ
    go_wp2
    go_ret2
    exact ⟨ret_ib (by rw [HF.out]) (by rw [HF.out]), rfl⟩

def addR (a b : Int) : Int × Bool := if fitB (a + b) then (a + b, true) else (0, false)

theorem lin_plus (a b : Int) (ha : In64 a) (hb : In64 b) (w : World) :
    Calls Try.prog 58 #[.int .i64 a, .int .i64 b] w fun e w' => ∃ c, e = .returned (.tuple #[.int .i64 c, .bool (fitB (a + b))]) ∧ (fitB (a + b) = true → c = a + b) ∧ (c = 0 ↔ wrap64 (a + b) = 0) ∧ In64 c ∧ w' = w := by
  obtain ⟨a0, a1⟩ := ha
  obtain ⟨b0, b1⟩ := hb
  have hw : wrap64 (a + b) = (if a + b < -9223372036854775808 then a + b + 18446744073709551616 else if 9223372036854775807 < a + b then a + b - 18446744073709551616 else a + b) := by
    unfold wrap64; split
    · omega
    · split <;> omega
  have hi : In64 (wrap64 (a + b)) := by unfold In64; rw [hw]; split <;> (try split) <;> omega
  have hf : (decide (a < wrap64 (a + b)) == decide (0 < b)) = fitB (a + b) := by
    rw [hw]
    by_cases h1 : a + b < -9223372036854775808
    · rw [if_pos h1, decide_eq_true (by omega), decide_eq_false (by omega : ¬ 0 < b), fit_false (by omega)]; rfl
    · rw [if_neg h1]
      by_cases h2 : 9223372036854775807 < a + b
      · rw [if_pos h2, decide_eq_false (by omega), decide_eq_true (by omega : 0 < b), fit_false (by omega)]; rfl
      · rw [if_neg h2, fit_true (by omega)]
        by_cases h3 : 0 < b
        · rw [decide_eq_true (by omega), decide_eq_true h3]; rfl
        · rw [decide_eq_false (by omega), decide_eq_false h3]; rfl
  have hc : fitB (a + b) = true → wrap64 (a + b) = a + b := fun h => by
    unfold fitB at h; simp at h
    rw [hw]; split <;> (try split) <;> omega
  obtain ⟨c, hcc⟩ : ∃ c, wrap64 (a + b) = c := ⟨_, rfl⟩
  rw [hcc] at hf hc hi
  obtain ⟨f, hff⟩ : ∃ f, fitB (a + b) = f := ⟨_, rfl⟩
  rw [hff] at hf hc ⊢
  have HF := Lib.hid hf
  have HCC := Lib.hid hcc
  clear hw hf hff
  go_enter Try.func58, Try.ntmps58
  go_wp2
  go_ret2
  refine ⟨c, ret_ib ?_ ?_, hc, by rw [HCC.out], hi, rfl⟩
  · first | rfl | exact HCC.out
  · rw [← HF.out]

theorem base_Plus (a b : Int) (ha : In64 a) (hb : In64 b) (w : World) :
    Calls Try.prog 61 #[.int .i64 a, .int .i64 b] w fun e w' => e = .returned (.tuple #[.int .i64 (addR a b).1, .bool (addR a b).2]) ∧ w' = w := by
  obtain ⟨a0, a1⟩ := ha
  obtain ⟨b0, b1⟩ := hb
  obtain ⟨q, hq⟩ : ∃ q, addR a b = q := ⟨_, rfl⟩
  have HQ : Hid ((if fitB (a + b) then (a + b, true) else (0, false)) = q) := Lib.hid hq
  rw [hq]
  clear hq
  by_cases h1 : 0 < b
  · by_cases h2 : 9223372036854775807 - b < a
    · have HF : Hid (q = (0, false)) := Lib.hid (by rw [← HQ.out, fit_false (by omega)]; rfl)
      clear HQ
      go_enter Try.func61, Try.ntmps61
      go_wp2
      go_ret2
      exact ⟨ret_ib (by rw [HF.out]) (by rw [HF.out]), rfl⟩
    · have HF : Hid (q = (a + b, true)) := Lib.hid (by rw [← HQ.out, fit_true (by omega)]; rfl)
      clear HQ
      go_enter Try.func61, Try.ntmps61
      go_wp2
      go_ret2
      exact ⟨ret_ib (by rw [HF.out]) (by rw [HF.out]), rfl⟩
  · by_cases h3 : b < 0
    · by_cases h2 : a < -9223372036854775808 - b
      · have HF : Hid (q = (0, false)) := Lib.hid (by rw [← HQ.out, fit_false (by omega)]; rfl)
        clear HQ
        go_enter Try.func61, Try.ntmps61
        go_wp2
        go_ret2
        exact ⟨ret_ib (by rw [HF.out]) (by rw [HF.out]), rfl⟩
      · have HF : Hid (q = (a + b, true)) := Lib.hid (by rw [← HQ.out, fit_true (by omega)]; rfl)
        clear HQ
        go_enter Try.func61, Try.ntmps61
        go_wp2
        go_ret2
        exact ⟨ret_ib (by rw [HF.out]) (by rw [HF.out]), rfl⟩
    · obtain rfl : b = 0 := by omega
      have HF : Hid (q = (a, true)) := Lib.hid (by rw [← HQ.out, fit_true (by omega), Int.add_zero]; rfl)
      clear HQ
      go_enter Try.func61, Try.ntmps61
      go_wp2
      go_ret2
      exact ⟨ret_ib (by rw [HF.out]) (by rw [HF.out]), rfl⟩
end Go.Proofs.Ytpclbgaaoednnaa
