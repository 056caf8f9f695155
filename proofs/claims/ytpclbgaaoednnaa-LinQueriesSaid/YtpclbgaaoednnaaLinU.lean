/-
  Checked products, the base package's side.
-/
import Derived.Test.YtpclbgaaoednnaaLinT
namespace Go.Proofs.Ytpclbgaaoednnaa
open Go.ChangeShapes Go.WideShapes Go.ChangeAt Go.RowKit
set_option linter.unusedVariables false

/-- A wrapped product divides back just if it fits. -/
theorem wrap_quo {a b c : Int} (ha : In64 a) (hb : In64 b) (hb0 : b ≠ 0) (hc : wrap64 (a * b) = c) (hs : ¬ (a = -1 ∧ b = -9223372036854775808)) (hs2 : ¬ (b = -1 ∧ a = -9223372036854775808)) :
    (c.tdiv b = a ↔ fitB (a * b) = true) := by
  constructor
  · intro h
    have h1 := Int.mul_tdiv_add_tmod c b
    rw [h, Int.mul_comm] at h1
    have h2 : (c.tmod b).natAbs < b.natAbs := by
      have := Int.natAbs_tmod c b
      rw [this]
      exact Nat.mod_lt _ (by omega)
    obtain ⟨a0, a1⟩ := ha
    obtain ⟨b0, b1⟩ := hb
    generalize c.tmod b = r at h1 h2
    generalize a * b = p at h1 hc ⊢
    apply fit_true
    unfold wrap64 at hc
    omega
  · intro h
    have : c = a * b := by
      rw [← hc]
      unfold fitB at h; simp at h
      unfold wrap64; omega
    rw [this]
    exact Int.mul_tdiv_cancel a hb0

set_option maxHeartbeats 2000000 in
theorem base_Times (a b : Int) (ha : In64 a) (hb : In64 b) (w : World) :
    Calls Try.prog 57 #[.int .i64 a, .int .i64 b] w fun e w' => e = .returned (.tuple #[.int .i64 (mulR a b).1, .bool (mulR a b).2]) ∧ w' = w := by
  obtain ⟨q, hq⟩ : ∃ q, mulR a b = q := ⟨_, rfl⟩
  have HQ : Hid ((if fitB (a * b) then (a * b, true) else (0, false)) = q) := Lib.hid hq
  rw [hq]
  clear hq
  by_cases h1 : a = 0
  · subst h1
    have HF : Hid (q = (0, true)) := Lib.hid (by rw [← HQ.out, Int.zero_mul]; rfl)
    clear HQ
    go_enter Try.func57, Try.ntmps57
    go_wp2
    go_ret2
    exact ⟨ret_ib (by rw [HF.out]) (by rw [HF.out]), rfl⟩
  have h1' : (a == 0) = false := by simpa using h1
  by_cases h2 : b = 0
  · subst h2
    have HF : Hid (q = (0, true)) := Lib.hid (by rw [← HQ.out, Int.mul_zero]; rfl)
    clear HQ
    go_enter Try.func57, Try.ntmps57
    go_wp2
    go_ret2
    exact ⟨ret_ib (by rw [HF.out]) (by rw [HF.out]), rfl⟩
  have h2' : (b == 0) = false := by simpa using h2
  by_cases h3 : a = -1 ∧ b = -9223372036854775808
  · obtain ⟨rfl, rfl⟩ := h3
    have HF : Hid (q = (0, false)) := Lib.hid (by rw [← HQ.out]; rfl)
    clear HQ
    go_enter Try.func57, Try.ntmps57
    go_wp2
    go_ret2
    exact ⟨ret_ib (by rw [HF.out]) (by rw [HF.out]), rfl⟩
  by_cases h4 : b = -1 ∧ a = -9223372036854775808
  · obtain ⟨rfl, rfl⟩ := h4
    have HF : Hid (q = (0, false)) := Lib.hid (by rw [← HQ.out]; rfl)
    clear HQ
    go_enter Try.func57, Try.ntmps57
    go_wp2
    go_ret2
    exact ⟨ret_ib (by rw [HF.out]) (by rw [HF.out]), rfl⟩
  by_cases h5 : a = -1
  · subst h5
    have h6 : (b == -9223372036854775808) = false := by simpa using fun e => h3 ⟨rfl, e⟩
    have h7 : ¬ b = -9223372036854775808 := fun e => h3 ⟨rfl, e⟩
    obtain ⟨b0, b1⟩ := hb
    have HF : Hid (q = (-b, true)) := Lib.hid (by rw [← HQ.out, fit_true (by omega)]; simp)
    clear h3 h4 HQ
    by_cases h8 : b = -1
    · subst h8
      go_enter Try.func57, Try.ntmps57
      go_wp2
      go_ret2
      exact ⟨ret_ib (by rw [HF.out]; rfl) (by rw [HF.out]), rfl⟩
    · have h9 : (b == -1) = false := by simpa using h8
      go_enter Try.func57, Try.ntmps57
      go_wp2
      go_ret2
      exact ⟨ret_ib (by rw [HF.out]) (by rw [HF.out]), rfl⟩
  have h6 : (a == -1) = false := by simpa using h5
  by_cases h8 : b = -1
  · subst h8
    have h9 : (a == -9223372036854775808) = false := by simpa using fun e => h4 ⟨rfl, e⟩
    have h10 : ¬ a = -9223372036854775808 := fun e => h4 ⟨rfl, e⟩
    obtain ⟨a0, a1⟩ := ha
    have HF : Hid (q = (-a, true)) := Lib.hid (by rw [← HQ.out, fit_true (by omega)]; simp)
    clear h3 h4 HQ
    go_enter Try.func57, Try.ntmps57
    go_wp2
    go_ret2
    exact ⟨ret_ib (by rw [HF.out]) (by rw [HF.out]), rfl⟩
  have h9 : (b == -1) = false := by simpa using h8
  obtain ⟨c, hc⟩ : ∃ c, wrap64 (a * b) = c := ⟨_, rfl⟩
  have hwq := wrap_quo ha hb h2 hc h3 h4
  obtain ⟨f, hf⟩ : ∃ f, fitB (a * b) = f := ⟨_, rfl⟩
  have HF : Hid (q = if f then (c, true) else (0, false)) := Lib.hid (by
    rw [← HQ.out, hf]
    cases f
    · rfl
    · have : c = a * b := by
        rw [← hc]
        unfold fitB at hf; simp at hf
        unfold wrap64; omega
      rw [this])
  rw [hf] at hwq
  have hci : In64 c := by rw [← hc]; unfold In64 wrap64; omega
  obtain ⟨c0, c1⟩ := hci
  obtain ⟨a0, a1⟩ := ha
  obtain ⟨b0, b1⟩ := hb
  obtain ⟨d, hd⟩ : ∃ d, c.tdiv b = d := ⟨_, rfl⟩
  rw [hd] at hwq
  have hwd : wrap64 d = d := by
    by_cases hb1 : b = 1
    · have e1 : d = c := by rw [← hd, hb1, Int.tdiv_one]
      rw [e1]
      unfold wrap64
      omega
    · have e1 : d.natAbs = c.natAbs / b.natAbs := by rw [← hd, Int.natAbs_tdiv]; rfl
      have e2 : c.natAbs / b.natAbs ≤ c.natAbs / 2 := Nat.div_le_div_left (by omega) (by omega)
      unfold wrap64
      omega
  have HWQ := Lib.hid hwq
  clear HQ hf hwq
  clear h3 h4
  by_cases hda : d = a
  · have HF2 : Hid (q = (c, true)) := Lib.hid (by rw [HF.out, HWQ.out.1 hda]; rfl)
    have hda2 : (d == a) = true := by simpa using hda
    clear HF HWQ
    go_enter Try.func57, Try.ntmps57
    go_wp2
    go_ret2
    exact ⟨ret_ib (by rw [HF2.out]; first | rfl | exact hc) (by rw [HF2.out]), rfl⟩
  · have HF2 : Hid (q = (0, false)) := Lib.hid (by rw [HF.out]; cases f; rfl; exact absurd (HWQ.out.2 rfl) hda)
    have hda2 : (d == a) = false := by simpa using hda
    clear HF HWQ
    go_enter Try.func57, Try.ntmps57
    go_wp2
    go_ret2
    exact ⟨ret_ib (by rw [HF2.out]) (by rw [HF2.out]), rfl⟩
end Go.Proofs.Ytpclbgaaoednnaa
