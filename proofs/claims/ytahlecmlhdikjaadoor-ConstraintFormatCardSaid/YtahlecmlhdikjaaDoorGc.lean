/-
  Joined by a program: LinT, LinU, LinA, LinSc.
-/
import Derived.Test.YtahlecmlhdikjaaDoorGb
import Derived.Maps.AppendAt
import Derived.Deep.CutRange
import Derived.Deep.DeepCutAuto

section
namespace Go.Proofs.YtahlecmlhdikjaaDoor
set_option linter.unusedSimpArgs false
open Go.ChangeShapes Go.WideShapes Go.ChangeAt Go.RowKit
set_option linter.unusedVariables false

def mulR (a b : Int) : Int × Bool := if fitB (a * b) then (a * b, true) else (0, false)
theorem fit_true {n : Int} (h : -9223372036854775808 ≤ n ∧ n ≤ 9223372036854775807) : fitB n = true := by
  unfold fitB; simp; omega
theorem fit_false {n : Int} (h : ¬ (-9223372036854775808 ≤ n ∧ n ≤ 9223372036854775807)) : fitB n = false := by
  unfold fitB; simp; omega

set_option maxHeartbeats 2000000 in
theorem lin_times (a b : Int) (ha : In64 a) (hb : In64 b) (w : World) :
    Calls Tryd.prog 63 #[.int .i64 a, .int .i64 b] w fun e w' => e = .returned (.tuple #[.int .i64 (mulR a b).1, .bool (mulR a b).2]) ∧ w' = w := by
  obtain ⟨b0, b1'⟩ := ha
  obtain ⟨x0, x1'⟩ := hb
  obtain ⟨mb, hmb⟩ : ∃ m, mag a = m := ⟨_, rfl⟩
  obtain ⟨mx, hmx⟩ : ∃ m, mag b = m := ⟨_, rfl⟩
  have HMB : Hid (∀ w, Calls Tryd.prog 78 #[.int .i64 a] w fun e w' => e = .returned (.int .u64 mb) ∧ w' = w) := Lib.hid (hmb ▸ lin_magnitude a b0 b1')
  have HMX : Hid (∀ w, Calls Tryd.prog 78 #[.int .i64 b] w fun e w' => e = .returned (.int .u64 mx) ∧ w' = w) := Lib.hid (hmx ▸ lin_magnitude b x0 x1')
  obtain ⟨r1, r2, r3⟩ := mag_range a ⟨b0, b1'⟩
  obtain ⟨r4, r5, r6⟩ := mag_range b ⟨x0, x1'⟩
  obtain ⟨r7, r8⟩ := mag_mul_le a b ⟨b0, b1'⟩ ⟨x0, x1'⟩
  have hsm := sign_mul a b
  rw [hmb] at r1 r2 r7 r8 hsm
  rw [hmx] at r4 r5 r7 r8 hsm
  obtain ⟨P, hP⟩ : ∃ P, mb * mx = P := ⟨_, rfl⟩
  obtain ⟨Hi, hHi⟩ : ∃ H, P / 18446744073709551616 = H := ⟨_, rfl⟩
  obtain ⟨Lo, hLo⟩ : ∃ L, P % 18446744073709551616 = L := ⟨_, rfl⟩
  have HPR : Hid (∀ w, Calls Tryd.prog 94 #[.int .u64 mb, .int .u64 mx] w fun e w' => e = .returned (.tuple #[.int .u64 Hi, .int .u64 Lo]) ∧ w' = w) := Lib.hid (fun w => by
    have := lin_product mb mx r1 r2 r4 r5 w
    rw [hP, hHi, hLo] at this
    exact this)
  rw [hP] at r7 r8 hsm
  obtain ⟨neg, hng⟩ : ∃ g, (!(decide (a < 0) == decide (b < 0))) = g := ⟨_, rfl⟩
  rw [show (decide (a < 0) != decide (b < 0)) = neg from hng] at hsm
  have HNG := Lib.hid hng
  have hPP : P = Hi * 18446744073709551616 + Lo := by omega
  have hz : 0 ≤ Hi ∧ 0 ≤ Lo ∧ Lo < 18446744073709551616 := by omega
  obtain ⟨z1, z2, z3⟩ := hz
  obtain ⟨q, hq⟩ : ∃ q, mulR a b = q := ⟨_, rfl⟩
  have HQ : Hid ((if fitB (if neg then -P else P) then ((if neg then -P else P), true) else (0, false)) = q) := Lib.hid (by rw [hsm, ← hq]; rfl)
  have HPP := Lib.hid hPP
  rw [hq]
  clear hng hsm hmb hmx hHi hLo hP r3 r6 r7 r8 hPP hq
  go_enter Tryd.func63, Tryd.ntmps63
  go_wp2_with fail
  refine (HMB.out _).mono ?_
  rintro e x5 ⟨rfl, hx5⟩
  replace hx5 := hx5.symm
  subst hx5
  go_wp2_with fail
  refine (HMX.out _).mono ?_
  rintro e x5 ⟨rfl, hx5⟩
  replace hx5 := hx5.symm
  subst hx5
  go_wp2_with fail
  refine (HPR.out _).mono ?_
  rintro e x5 ⟨rfl, hx5⟩
  replace hx5 := hx5.symm
  subst hx5
  have hng := HNG.out
  by_cases h1 : Hi = 0
  · subst h1
    by_cases h2 : 9223372036854775808 < Lo
    · have HF : Hid (q = (0, false)) := Lib.hid (by
        have := HPP.out
        rw [← HQ.out, fit_false (by split <;> omega)]; rfl)
      clear HQ
      go_wp2
      go_ret2
      exact ⟨ret_ib (by rw [HF.out]) (by rw [HF.out]), rfl⟩
    · by_cases h3 : Lo = 9223372036854775808
      · subst h3
        cases neg
        · have HF : Hid (q = (0, false)) := Lib.hid (by
            have := HPP.out
            rw [← HQ.out, fit_false (by simp; omega)]; rfl)
          clear HQ
          go_wp2
          go_ret2
          exact ⟨ret_ib (by rw [HF.out]) (by rw [HF.out]), rfl⟩
        · have HF : Hid (q = (-9223372036854775808, true)) := Lib.hid (by
            have := HPP.out
            rw [← HQ.out, fit_true (by simp; omega)]; simp; omega)
          clear HQ
          go_wp2
          go_ret2
          exact ⟨ret_ib (by rw [HF.out]; exact wrap_i64_neg _ (by omega) (by omega)) (by rw [HF.out]), rfl⟩
      · have h4 : (Lo == 9223372036854775808) = false := by simpa using h3
        cases neg
        · have HF : Hid (q = (Lo, true)) := Lib.hid (by
            have := HPP.out
            rw [← HQ.out, fit_true (by simp; omega)]; simp; omega)
          have h5 : wrap64 Lo = Lo := by unfold wrap64; omega
          clear HQ
          go_wp2
          go_ret2
          exact ⟨ret_ib (by rw [HF.out]) (by rw [HF.out]), rfl⟩
        · have HF : Hid (q = (-Lo, true)) := Lib.hid (by
            have := HPP.out
            rw [← HQ.out, fit_true (by simp; omega)]; simp; omega)
          have h5 : wrap64 (IntKind.u64.wrap (-Lo)) = -Lo := wrap_i64_neg Lo z2 (by omega)
          clear HQ
          go_wp2
          go_ret2
          exact ⟨ret_ib (by rw [HF.out]; exact wrap_i64_neg _ (by omega) (by omega)) (by rw [HF.out]), rfl⟩
  · have h2 : (Hi == 0) = false := by simpa using h1
    have HF : Hid (q = (0, false)) := Lib.hid (by
      have := HPP.out
      rw [← HQ.out, fit_false (by split <;> omega)]; rfl)
    clear HQ
    go_wp2
    go_ret2
    exact ⟨ret_ib (by rw [HF.out]) (by rw [HF.out]), rfl⟩

def addR (a b : Int) : Int × Bool := if fitB (a + b) then (a + b, true) else (0, false)

theorem lin_plus (a b : Int) (ha : In64 a) (hb : In64 b) (w : World) :
    Calls Tryd.prog 84 #[.int .i64 a, .int .i64 b] w fun e w' => ∃ c, e = .returned (.tuple #[.int .i64 c, .bool (fitB (a + b))]) ∧ (fitB (a + b) = true → c = a + b) ∧ (c = 0 ↔ wrap64 (a + b) = 0) ∧ In64 c ∧ w' = w := by
  obtain ⟨a0, a1⟩ := ha
  obtain ⟨b0, b1⟩ := hb
  have hw : wrap64 (a + b) = (if a + b < -9223372036854775808 then a + b + 18446744073709551616 else if 9223372036854775807 < a + b then a + b - 18446744073709551616 else a + b) := by
    unfold wrap64; split
    · omega
    · split <;> omega
  have hi : In64 (wrap64 (a + b)) := by unfold In64; rw [hw]; split <;> (try split) <;> omega
  have hf : (decide (a < wrap64 (a + b)) == decide (0 < b)) = fitB (a + b) := by
    rw [hw]
    by_cases h1 : a + b < -9223372036854775808
    · rw [if_pos h1, decide_eq_true (by omega), decide_eq_false (by omega : ¬ 0 < b), fit_false (by omega)]; rfl
    · rw [if_neg h1]
      by_cases h2 : 9223372036854775807 < a + b
      · rw [if_pos h2, decide_eq_false (by omega), decide_eq_true (by omega : 0 < b), fit_false (by omega)]; rfl
      · rw [if_neg h2, fit_true (by omega)]
        by_cases h3 : 0 < b
        · rw [decide_eq_true (by omega), decide_eq_true h3]; rfl
        · rw [decide_eq_false (by omega), decide_eq_false h3]; rfl
  have hc : fitB (a + b) = true → wrap64 (a + b) = a + b := fun h => by
    unfold fitB at h; simp at h
    rw [hw]; split <;> (try split) <;> omega
  obtain ⟨c, hcc⟩ : ∃ c, wrap64 (a + b) = c := ⟨_, rfl⟩
  rw [hcc] at hf hc hi
  obtain ⟨f, hff⟩ : ∃ f, fitB (a + b) = f := ⟨_, rfl⟩
  rw [hff] at hf hc ⊢
  have HF := Lib.hid hf
  have HCC := Lib.hid hcc
  clear hw hf hff
  go_enter Tryd.func84, Tryd.ntmps84
  go_wp2
  go_ret2
  refine ⟨c, ret_ib ?_ ?_, hc, by rw [HCC.out], hi, rfl⟩
  · first | rfl | exact HCC.out
  · rw [← HF.out]

theorem base_Plus (a b : Int) (ha : In64 a) (hb : In64 b) (w : World) :
    Calls Tryd.prog 88 #[.int .i64 a, .int .i64 b] w fun e w' => e = .returned (.tuple #[.int .i64 (addR a b).1, .bool (addR a b).2]) ∧ w' = w := by
  obtain ⟨a0, a1⟩ := ha
  obtain ⟨b0, b1⟩ := hb
  obtain ⟨q, hq⟩ : ∃ q, addR a b = q := ⟨_, rfl⟩
  have HQ : Hid ((if fitB (a + b) then (a + b, true) else (0, false)) = q) := Lib.hid hq
  rw [hq]
  clear hq
  by_cases h1 : 0 < b
  · by_cases h2 : 9223372036854775807 - b < a
    · have HF : Hid (q = (0, false)) := Lib.hid (by rw [← HQ.out, fit_false (by omega)]; rfl)
      clear HQ
      go_enter Tryd.func88, Tryd.ntmps88
      go_wp2
      go_ret2
      exact ⟨ret_ib (by rw [HF.out]) (by rw [HF.out]), rfl⟩
    · have HF : Hid (q = (a + b, true)) := Lib.hid (by rw [← HQ.out, fit_true (by omega)]; rfl)
      clear HQ
      go_enter Tryd.func88, Tryd.ntmps88
      go_wp2
      go_ret2
      exact ⟨ret_ib (by rw [HF.out]) (by rw [HF.out]), rfl⟩
  · by_cases h3 : b < 0
    · by_cases h2 : a < -9223372036854775808 - b
      · have HF : Hid (q = (0, false)) := Lib.hid (by rw [← HQ.out, fit_false (by omega)]; rfl)
        clear HQ
        go_enter Tryd.func88, Tryd.ntmps88
        go_wp2
        go_ret2
        exact ⟨ret_ib (by rw [HF.out]) (by rw [HF.out]), rfl⟩
      · have HF : Hid (q = (a + b, true)) := Lib.hid (by rw [← HQ.out, fit_true (by omega)]; rfl)
        clear HQ
        go_enter Tryd.func88, Tryd.ntmps88
        go_wp2
        go_ret2
        exact ⟨ret_ib (by rw [HF.out]) (by rw [HF.out]), rfl⟩
    · obtain rfl : b = 0 := by omega
      have HF : Hid (q = (a, true)) := Lib.hid (by rw [← HQ.out, fit_true (by omega), Int.add_zero]; rfl)
      clear HQ
      go_enter Tryd.func88, Tryd.ntmps88
      go_wp2
      go_ret2
      exact ⟨ret_ib (by rw [HF.out]) (by rw [HF.out]), rfl⟩
end Go.Proofs.YtahlecmlhdikjaaDoor
end

section
namespace Go.Proofs.YtahlecmlhdikjaaDoor
set_option linter.unusedSimpArgs false
open Go.ChangeShapes Go.WideShapes Go.ChangeAt Go.RowKit
set_option linter.unusedVariables false

/-- A wrapped product divides back just if it fits. -/
theorem wrap_quo {a b c : Int} (ha : In64 a) (hb : In64 b) (hb0 : b ≠ 0) (hc : wrap64 (a * b) = c) (hs : ¬ (a = -1 ∧ b = -9223372036854775808)) (hs2 : ¬ (b = -1 ∧ a = -9223372036854775808)) :
    (c.tdiv b = a ↔ fitB (a * b) = true) := by
  constructor
  · intro h
    have h1 := Int.mul_tdiv_add_tmod c b
    rw [h, Int.mul_comm] at h1
    have h2 : (c.tmod b).natAbs < b.natAbs := by
      have := Int.natAbs_tmod c b
      rw [this]
      exact Nat.mod_lt _ (by omega)
    obtain ⟨a0, a1⟩ := ha
    obtain ⟨b0, b1⟩ := hb
    generalize c.tmod b = r at h1 h2
    generalize a * b = p at h1 hc ⊢
    apply fit_true
    unfold wrap64 at hc
    omega
  · intro h
    have : c = a * b := by
      rw [← hc]
      unfold fitB at h; simp at h
      unfold wrap64; omega
    rw [this]
    exact Int.mul_tdiv_cancel a hb0

set_option maxHeartbeats 2000000 in
theorem base_Times (a b : Int) (ha : In64 a) (hb : In64 b) (w : World) :
    Calls Tryd.prog 87 #[.int .i64 a, .int .i64 b] w fun e w' => e = .returned (.tuple #[.int .i64 (mulR a b).1, .bool (mulR a b).2]) ∧ w' = w := by
  obtain ⟨q, hq⟩ : ∃ q, mulR a b = q := ⟨_, rfl⟩
  have HQ : Hid ((if fitB (a * b) then (a * b, true) else (0, false)) = q) := Lib.hid hq
  rw [hq]
  clear hq
  by_cases h1 : a = 0
  · subst h1
    have HF : Hid (q = (0, true)) := Lib.hid (by rw [← HQ.out, Int.zero_mul]; rfl)
    clear HQ
    go_enter Tryd.func87, Tryd.ntmps87
    go_wp2
    go_ret2
    exact ⟨ret_ib (by rw [HF.out]) (by rw [HF.out]), rfl⟩
  have h1' : (a == 0) = false := by simpa using h1
  by_cases h2 : b = 0
  · subst h2
    have HF : Hid (q = (0, true)) := Lib.hid (by rw [← HQ.out, Int.mul_zero]; rfl)
    clear HQ
    go_enter Tryd.func87, Tryd.ntmps87
    go_wp2
    go_ret2
    exact ⟨ret_ib (by rw [HF.out]) (by rw [HF.out]), rfl⟩
  have h2' : (b == 0) = false := by simpa using h2
  by_cases h3 : a = -1 ∧ b = -9223372036854775808
  · obtain ⟨rfl, rfl⟩ := h3
    have HF : Hid (q = (0, false)) := Lib.hid (by rw [← HQ.out]; rfl)
    clear HQ
    go_enter Tryd.func87, Tryd.ntmps87
    go_wp2
    go_ret2
    exact ⟨ret_ib (by rw [HF.out]) (by rw [HF.out]), rfl⟩
  by_cases h4 : b = -1 ∧ a = -9223372036854775808
  · obtain ⟨rfl, rfl⟩ := h4
    have HF : Hid (q = (0, false)) := Lib.hid (by rw [← HQ.out]; rfl)
    clear HQ
    go_enter Tryd.func87, Tryd.ntmps87
    go_wp2
    go_ret2
    exact ⟨ret_ib (by rw [HF.out]) (by rw [HF.out]), rfl⟩
  by_cases h5 : a = -1
  · subst h5
    have h6 : (b == -9223372036854775808) = false := by simpa using fun e => h3 ⟨rfl, e⟩
    have h7 : ¬ b = -9223372036854775808 := fun e => h3 ⟨rfl, e⟩
    obtain ⟨b0, b1⟩ := hb
    have HF : Hid (q = (-b, true)) := Lib.hid (by rw [← HQ.out, fit_true (by omega)]; simp)
    clear h3 h4 HQ
    by_cases h8 : b = -1
    · subst h8
      go_enter Tryd.func87, Tryd.ntmps87
      go_wp2
      go_ret2
      exact ⟨ret_ib (by rw [HF.out]; rfl) (by rw [HF.out]), rfl⟩
    · have h9 : (b == -1) = false := by simpa using h8
      go_enter Tryd.func87, Tryd.ntmps87
      go_wp2
      go_ret2
      exact ⟨ret_ib (by rw [HF.out]) (by rw [HF.out]), rfl⟩
  have h6 : (a == -1) = false := by simpa using h5
  by_cases h8 : b = -1
  · subst h8
    have h9 : (a == -9223372036854775808) = false := by simpa using fun e => h4 ⟨rfl, e⟩
    have h10 : ¬ a = -9223372036854775808 := fun e => h4 ⟨rfl, e⟩
    obtain ⟨a0, a1⟩ := ha
    have HF : Hid (q = (-a, true)) := Lib.hid (by rw [← HQ.out, fit_true (by omega)]; simp)
    clear h3 h4 HQ
    go_enter Tryd.func87, Tryd.ntmps87
    go_wp2
    go_ret2
    exact ⟨ret_ib (by rw [HF.out]) (by rw [HF.out]), rfl⟩
  have h9 : (b == -1) = false := by simpa using h8
  obtain ⟨c, hc⟩ : ∃ c, wrap64 (a * b) = c := ⟨_, rfl⟩
  have hwq := wrap_quo ha hb h2 hc h3 h4
  obtain ⟨f, hf⟩ : ∃ f, fitB (a * b) = f := ⟨_, rfl⟩
  have HF : Hid (q = if f then (c, true) else (0, false)) := Lib.hid (by
    rw [← HQ.out, hf]
    cases f
    · rfl
    · have : c = a * b := by
        rw [← hc]
        unfold fitB at hf; simp at hf
        unfold wrap64; omega
      rw [this])
  rw [hf] at hwq
  have hci : In64 c := by rw [← hc]; unfold In64 wrap64; omega
  obtain ⟨c0, c1⟩ := hci
  obtain ⟨a0, a1⟩ := ha
  obtain ⟨b0, b1⟩ := hb
  obtain ⟨d, hd⟩ : ∃ d, c.tdiv b = d := ⟨_, rfl⟩
  rw [hd] at hwq
  have hwd : wrap64 d = d := by
    by_cases hb1 : b = 1
    · have e1 : d = c := by rw [← hd, hb1, Int.tdiv_one]
      rw [e1]
      unfold wrap64
      omega
    · have e1 : d.natAbs = c.natAbs / b.natAbs := by rw [← hd, Int.natAbs_tdiv]; rfl
      have e2 : c.natAbs / b.natAbs ≤ c.natAbs / 2 := Nat.div_le_div_left (by omega) (by omega)
      unfold wrap64
      omega
  have HWQ := Lib.hid hwq
  clear HQ hf hwq
  clear h3 h4
  by_cases hda : d = a
  · have HF2 : Hid (q = (c, true)) := Lib.hid (by rw [HF.out, HWQ.out.1 hda]; rfl)
    have hda2 : (d == a) = true := by simpa using hda
    clear HF HWQ
    go_enter Tryd.func87, Tryd.ntmps87
    go_wp2
    go_ret2
    exact ⟨ret_ib (by rw [HF2.out]; first | rfl | exact hc) (by rw [HF2.out]), rfl⟩
  · have HF2 : Hid (q = (0, false)) := Lib.hid (by rw [HF.out]; cases f; rfl; exact absurd (HWQ.out.2 rfl) hda)
    have hda2 : (d == a) = false := by simpa using hda
    clear HF HWQ
    go_enter Tryd.func87, Tryd.ntmps87
    go_wp2
    go_ret2
    exact ⟨ret_ib (by rw [HF2.out]) (by rw [HF2.out]), rfl⟩
end Go.Proofs.YtahlecmlhdikjaaDoor
end

section
namespace Go.Proofs.YtahlecmlhdikjaaDoor
set_option linter.unusedSimpArgs false
open Go.ChangeShapes Go.WideShapes Go.ChangeAt Go.RowKit
set_option linter.unusedVariables false

theorem mono_info : (Tryd.prog.info? 56).map (fun i => (i.zero, i.size, i.bytes)) = some (some (.agg #[.string ByteArray.empty, .int .i64 0]), 2, 24) := by kernel_rfl

def monoCells (l : List Mono) : List Value := l.flatMap fun m => [.string m.1, .int .i64 m.2]
theorem monoCells_snoc (l : List Mono) (m : Mono) : monoCells (l ++ [m]) = monoCells l ++ [.string m.1, .int .i64 m.2] := by simp [monoCells]
theorem monoCells_get : ∀ (l : List Mono) (i j : Nat), i < l.length → j < 2 → (monoCells l)[i * 2 + j]? = some (monoF l i j)
  | [], i, j, hi, _ => absurd hi (by simp)
  | m :: r, 0, j, _, hj => by rcases (by omega : j = 0 ∨ j = 1) with rfl | rfl <;> rfl
  | m :: r, i + 1, j, hi, hj => by
    rw [show (i + 1) * 2 + j = (i * 2 + j) + 2 by omega]
    show ((.string m.1 : Value) :: .int .i64 m.2 :: monoCells r)[i * 2 + j + 2]? = _
    rw [List.getElem?_cons_succ, List.getElem?_cons_succ, monoCells_get r i j (by simpa using hi) hj]
    rcases (by omega : j = 0 ∨ j = 1) with rfl | rfl <;> rfl

/-- What turns nothing below h but block b. -/
structure UpRow (h b : Nat) (w w' : World) : Prop where
  os : w'.os = w.os
  tape : w'.tape = w.tape
  output : w'.output = w.output
  size : w.heap.size ≤ w'.heap.size
  block : ∀ k, k < h → k ≠ b → w'.heap[k]? = w.heap[k]?
theorem UpRow.refl (h b : Nat) (w : World) : UpRow h b w w := ⟨rfl, rfl, rfl, Nat.le_refl _, fun _ _ _ => rfl⟩
theorem UpRow.trans {h b : Nat} {x y z : World} (p : UpRow h b x y) (q : UpRow h b y z) : UpRow h b x z :=
  ⟨q.os.trans p.os, q.tape.trans p.tape, q.output.trans p.output, Nat.le_trans p.size q.size, fun k hk hb => (q.block k hk hb).trans (p.block k hk hb)⟩
theorem Up.row {w w' : World} (u : Up w w') {h b : Nat} (hh : h ≤ w.heap.size) : UpRow h b w w' := ⟨Below.os u, Below.tape u, Below.output u, u.size, fun k hk _ => Below.block u k (by omega)⟩
theorem UpRow.cell {h b : Nat} {w w' : World} (u : UpRow h b w w') (k o : Nat) (hk : k < h) (hb : k ≠ b) : w'.cell? ⟨k, o, none⟩ = w.cell? ⟨k, o, none⟩ :=
  World.cell?_of_block (w := w) (u.block k hk hb)
theorem UpRow.set {h b : Nat} {w w' : World} (u : UpRow h b w w') (o : Nat) (v : Value) : UpRow h b w (w'.setCell ⟨b, o, none⟩ v) :=
  ⟨u.os, u.tape, u.output, by rw [set_size]; exact u.size, fun k hk hb => (Below.heap_setCell _ _ _ _ hb).trans (u.block k hk hb)⟩
/-- A block and a row of the call's own, laid behind, are none that was there. -/
theorem UpRow.up {h b : Nat} {w w1 w2 : World} (u : Up w w1) (hb : w.heap.size ≤ b) (hh : b < h) (k : UpRow h b w1 w2) : Up w w2 :=
  ⟨k.os.trans (Below.os u), k.tape.trans (Below.tape u), k.output.trans (Below.output u), Nat.le_trans (Below.size u) k.size, fun i hi => (k.block i (by omega) (by omega)).trans (Below.block u i hi)⟩

theorem own_up {w w' : World} {base n k : Nat} {e : TypeId} {v : Value} {xs : List Value} (h : w.ownsRow base e k v n xs) (u : Up w w') : w'.ownsRow base e k v n xs := by
  refine ⟨h.1, ?_⟩
  rcases h.2 with hn | ⟨g, cap, cur, hv, hb, hg, hr⟩
  · exact .inl hn
  · exact .inr ⟨g, cap, cur, hv, hb, (u.heap g (Array.getElem?_eq_some_iff.1 hg).1).trans hg, hr⟩

def OutAt (w : World) (h O : Nat) (K : Int) (l : List Mono) (n : Nat) (a : Option Addr) (cap : Nat) : Prop :=
  n = l.length ∧ w.heap[O]? = some (.cells #[.int .i64 K, .slice a n cap] 24 (0, 0)) ∧ w.ownsRow h 56 2 (.slice a n cap) n (monoCells l) ∧ O < h ∧ h ≤ w.heap.size

theorem OutAt.up {w w' : World} {h O n : Nat} {K : Int} {l : List Mono} {a : Option Addr} {cap : Nat} (x : OutAt w h O K l n a cap) (u : Up w w') : OutAt w' h O K l n a cap := by
  obtain ⟨h1, h2, h3, h4, h5⟩ := x
  exact ⟨h1, (u.heap O (by omega)).trans h2, own_up h3 u, h4, Nat.le_trans h5 u.size⟩
theorem OutAt.cells {w : World} {h O n : Nat} {K : Int} {l : List Mono} {a : Option Addr} {cap : Nat} (x : OutAt w h O K l n a cap) :
    w.cell? ⟨O, 0, none⟩ = some (.int .i64 K) ∧ w.cell? ⟨O, 1, none⟩ = some (.slice a n cap) ∧ (∀ o, w.frozen? ⟨O, o, none⟩ = false) ∧ O < w.heap.size := by
  obtain ⟨h1, h2, h3, h4, h5⟩ := x
  exact ⟨cell_of_row _ _ _ _ _ _ h2, cell_of_row _ _ _ _ _ _ h2, fun o => frozen_of_row _ _ o _ _ h2, by omega⟩
theorem OutAt.monos {w : World} {h O n : Nat} {K : Int} {l : List Mono} {a : Option Addr} {cap : Nat} (x : OutAt w h O K l n a cap) (hn : n ≤ 9223372036854775807) : MonosAt w (.slice a n cap) l := by
  obtain ⟨h1, h2, h3, h4, h5⟩ := x
  subst h1
  exact SlAt.of_own h3 hn fun i j hi hj => monoCells_get l i j hi hj

/-- What stands behind an append of one monomial, ahead of the store. -/
theorem OutAt.key {w : World} {h O n : Nat} {K : Int} {l : List Mono} {a : Option Addr} {cap : Nat} (x : OutAt w h O K l n a cap) (s : ByteArray) (b : Int) (w1 : World)
    (hg : (w.alloc (.cells #[.string s, .int .i64 b] 56)).grownBy w1 (Value.slice a n cap).ownBlock) :
    w1.cell? ⟨O, 1, none⟩ = some (.slice a n cap) ∧ (∀ o, w1.frozen? ⟨O, o, none⟩ = false) ∧ Hid (w1.heap[O]? = some (.cells #[.int .i64 K, .slice a n cap] 24 (0, 0))) ∧ Hid (UpRow h O w w1) ∧ Hid (h ≤ w1.heap.size) := by
  obtain ⟨h1, h2, h3, h4, h5⟩ := x
  have hne : ∀ k, k < h → some k ≠ (Value.slice a n cap).ownBlock := fun k hk e => by have := (h3.lt k e.symm).1; omega
  have g0 := (hg.block O (by rw [size_alloc]; omega) (hne O h4)).trans ((Below.heap_alloc _ _ _ (by omega)).trans h2)
  have hs := hg.size
  rw [size_alloc] at hs
  exact ⟨cell_of_row _ _ _ _ _ _ g0, fun o => frozen_of_row _ _ o _ _ g0, Lib.hid g0, Lib.hid ⟨hg.os, hg.tape, hg.output, by omega, fun k hk _ => (hg.block k (by rw [size_alloc]; omega) (hne k hk)).trans (Below.heap_alloc _ _ _ (by omega))⟩, Lib.hid (by omega)⟩

theorem mono_sl (w : World) (s : ByteArray) (b : Int) : SlAt (w.alloc (.cells #[.string s, .int .i64 b] 56)) (.slice (some ⟨w.heap.size, 0, none⟩) 1 1) 1 2 (monoF [(s, b)]) := monos_one w _ s b
theorem mono_one (s : ByteArray) (b : Int) : ∀ i j, i < 1 → j < 2 → (monoF [(s, b)] i j).oneCell' = true := fun i j _ _ => by rcases j with _ | j <;> rfl
theorem mono_flat (s : ByteArray) (b : Int) : flat (monoF [(s, b)]) 1 2 = [.string s, .int .i64 b] := rfl

theorem OutAt.done {w w1 : World} {h O n : Nat} {K : Int} {l : List Mono} {a : Option Addr} {cap : Nat} (x : OutAt w h O K l n a cap) (s : ByteArray) (b : Int)
    (g0 : w1.heap[O]? = some (.cells #[.int .i64 K, .slice a n cap] 24 (0, 0))) (hu : UpRow h O w w1) (hz : h ≤ w1.heap.size) (va : Option Addr) (vc : Nat)
    (ho : w1.ownsRow h 56 2 (.slice va (n + 1) vc) (n + 1) (monoCells l ++ flat (monoF [(s, b)]) 1 2)) :
    OutAt (w1.setCell ⟨O, 1, none⟩ (.slice va (n + 1) vc)) h O K (l ++ [(s, b)]) (n + 1) va vc ∧ UpRow h O w (w1.setCell ⟨O, 1, none⟩ (.slice va (n + 1) vc)) := by
  obtain ⟨h1, h2, h3, h4, h5⟩ := x
  refine ⟨⟨by rw [List.length_append, h1]; rfl, ?_, ?_, h4, by rw [set_size]; exact hz⟩, hu.set 1 _⟩
  · simp [World.setCell, Array.getElem?_modify, g0]
  · rw [monoCells_snoc]
    exact ownsRow_setCell_below ho h4 _
end Go.Proofs.YtahlecmlhdikjaaDoor
end

section
namespace Go.Proofs.YtahlecmlhdikjaaDoor
set_option linter.unusedSimpArgs false
open Go.ChangeShapes Go.WideShapes Go.ChangeAt Go.RowKit
set_option linter.unusedVariables false

def outL (y : Int) (l : List Mono) : List Mono := l.map fun m => (m.1, (mulR m.2 y).1)
def allFit (y : Int) (l : List Mono) : Bool := l.all fun m => fitB (m.2 * y)
def scaleF (K : Int) (l : List Mono) (y : Int) : Int × List Mono × Int :=
  if okL l then (if y = 0 then (0, [], 0) else if fitB (K * y) && allFit y l then (K * y, outL y l, 0) else (0, [], 3)) else (0, [], 1)

theorem cap_nil : CapOk (.slice none 0 0) := ⟨_, _, _, rfl, Nat.le_refl _⟩
theorem own_cap {w : World} {base n k : Nat} {e : TypeId} {v : Value} {xs : List Value} (h : w.ownsRow base e k v n xs) : CapOk v := by
  rcases h.2 with ⟨rfl, rfl⟩ | ⟨g, cap, cur, rfl, _, _, hnc, _⟩
  · exact cap_nil
  · exact ⟨_, _, _, rfl, hnc⟩
theorem take_snoc {l : List Mono} {k : Nat} (hk : k < l.length) {m : Mono} (h : l.getD k m0 = m) : l.take (k + 1) = l.take k ++ [m] := by
  have e : l[k]? = some m := by
    rw [List.getElem?_eq_getElem hk]
    rw [List.getD_eq_getElem?_getD, List.getElem?_eq_getElem hk] at h
    exact congrArg some h
  rw [List.take_add_one, e]; rfl
theorem outL_snoc (y : Int) (l : List Mono) (m : Mono) : outL y (l ++ [m]) = outL y l ++ [(m.1, (mulR m.2 y).1)] := by simp [outL]
theorem allFit_snoc (y : Int) (l : List Mono) (m : Mono) : allFit y (l ++ [m]) = (allFit y l && fitB (m.2 * y)) := by simp [allFit]
theorem mulR_snd (a b : Int) : (mulR a b).2 = fitB (a * b) := by
  unfold mulR; cases h : fitB (a * b) <;> simp

/-- A form and an error, as results. -/
def LinErr (e : Ending) (w' : World) (r : Int × List Mono × Int) : Prop := ∃ v, e = .returned (.tuple #[.agg #[.int .i64 r.1, v], .int .i64 r.2.2]) ∧ MonosAt w' v r.2.1 ∧ CapOk v

def FreshV (w : World) (v : Value) : Prop := ∀ a n c, v = .slice (some a) n c → w.heap.size ≤ a.block
theorem fresh_nil (w : World) : FreshV w (.slice none 0 0) := fun a n c h => by cases h
theorem own_fresh {w w' : World} {base n k : Nat} {e : TypeId} {v : Value} {xs : List Value} (h : w'.ownsRow base e k v n xs) (hb : w.heap.size ≤ base) : FreshV w v := fun a n' c hv => by
  rcases h.2 with ⟨rfl, rfl⟩ | ⟨g, cap, cur, rfl, hg, _⟩
  · cases hv
  · cases hv; exact Nat.le_trans hb hg
/-- A form and an error, as results; the form's monomials lie in memory of the call's own. -/
def LinErrF (w : World) (e : Ending) (w' : World) (r : Int × List Mono × Int) : Prop := ∃ v, e = .returned (.tuple #[.agg #[.int .i64 r.1, v], .int .i64 r.2.2]) ∧ MonosAt w' v r.2.1 ∧ CapOk v ∧ FreshV w v

set_option maxHeartbeats 4000000 in
set_option maxRecDepth 100000 in
theorem lin_ScaleF (K y : Int) (v : Value) (l : List Mono) (w : World) (hv : MonosAt w v l) (hK : In64 K) (hl : Rng l) (hy : In64 y) (hlen : l.length ≤ 1000) :
    Calls Tryd.prog 39 #[.agg #[.int .i64 K, v], .int .i64 y] w fun e w' => LinErrF w e w' (scaleF K l y) ∧ Up w w' := by
  obtain ⟨i0, hi0, hz0, hz1, hz2⟩ := info_parts mono_info
  obtain ⟨a, cap, rfl⟩ := hv.slice
  obtain ⟨n, hn⟩ : ∃ n, l.length = n := ⟨_, rfl⟩
  rw [hn] at hv hlen ⊢
  have hnI : (n : Int) ≤ 1000 := by omega
  have HV := Lib.hid hv
  have HN := Lib.hid hn
  have HL := Lib.hid hl
  have HY := Lib.hid hy
  obtain ⟨q, hq⟩ : ∃ q, okL l = q := ⟨_, rfl⟩
  have HVA : Hid (∀ (K : Int) (w : World) (hv : MonosAt w (.slice a n cap) l), Calls Tryd.prog 45 #[.agg #[.int .i64 K, .slice a n cap]] w fun e w' => e = .returned (.int .i64 (errOf q)) ∧ Up w w') := Lib.hid fun K w hv => by
    have := lin_Validate K (.slice a n cap) l w hv
    rw [hq] at this
    exact this
  have HR : Hid (scaleF K l y = if q then (if y = 0 then (0, [], 0) else if fitB (K * y) && allFit y l then (K * y, outL y l, 0) else (0, [], 3)) else (0, [], 1)) := Lib.hid (by unfold scaleF; rw [hq])
  obtain ⟨r, hr⟩ : ∃ r, scaleF K l y = r := ⟨_, rfl⟩
  rw [hr] at HR ⊢
  obtain ⟨fK, hfK⟩ : ∃ f, fitB (K * y) = f := ⟨_, rfl⟩
  rw [hfK] at HR
  obtain ⟨Ko, hKo⟩ : ∃ x, (mulR K y).1 = x := ⟨_, rfl⟩
  have HTK : Hid (∀ w, Calls Tryd.prog 63 #[.int .i64 K, .int .i64 y] w fun e w' => e = .returned (.tuple #[.int .i64 Ko, .bool fK]) ∧ w' = w) := Lib.hid fun w => by
    have := lin_times K y hK hy w
    rw [mulR_snd, hfK, hKo] at this
    exact this
  have HKO : Hid (fK = true → Ko = K * y) := Lib.hid fun h => by rw [← hKo]; unfold mulR; rw [hfK, h]; rfl
  clear hv hn hl hq hr hfK hKo hK hy
  go_enter Tryd.func39, Tryd.ntmps39
  go_wp2_with fail
  refine (HVA.out _ _ (HV.out.up (((Up.refl w).alloc _).alloc _))).mono ?_
  rintro e x1 ⟨rfl, hx1⟩
  have hs := hx1.size
  rw [size_alloc, size_alloc] at hs
  have b0 : x1.cell? ⟨w.heap.size, 0, none⟩ = some (.int .i64 K) := (hx1.cell _ _ (by rw [size_alloc, size_alloc]; omega)).trans (by go_simp)
  have b1 : x1.cell? ⟨w.heap.size, 1, none⟩ = some (.slice a n cap) := (hx1.cell _ _ (by rw [size_alloc, size_alloc]; omega)).trans (by go_simp)
  have c0 : x1.cell? ⟨w.heap.size + 1, 0, none⟩ = some (.int .i64 0) := (hx1.cell _ _ (by rw [size_alloc, size_alloc]; omega)).trans (by go_simp)
  have c1 : x1.cell? ⟨w.heap.size + 1, 1, none⟩ = some (.slice none 0 0) := (hx1.cell _ _ (by rw [size_alloc, size_alloc]; omega)).trans (by go_simp)
  have cf : ∀ o, x1.frozen? ⟨w.heap.size + 1, o, none⟩ = false := fun o => (hx1.frozen _ _ (by rw [size_alloc, size_alloc]; omega)).trans (by go_simp)
  have HU1 := Lib.hid ((((Up.refl w).alloc (.cells #[.int .i64 K, .slice a n cap] 24)).alloc (.cells #[.int .i64 0, .slice none 0 0] 24)).trans hx1)
  clear hx1
  have q0 : w.heap.size < x1.heap.size := by omega
  have q1 : w.heap.size + 1 < x1.heap.size := by omega
  have hset : ∀ (x : World) (v : Value) (o : Nat), Up w x → Up w (x.setCell ⟨w.heap.size + 1, o, none⟩ v) := fun x v o u => u.setCell (by show w.heap.size ≤ w.heap.size + 1; omega) v
  have HSET := Lib.hid hset
  clear hset
  cases q
  · rw [show errOf false = 1 from rfl]
    go_wp2
    refine bodyPost_ret (v := .tuple #[.agg #[.int .i64 0, .slice none 0 0], .int .i64 1]) (by simp [results, Tryd.results39, go_sem, c0, c1]) rfl ?_
    rw [HR.out]
    exact ⟨⟨_, rfl, monos_nil _, cap_nil, fresh_nil _⟩, by repeat (first | exact HU1.out | refine HSET.out _ _ _ ?_)⟩
  rw [show errOf true = 0 from rfl]
  by_cases hy0 : y = 0
  · subst hy0
    go_wp2
    refine bodyPost_ret (v := .tuple #[.agg #[.int .i64 0, .slice none 0 0], .int .i64 0]) (by simp [results, Tryd.results39, go_sem, c0, c1]) rfl ?_
    rw [HR.out]
    exact ⟨⟨_, rfl, monos_nil _, cap_nil, fresh_nil _⟩, by repeat (first | exact HU1.out | refine HSET.out _ _ _ ?_)⟩
  have hy1 : (y == 0) = false := by simpa using hy0
  have HRR : Hid (r = if fK && allFit y l then (K * y, outL y l, 0) else (0, [], 3)) := Lib.hid (by
    rw [HR.out, if_pos (by rfl), if_neg hy0])
  clear HR
  go_wp2_with fail
  refine (HTK.out _).mono ?_
  rintro e x2 ⟨rfl, hx2⟩
  replace hx2 := hx2.symm
  subst hx2
  go_wp2
  obtain ⟨O, hO⟩ : ∃ O, x1.heap.size = O := ⟨_, rfl⟩
  obtain ⟨W3, hW3⟩ : ∃ W, x1.alloc (.cells #[.int .i64 Ko, .slice none 0 0] 24) = W := ⟨_, rfl⟩
  have hO3 : OutAt W3 (O + 1) O Ko [] 0 none 0 := by
    refine ⟨rfl, ?_, World.ownsRow_nil _ _ _ _, by omega, ?_⟩
    · rw [← hW3, ← hO]; exact heap_alloc_new x1 _
    · rw [← hW3, size_alloc, hO]; omega
  have HU3 : Hid (Up w W3) := Lib.hid (hW3 ▸ HU1.out.alloc _)
  have e0 : W3.cell? ⟨w.heap.size + 1, 0, none⟩ = some (.int .i64 0) := by
    rw [← hW3]; exact ((((Up.refl x1).alloc _).cell _ _ q1).trans c0)
  have e1 : W3.cell? ⟨w.heap.size + 1, 1, none⟩ = some (.slice none 0 0) := by
    rw [← hW3]; exact ((((Up.refl x1).alloc _).cell _ _ q1).trans c1)
  have ef : ∀ o, W3.frozen? ⟨w.heap.size + 1, o, none⟩ = false := fun o => by
    rw [← hW3]; exact ((((Up.refl x1).alloc _).frozen _ _ q1).trans (cf o))
  have hs3 : W3.heap.size = O + 1 := by rw [← hW3, size_alloc, hO]
  rw [hO] at q0 q1 hs
  rw [hW3]
  try rw [hO]
  have HO3 := Lib.hid hO3
  have HE0 := Lib.hid e0
  have HE1 := Lib.hid e1
  have HEF := Lib.hid ef
  clear hO hW3 b0 b1 c0 c1 cf hO3 e0 e1 ef HU1 HTK
  go_loopw [7, 32] (fun f i wr => ∃ (k : Nat) (va : Option Addr) (vc : Nat), k ≤ n ∧ i = .int .i64 k ∧ f = .bool (fK && allFit y (l.take k)) ∧ OutAt wr (O + 1) O Ko (outL y (l.take k)) k va vc ∧ UpRow (O + 1) O W3 wr) (fun _ i _ => n - (intOf i).toNat)
  case atStart => exact ⟨0, none, 0, by omega, rfl, by simp [allFit], HO3.out, UpRow.refl _ _ _⟩
  case round =>
    rename_i wr
    obtain ⟨k, va, vc, hk, rfl, rfl, hOut, hRow⟩ := hrel
    have hU := UpRow.up HU3.out (by omega : w.heap.size ≤ O) (by omega) hRow
    obtain ⟨o0, o1, of, ol⟩ := hOut.cells
    have HOut := Lib.hid hOut
    have HRow := Lib.hid hRow
    obtain ⟨fk, hfk⟩ : ∃ f, (fK && allFit y (l.take k)) = f := ⟨_, rfl⟩
    rw [hfk]
    have HFK := Lib.hid hfk
    clear hOut hRow hfk
    by_cases hlt : k < n
    · have hlt2 : (k : Int) < (n : Int) := by omega
      have hk0 : (0 : Int) ≤ (k : Int) := by omega
      obtain ⟨bl, off, s, b, rfl, p1, p2, p3, p4⟩ := HV.out.elem hU k (by rw [HN.out]; exact hlt) HN.out rfl
      have hrb : In64 b := by
        have := HL.out k (by rw [HN.out]; exact hlt)
        rw [p2] at this; exact this
      have htk := take_snoc (by rw [HN.out]; exact hlt) p2
      have HT := Lib.hid htk
      obtain ⟨c, hc⟩ : ∃ c, (mulR b y).1 = c := ⟨_, rfl⟩
      obtain ⟨g, hg⟩ : ∃ g, fitB (b * y) = g := ⟨_, rfl⟩
      have HTB : Hid (∀ w, Calls Tryd.prog 63 #[.int .i64 b, .int .i64 y] w fun e w' => e = .returned (.tuple #[.int .i64 c, .bool g]) ∧ w' = w) := Lib.hid fun w => by
        have := lin_times b y hrb HY.out w
        rw [mulR_snd, hg, hc] at this
        exact this
      have HF2 : Hid ((fK && allFit y (l.take (k + 1))) = (fk && g)) := Lib.hid (by
        rw [HT.out, allFit_snoc, ← Bool.and_assoc, HFK.out, hg])
      have HO2 : Hid (outL y (l.take (k + 1)) = outL y (l.take k) ++ [(s, c)]) := Lib.hid (by
        rw [HT.out, outL_snoc, hc])
      obtain ⟨b0, b1⟩ := hrb
      clear p2 htk hc hg HFK HT
      have q5 : bl < wr.heap.size := by have := hU.size; omega
      have q6 : O < wr.heap.size := ol
      obtain ⟨wa, hwa⟩ : ∃ wa, wr.alloc (.cells #[.string s, .int .i64 b] 56) = wa := ⟨_, rfl⟩
      have hUa : Up wr wa := hwa ▸ (Up.refl wr).alloc _
      have hOa := HOut.out.up hUa
      obtain ⟨a0, a1, af, al⟩ := hOa.cells
      have hsa : wa.heap.size = wr.heap.size + 1 := by rw [← hwa, size_alloc]
      have d0 : wa.cell? ⟨wr.heap.size, 0, none⟩ = some (.string s) := by rw [← hwa]; exact cell_of_row _ _ _ _ _ _ (heap_alloc_new wr _)
      have d1 : wa.cell? ⟨wr.heap.size, 1, none⟩ = some (.int .i64 b) := by rw [← hwa]; exact cell_of_row _ _ _ _ _ _ (heap_alloc_new wr _)
      have HWA := Lib.hid hwa
      have HOA := Lib.hid hOa
      have HKEY := Lib.hid (hOa.key s c)
      have HRA := Lib.hid (HRow.out.trans (hUa.row (by omega : O + 1 ≤ wr.heap.size)))
      have q7 : wr.heap.size < wa.heap.size := by omega
      have q8 : wr.heap.size < wa.heap.size + 1 := by omega
      have hkm : (k : Int) ≤ 1000 := by omega
      clear hwa hUa hOa o0 o1 of hsa
      go_wp2_with fail
      rw [HWA.out]
      refine (HTB.out _).mono ?_
      rintro e x2 ⟨rfl, hx2⟩
      replace hx2 := hx2.symm
      subst hx2
      cases fk
      all_goals
        go_wp2_with (at_builtin; refine wpList_append_sl _ rfl _ _ 22 rfl (O + 1) 56 i0 _ 2 24 Tryd.underlying22 hi0 hz0 hz1 hz2 rfl (by decide) (.slice va k vc) k _ rfl (HOA.out.2.2.1.alloc _) (.slice (some ⟨wa.heap.size, 0, none⟩) 1 1) 1 _ rfl (mono_sl wa s c) (mono_one s c) (by unfold maxLen; omega) (by omega) (by have := HOA.out.2.2.2.2; simp; omega) ?_; intro v1 w1 hown1 hg1 hat1 hnil1; obtain ⟨vb, vd, rfl⟩ := own_slice hown1; obtain ⟨d2, d3, HD2, HD3, HD4⟩ := HKEY.out w1 hg1; have HO1 := Lib.hid hown1; clear hown1 hg1 hat1 hnil1)
        obtain ⟨hf1, hf2⟩ := HOA.out.done s c HD2.out HD3.out HD4.out vb vd HO1.out
        go_roundw
        case rel => exact ⟨k + 1, vb, vd, by omega, by go_num, by rw [HF2.out]; rfl, by rw [HO2.out]; exact hf1, HRA.out.trans hf2⟩
        case measure => simp [intOf]; omega
    · have hlt2 : (n : Int) ≤ (k : Int) := by omega
      have hkn : k = n := by omega
      subst hkn
      have hta : l.take k = l := List.take_of_length_le (by rw [HN.out]; omega)
      have c0 : wr.cell? ⟨w.heap.size + 1, 0, none⟩ = some (.int .i64 0) := (HRow.out.cell _ _ (by omega) (by omega)).trans HE0.out
      have c1 : wr.cell? ⟨w.heap.size + 1, 1, none⟩ = some (.slice none 0 0) := (HRow.out.cell _ _ (by omega) (by omega)).trans HE1.out
      have cf : ∀ o, wr.frozen? ⟨w.heap.size + 1, o, none⟩ = false := fun o => by
        have h1 := HRow.out.block (w.heap.size + 1) (by omega) (by omega)
        have h2 := HEF.out o
        unfold World.frozen? at h2 ⊢
        rw [h1]; exact h2
      have HUW := Lib.hid hU
      have HRE : Hid (r = if fk then (K * y, outL y l, 0) else (0, [], 3)) := Lib.hid (by
        rw [HRR.out, ← HFK.out, hta])
      have HFKT : Hid (fk = true → fK = true) := Lib.hid (fun h => by
        have := HFK.out
        rw [h] at this
        exact (Bool.and_eq_true_iff.1 this).1)
      clear hU HFK HRR
      cases fk
      · go_wp2
        refine bodyPost_ret (v := .tuple #[.agg #[.int .i64 0, .slice none 0 0], .int .i64 3]) (by simp [results, Tryd.results39, go_sem, c0, c1]) rfl ?_
        rw [HRE.out]
        exact ⟨⟨_, rfl, monos_nil _, cap_nil, fresh_nil _⟩, by repeat (first | exact HUW.out | refine HSET.out _ _ _ ?_)⟩
      · go_wp2
        refine bodyPost_ret (v := .tuple #[.agg #[.int .i64 Ko, .slice va k vc], .int .i64 0]) (by simp [results, Tryd.results39, go_sem, c0, c1]) rfl ?_
        have hr2 : r = (K * y, outL y l, 0) := by rw [HRE.out]; simp
        rw [hr2]
        refine ⟨⟨.slice va k vc, ?_, ?_, own_cap HOut.out.2.2.1, own_fresh HOut.out.2.2.1 (by omega)⟩, by repeat (first | exact HUW.out | refine HSET.out _ _ _ ?_)⟩
        · rw [HKO.out (HFKT.out (by trivial))]
        · have hoo := HOut.out
          rw [hta] at hoo
          have hle : k = (outL y l).length := hoo.1
          show SlAt _ _ (outL y l).length 2 _
          rw [← hle]
          refine SlAt.of_own (base := O + 1) (e := 56) (xs := monoCells (outL y l)) ?_ (by omega) (fun i j hi hj => monoCells_get _ i j (by omega) hj)
          repeat (first | exact hoo.2.2.1 | refine ownsRow_setCell_below ?_ (by show w.heap.size + 1 < O + 1; omega) _)
theorem lin_Scale (K y : Int) (v : Value) (l : List Mono) (w : World) (hv : MonosAt w v l) (hK : In64 K) (hl : Rng l) (hy : In64 y) (hlen : l.length ≤ 1000) :
    Calls Tryd.prog 39 #[.agg #[.int .i64 K, v], .int .i64 y] w fun e w' => LinErr e w' (scaleF K l y) ∧ Up w w' :=
  (lin_ScaleF K y v l w hv hK hl hy hlen).mono fun e w' ⟨⟨v, h1, h2, h3, _⟩, h4⟩ => ⟨⟨v, h1, h2, h3⟩, h4⟩
end Go.Proofs.YtahlecmlhdikjaaDoor
end
