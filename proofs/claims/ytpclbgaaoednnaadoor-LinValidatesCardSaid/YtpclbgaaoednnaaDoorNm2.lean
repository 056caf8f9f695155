/-
  Names: identifier of the program's side.
-/
import Derived.Test.YtpclbgaaoednnaaDoorNm
namespace Go.Proofs.YtpclbgaaoednnaaDoor
set_option linter.unusedSimpArgs false
open Go.ChangeShapes Go.WideShapes Go.ChangeAt Go.RowKit
set_option linter.unusedVariables false

theorem len_size (s : ByteArray) : s.data.toList.length = s.size := by cases s; rfl

theorem all_drop {l : List UInt8} {k : Nat} {p : UInt8 → Bool} (hk : k < l.length) : (l.drop k).all p = (p (l.getD k 0) && (l.drop (k + 1)).all p) := by
  rw [List.drop_eq_getElem_cons hk, List.all_cons, List.getD_eq_getElem?_getD, List.getElem?_eq_getElem hk]; rfl

set_option maxHeartbeats 2000000 in
theorem lin_identifier (s : ByteArray) (w : World) :
    Calls Tryd.prog 13 #[.string s] w fun e w' => e = .returned (.bool (nameB s.toList)) ∧ w' = w := by
  have hlen := len_size s
  obtain ⟨l, hl⟩ : ∃ l, s.data.toList = l := ⟨_, rfl⟩
  rw [hl] at hlen
  obtain ⟨r, hr⟩ : ∃ r, nameB s.toList = r := ⟨_, rfl⟩
  rw [hr]
  rw [Lib.toList_data, hl] at hr
  have hrs : ∀ w : World, Calls Tryd.prog 29 #[.string s] w fun e w' => e = .returned (.bool (wordB l)) ∧ w' = w := fun w => by
    rw [← hl, ← Lib.toList_data]; exact lin_reserved s w
  obtain ⟨rw', hrw⟩ : ∃ b, wordB l = b := ⟨_, rfl⟩
  rw [hrw] at hrs
  obtain ⟨n, hn⟩ : ∃ n, s.size = n := ⟨_, rfl⟩
  rw [hn] at hlen
  have HN := Lib.hid hn
  have HR := Lib.hid hr
  have HL := Lib.hid hl
  clear hr hl
  by_cases h0 : n < 1
  · have h1 : (n : Int) < 1 := by omega
    go_enter Tryd.func13, Tryd.ntmps13
    go_wp2
    go_ret
    refine ⟨ret_bool ?_, rfl⟩
    rw [← HR.out]
    have e1 : decide (1 ≤ l.length) = false := decide_eq_false (by omega)
    simp only [nameB, e1, Bool.false_and]
  have h1 : ¬ (n : Int) < 1 := by omega
  by_cases h2 : 16 < n
  · have h3 : (16 : Int) < n := by omega
    go_enter Tryd.func13, Tryd.ntmps13
    go_wp2
    go_ret
    refine ⟨ret_bool ?_, rfl⟩
    rw [← HR.out]
    have e1 : decide (l.length ≤ 16) = false := by simp; omega
    simp only [nameB, e1, Bool.and_false, Bool.false_and]
  have h3 : ¬ (16 : Int) < n := by omega
  have HRS := Lib.hid hrs
  have HW := Lib.hid hrw
  clear hrs hrw
  cases rw'
  case true =>
    go_enter Tryd.func13, Tryd.ntmps13
    go_wp2_with (go_at_call 29; refine (HRS.out _).mono ?_; rintro e x ⟨rfl, hx⟩; replace hx := hx.symm; subst hx)
    go_ret
    refine ⟨ret_bool ?_, rfl⟩
    rw [← HR.out]
    simp [nameB, HW.out]
  obtain ⟨c, hc⟩ : ∃ c, (l.getD 0 0).toNat = c := ⟨_, rfl⟩
  have hix := fun w => run_byte (P := Tryd.prog) w 9 s 0 c Tryd.underlying9 (by omega) (by rw [HL.out]; exact hc)
  simp only [Int.natCast_zero] at hix
  have HC := Lib.hid hc
  clear hc
  by_cases h4 : c < 97
  · have h5 : (c : Int) < 97 := by omega
    go_enter Tryd.func13, Tryd.ntmps13
    go_wp2_with (go_at_call 29; refine (HRS.out _).mono ?_; rintro e x ⟨rfl, hx⟩; replace hx := hx.symm; subst hx)
    go_ret
    refine ⟨ret_bool ?_, rfl⟩
    rw [← HR.out]
    have e1 : fstOk l = false := by unfold fstOk; rw [HC.out]; simp; omega
    simp only [nameB, e1, Bool.and_false, Bool.false_and]
  have h5 : ¬ (c : Int) < 97 := by omega
  by_cases h6 : 122 < c
  · have h7 : (122 : Int) < c := by omega
    go_enter Tryd.func13, Tryd.ntmps13
    go_wp2_with (go_at_call 29; refine (HRS.out _).mono ?_; rintro e x ⟨rfl, hx⟩; replace hx := hx.symm; subst hx)
    go_ret
    refine ⟨ret_bool ?_, rfl⟩
    rw [← HR.out]
    have e1 : fstOk l = false := by unfold fstOk; rw [HC.out]; simp; omega
    simp only [nameB, e1, Bool.and_false, Bool.false_and]
  have h7 : ¬ (122 : Int) < c := by omega
  have HA : Hid (l.all okC = r) := Lib.hid (by
    rw [← HR.out]
    have e1 : decide (1 ≤ l.length) = true := by simp; omega
    have e2 : decide (l.length ≤ 16) = true := by simp; omega
    have e3 : fstOk l = true := by unfold fstOk; rw [HC.out]; simp; omega
    simp [nameB, e1, e2, e3, HW.out])
  clear h0 h2 h4 h6
  go_enter Tryd.func13, Tryd.ntmps13
  go_wp2_with (go_at_call 29; refine (HRS.out _).mono ?_; rintro e x ⟨rfl, hx⟩; replace hx := hx.symm; subst hx)
  go_loopw [29] (fun i wr => ∃ k : Nat, k ≤ n ∧ i = .int .i64 k ∧ wr = w ∧ (l.drop k).all okC = r) (fun i _ => n - (intOf i).toNat)
  case atStart => exact ⟨0, by omega, rfl, rfl, by rw [List.drop_zero]; exact HA.out⟩
  case round =>
    obtain ⟨k, hk, rfl, rfl, hP⟩ := hrel
    have HP := Lib.hid hP
    clear hP
    by_cases hlt : k < n
    · have hlt2 : (k : Int) < (n : Int) := by omega
      have hk0 : (0 : Int) ≤ (k : Int) := by omega
      obtain ⟨d, hd⟩ : ∃ d, (l.getD k 0).toNat = d := ⟨_, rfl⟩
      have hix := fun w : World => run_byte (P := Tryd.prog) w 9 s k d Tryd.underlying9 (by omega) (by rw [HL.out]; exact hd)
      have HD := Lib.hid hd
      clear hd
      obtain ⟨q, hq⟩ : ∃ q, okC (l.getD k 0) = q := ⟨_, rfl⟩
      have HQ := Lib.hid hq
      clear hq
      have HP2 : Hid ((q && (l.drop (k + 1)).all okC) = r) := Lib.hid (by rw [← HP.out, all_drop (l := l) (k := k) (by omega), HQ.out])
      have hx : q = (decide (97 ≤ d) && decide (d ≤ 122) || decide (48 ≤ d) && decide (d ≤ 57) || decide (d = 95)) := by
        rw [← HQ.out, okC, HD.out]
      rcases (by omega : d < 48 ∨ (48 ≤ d ∧ d ≤ 57) ∨ (57 < d ∧ d < 97 ∧ d ≠ 95) ∨ d = 95 ∨ (97 ≤ d ∧ d ≤ 122) ∨ 122 < d) with h | h | h | h | h | h
      · obtain rfl : q = false := by rw [hx]; simp; omega
        clear hx HP HQ
        have f0 : (d : Int) < 97 := by omega
        have f1 : (d : Int) < 48 := by omega
        have f2 : ¬ (d : Int) = 95 := by omega
        go_wp2
        go_ret
        refine ⟨ret_bool ?_, rfl⟩
        have := HP2.out
        rw [← this]
        rfl
      · obtain rfl : q = true := by rw [hx]; simp; omega
        clear hx HP HQ
        have f0 : (d : Int) < 97 := by omega
        have f1 : (48 : Int) ≤ (d : Int) := by omega
        have f2 : (d : Int) ≤ 57 := by omega
        go_wp2
        go_roundw
        case rel => exact ⟨k + 1, by omega, by go_num, by trivial, by have := HP2.out; rw [← this]; rfl⟩
        case measure => simp [intOf]; omega
      · obtain rfl : q = false := by rw [hx]; simp; omega
        clear hx HP HQ
        have f0 : (d : Int) < 97 := by omega
        have f1 : (57 : Int) < (d : Int) := by omega
        have f2 : (48 : Int) ≤ (d : Int) := by omega
        have f3 : ¬ (d : Int) = 95 := by omega
        go_wp2
        go_ret
        refine ⟨ret_bool ?_, rfl⟩
        have := HP2.out
        rw [← this]
        rfl
      · obtain rfl : q = true := by rw [hx]; simp; omega
        clear hx HP HQ
        subst h
        go_wp2
        go_roundw
        case rel => exact ⟨k + 1, by omega, by go_num, by trivial, by have := HP2.out; rw [← this]; rfl⟩
        case measure => simp [intOf]; omega
      · obtain rfl : q = true := by rw [hx]; simp; omega
        clear hx HP HQ
        have f0 : (97 : Int) ≤ (d : Int) := by omega
        have f1 : (d : Int) ≤ 122 := by omega
        go_wp2
        go_roundw
        case rel => exact ⟨k + 1, by omega, by go_num, by trivial, by have := HP2.out; rw [← this]; rfl⟩
        case measure => simp [intOf]; omega
      · obtain rfl : q = false := by rw [hx]; simp; omega
        clear hx HP HQ
        have f0 : (122 : Int) < (d : Int) := by omega
        have f1 : (97 : Int) ≤ (d : Int) := by omega
        have f2 : (48 : Int) ≤ (d : Int) := by omega
        have f3 : (57 : Int) < (d : Int) := by omega
        have f4 : ¬ (d : Int) = 95 := by omega
        go_wp2
        go_ret
        refine ⟨ret_bool ?_, rfl⟩
        have := HP2.out
        rw [← this]
        rfl
    · have hlt2 : (n : Int) ≤ (k : Int) := by omega
      go_wp2
      go_ret
      refine ⟨ret_bool ?_, rfl⟩
      rw [← HP.out, List.drop_eq_nil_of_le (by omega)]
      rfl
end Go.Proofs.YtpclbgaaoednnaaDoor

