/-
  Names: Name of the base package.
-/
import Derived.Test.YtpclbgaaoednnaaDoorStrs
namespace Go.Proofs.YtpclbgaaoednnaaDoor
set_option linter.unusedSimpArgs false
open Go.ChangeShapes Go.WideShapes Go.ChangeAt Go.RowKit
set_option linter.unusedVariables false

def fromK (l : List UInt8) (k : Nat) : Bool := if k = 0 then fstOk l && l.all okC else (l.drop k).all okC

set_option maxHeartbeats 2000000 in
theorem base_Name (s : ByteArray) (w : World) :
    Calls Tryd.prog 30 #[.string s] w fun e w' => e = .returned (.bool (nameB s.toList)) ∧ Up w w' := by
  have hlen := len_size s
  obtain ⟨l, hl⟩ : ∃ l, s.data.toList = l := ⟨_, rfl⟩
  rw [hl] at hlen
  obtain ⟨r, hr⟩ : ∃ r, nameB s.toList = r := ⟨_, rfl⟩
  rw [hr]
  rw [Lib.toList_data, hl] at hr
  obtain ⟨q, hq⟩ : ∃ b, wordB l = b := ⟨_, rfl⟩
  have hrs : ∀ (w : World) (v : Value), StrsAt w v wordsS → Calls Tryd.prog 33 #[v, .string s] w fun e w' => e = .returned (.bool q) ∧ w' = w := fun w v hv => by
    have := base_Has s wordsS v w hv
    rw [words_has, Lib.toList_data, hl, hq] at this
    exact this
  obtain ⟨n, hn⟩ : ∃ n, s.size = n := ⟨_, rfl⟩
  rw [hn] at hlen
  have HN := Lib.hid hn
  have HR := Lib.hid hr
  have HL := Lib.hid hl
  have HRS := Lib.hid hrs
  have HQ := Lib.hid hq
  clear hr hl hrs hq
  by_cases h0 : n < 1
  · have h1 : (n : Int) < 1 := by omega
    go_enter Tryd.func30, Tryd.ntmps30
    go_wp2
    go_ret
    refine ⟨ret_bool ?_, Up.refl _⟩
    rw [← HR.out]
    have e1 : decide (1 ≤ l.length) = false := decide_eq_false (by omega)
    simp only [nameB, e1, Bool.false_and]
  have h1 : ¬ (n : Int) < 1 := by omega
  by_cases h2 : 16 < n
  · have h3 : (16 : Int) < n := by omega
    go_enter Tryd.func30, Tryd.ntmps30
    go_wp2
    go_ret
    refine ⟨ret_bool ?_, Up.refl _⟩
    rw [← HR.out]
    have e1 : decide (l.length ≤ 16) = false := by simp; omega
    simp only [nameB, e1, Bool.and_false, Bool.false_and]
  have h3 : ¬ (16 : Int) < n := by omega
  go_enter Tryd.func30, Tryd.ntmps30
  go_wp2_with fail
  refine (base_Words _).mono ?_
  rintro e x1 ⟨v, rfl, hv, hx1⟩
  go_wp2_with fail
  refine (HRS.out _ _ hv).mono ?_
  rintro e x2 ⟨rfl, hx2⟩
  replace hx2 := hx2.symm
  subst hx2
  clear hv
  cases q
  case true =>
    go_wp2
    go_ret
    refine ⟨ret_bool ?_, hx1⟩
    rw [← HR.out]
    simp [nameB, HQ.out]
  have HA : Hid (fromK l 0 = r) := Lib.hid (by
    rw [← HR.out]
    have e1 : decide (1 ≤ l.length) = true := by simp; omega
    have e2 : decide (l.length ≤ 16) = true := by simp; omega
    simp [nameB, fromK, e1, e2, HQ.out])
  clear h0 h2
  go_wp2
  go_loopw [3] (fun i wr => ∃ k : Nat, k ≤ n ∧ i = .int .i64 k ∧ wr = x1 ∧ fromK l k = r) (fun i _ => n - (intOf i).toNat)
  case atStart => exact ⟨0, by omega, rfl, rfl, HA.out⟩
  case round =>
    obtain ⟨k, hk, rfl, hw, hP⟩ := hrel
    replace hw := hw.symm
    subst hw
    have HP := Lib.hid hP
    clear hP
    by_cases hlt : k < n
    · have hlt2 : (k : Int) < (n : Int) := by omega
      have hk0 : (0 : Int) ≤ (k : Int) := by omega
      obtain ⟨d, hd⟩ : ∃ d, (l.getD k 0).toNat = d := ⟨_, rfl⟩
      have hix := fun w : World => run_byte (P := Tryd.prog) w 9 s k d Tryd.underlying9 (by omega) (by rw [HL.out]; exact hd)
      have HD := Lib.hid hd
      clear hd
      obtain ⟨q, hq⟩ : ∃ q, okC (l.getD k 0) = q := ⟨_, rfl⟩
      have HQ2 := Lib.hid hq
      clear hq
      have hx : q = (decide (97 ≤ d) && decide (d ≤ 122) || decide (48 ≤ d) && decide (d ≤ 57) || decide (d = 95)) := by
        rw [← HQ2.out, okC, HD.out]
      by_cases hlow : 97 ≤ d ∧ d ≤ 122
      · obtain rfl : q = true := by rw [hx]; simp; omega
        have HP2 : Hid (fromK l (k + 1) = r) := Lib.hid (by
          rw [← HP.out]
          unfold fromK
          rw [if_neg (by omega)]
          by_cases hk00 : k = 0
          · subst hk00
            rw [if_pos rfl]
            have e3 : fstOk l = true := by unfold fstOk; rw [HD.out]; simp; omega
            have := all_drop (l := l) (k := 0) (p := okC) (by omega)
            rw [List.drop_zero] at this
            rw [this, HQ2.out, e3]; rfl
          · rw [if_neg hk00, all_drop (l := l) (k := k) (by omega), HQ2.out]; rfl)
        clear hx HP HQ2
        have f0 : (97 : Int) ≤ (d : Int) := by omega
        have f1 : (d : Int) ≤ 122 := by omega
        go_wp2
        go_roundw
        case rel => exact ⟨k + 1, by omega, by go_num, by trivial, HP2.out⟩
        case measure => simp [intOf]; omega
      · by_cases hk00 : k = 0
        · subst hk00
          have HP2 : Hid (false = r) := Lib.hid (by
            rw [← HP.out]
            unfold fromK
            rw [if_pos rfl]
            have e3 : fstOk l = false := by unfold fstOk; rw [HD.out]; simp; omega
            rw [e3]; rfl)
          clear hx HP HQ2
          simp only [Int.natCast_zero] at hix
          rcases (by omega : d < 97 ∨ (97 ≤ d ∧ 122 < d)) with h | h
          · have f0 : (d : Int) < 97 := by omega
            go_wp2
            go_ret
            exact ⟨ret_bool HP2.out, hx1⟩
          · have f0 : (97 : Int) ≤ (d : Int) := by omega
            have f1 : ¬ (d : Int) ≤ 122 := by omega
            have f2 : decide ((d : Int) ≤ 122) = false := decide_eq_false f1
            go_wp2
            go_ret
            exact ⟨ret_bool HP2.out, hx1⟩
        · have hkp : (0 : Int) < (k : Int) := by omega
          have HP2 : Hid ((q && fromK l (k + 1)) = r) := Lib.hid (by
            rw [← HP.out]
            unfold fromK
            rw [if_neg (by omega), if_neg hk00, all_drop (l := l) (k := k) (by omega), HQ2.out])
          clear HP HQ2
          rcases (by omega : d < 48 ∨ (48 ≤ d ∧ d ≤ 57) ∨ (57 < d ∧ d < 97 ∧ d ≠ 95) ∨ d = 95 ∨ 122 < d) with h | h | h | h | h
          · obtain rfl : q = false := by rw [hx]; simp; omega
            clear hx
            have f0 : (d : Int) < 97 := by omega
            have f1 : (d : Int) < 48 := by omega
            have f2 : ((d : Int) == 95) = false := by simp; omega
            go_wp2
            go_ret
            exact ⟨ret_bool (by have := HP2.out; rw [← this]; rfl), hx1⟩
          · obtain rfl : q = true := by rw [hx]; simp; omega
            clear hx
            have f0 : (d : Int) < 97 := by omega
            have f1 : (48 : Int) ≤ (d : Int) := by omega
            have f2 : (d : Int) ≤ 57 := by omega
            go_wp2
            go_roundw
            case rel => exact ⟨k + 1, by omega, by go_num, by trivial, by have := HP2.out; rw [← this]; rfl⟩
            case measure => simp [intOf]; omega
          · obtain rfl : q = false := by rw [hx]; simp; omega
            clear hx
            have f0 : (d : Int) < 97 := by omega
            have f1 : (48 : Int) ≤ (d : Int) := by omega
            have f2 : ¬ (d : Int) ≤ 57 := by omega
            have f5 : decide ((d : Int) ≤ 57) = false := decide_eq_false f2
            have f3 : ((d : Int) == 95) = false := by simp; omega
            go_wp2
            go_ret
            exact ⟨ret_bool (by have := HP2.out; rw [← this]; rfl), hx1⟩
          · obtain rfl : q = true := by rw [hx]; simp; omega
            clear hx
            subst h
            go_wp2
            go_roundw
            case rel => exact ⟨k + 1, by omega, by go_num, by trivial, by have := HP2.out; rw [← this]; rfl⟩
            case measure => simp [intOf]; omega
          · obtain rfl : q = false := by rw [hx]; simp; omega
            clear hx
            have f0 : (97 : Int) ≤ (d : Int) := by omega
            have f1 : ¬ (d : Int) ≤ 122 := by omega
            have f8 : decide ((d : Int) ≤ 122) = false := decide_eq_false f1
            have f4 : (48 : Int) ≤ (d : Int) := by omega
            have f7 : ¬ (d : Int) ≤ 57 := by omega
            have f6 : decide ((d : Int) ≤ 57) = false := decide_eq_false f7
            have f2 : ((d : Int) == 95) = false := by simp; omega
            go_wp2
            go_ret
            exact ⟨ret_bool (by have := HP2.out; rw [← this]; rfl), hx1⟩
    · have hlt2 : (n : Int) ≤ (k : Int) := by omega
      go_wp2
      go_ret
      refine ⟨ret_bool ?_, hx1⟩
      rw [← HP.out]
      unfold fromK
      rw [if_neg (by omega), List.drop_eq_nil_of_le (by omega)]
      rfl
end Go.Proofs.YtpclbgaaoednnaaDoor

