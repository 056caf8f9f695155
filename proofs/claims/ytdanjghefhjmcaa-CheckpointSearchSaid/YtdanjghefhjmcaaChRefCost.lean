/-
  Contracts of chapter 28: the cost by the reference.
-/
import Derived.Test.YtdanjghefhjmcaaChCost
namespace Go.Proofs.Ytdanjghefhjmcaa
open Go.ChangeShapes Go.WideShapes Go.ChangeAt Go.RowKit
set_option linter.unusedVariables false

def askE (n s : Int) : Int := if n < 0 ∨ 64 < n ∨ s < 0 ∨ 64 < s then 1 else 0

theorem r28_Asked (n s e0 : Int) (h : askE n s = e0) (w : World) :
    Calls Try.prog 22 #[.int .i64 n, .int .i64 s] w fun e w' => e = .returned (.int .i64 e0) ∧ Up w w' := by
  have H := Lib.hid h
  clear h
  rcases (by omega : n < 0 ∨ (0 ≤ n ∧ 64 < n) ∨ (0 ≤ n ∧ n ≤ 64 ∧ s < 0) ∨ (0 ≤ n ∧ n ≤ 64 ∧ 0 ≤ s ∧ 64 < s) ∨ (0 ≤ n ∧ n ≤ 64 ∧ 0 ≤ s ∧ s ≤ 64)) with h | ⟨h, h1⟩ | ⟨h, h1, h2⟩ | ⟨h, h1, h2, h3⟩ | ⟨h, h1, h2, h3⟩
  all_goals
    go_enter Try.func22, Try.ntmps22
    go_wp2
    go_ret
    exact ⟨ret_int (by rw [← H.out, askE]; first | (rw [if_pos (by omega)]) | (rw [if_neg (by omega)])), Up.refl _⟩

theorem r28_choose (d b r : Nat) (x y : Int) (hx : x = (d : Int) + b) (hy : y = (b : Int)) (hr : chR d b = r) (hd : d ≤ 100) (hb : b ≤ 100) (w : World) :
    Calls Try.prog 25 #[.int .i64 x, .int .i64 y] w fun e w' => e = .returned (.int .i64 r) ∧ Up w w' := by
  have HR := Lib.hid hr
  subst hx hy
  clear hr
  go_enter Try.func25, Try.ntmps25
  go_wp2
  go_loop [5, 6] (fun x y => ∃ n i : Nat, n ≤ 2010000 ∧ 1 ≤ i ∧ i ≤ b + 1 ∧ x = .int .i64 n ∧ y = .int .i64 i ∧ chGoR d (b + 1 - i) i n = r) (fun _ y => b + 1 - (intOf y).toNat)
  case atStart => exact ⟨1, 1, by omega, by omega, by omega, rfl, rfl, HR.out⟩
  case round =>
    obtain ⟨n, i, h1, h2, h3, rfl, rfl, hg⟩ := hrel
    have HG := Lib.hid hg
    clear hg
    by_cases hi : i ≤ b
    · have hi2 : (i : Int) ≤ (b : Int) := by omega
      have hi1 : (1 : Int) ≤ (i : Int) := by omega
      have hs : b + 1 - i = (b - i) + 1 := by omega
      by_cases hlim : 10000 < n
      · have hl2 : (10000 : Int) < (n : Int) := by omega
        go_wp2
        go_ret
        exact ⟨ret_int (by have := HG.out; rw [hs, chGoR, if_pos hlim] at this; omega), Up.refl _⟩
      · have hl2 : (n : Int) ≤ (10000 : Int) := by omega
        obtain ⟨m, hm⟩ : ∃ m : Nat, n * (d + i) = m := ⟨_, rfl⟩
        have hmb : m ≤ 10000 * 201 := by
          rw [← hm]; exact Nat.mul_le_mul (by omega) (by omega)
        have hmi : (n : Int) * ((d : Int) + (i : Int)) = (m : Int) := by rw [← hm]; simp
        have hmb2 : (m : Int) ≤ 2010000 := by omega
        have hmb3 : (0 : Int) ≤ (m : Int) := by omega
        obtain ⟨q, hq⟩ : ∃ q : Nat, m / i = q := ⟨_, rfl⟩
        have hqi : (m : Int) / (i : Int) = (q : Int) := by rw [← hq]; simp
        have HS : Hid (chGoR d (b - i) (i + 1) q = r) := Lib.hid (by
          have := HG.out; rw [hs, chGoR, if_neg hlim, hm, hq] at this; exact this)
        have hqb : (q : Int) ≤ m := by rw [← hq]; have := Nat.div_le_self m i; omega
        clear hm hq HG
        go_wp2
        go_round
        case rel => exact ⟨q, i + 1, by omega, by omega, by omega, rfl, by go_num, by have := HS.out; rw [← this, show b + 1 - (i + 1) = b - i by omega]⟩
        case measure => simp [intOf]; omega
    · have hi2 : (b : Int) < (i : Int) := by omega
      go_wp2
      go_ret
      exact ⟨ret_int (by have := HG.out; rw [show b + 1 - i = 0 by omega] at this; rw [← this, chGoR]), Up.refl _⟩

theorem rGoR_step (n c f r : Nat) : rGoR n c (f + 1) r = if chR c r < n then rGoR n c f (r + 1) else r := rfl

theorem r28_Cost_ok (n s : Nat) (hn : n ≤ 64) (hs : s ≤ 64) (w : World) :
    Calls Try.prog 12 #[.int .i64 n, .int .i64 s] w fun e w' => e = .returned (.tuple #[.int .i64 (costF n s), .int .i64 0]) ∧ Up w w' := by
  have h1 : Hid (askE n s = 0) := Lib.hid (by rw [askE, if_neg (by omega)])
  have h63 : Hid (64 ≤ chR (s + 1) 63) := Lib.hid (by simpa using all64_spec ch63R_b s hs)
  have hCR : Hid (costF n s = costR n s) := Lib.hid (cost_same n s hn hs)
  go_enter Try.func12, Try.ntmps12
  go_wp2_with fail
  refine (r28_Asked _ _ 0 h1.out _).mono ?_
  rintro e x ⟨rfl, hU⟩
  go_wp2_with fail
  go_loopw [8] (fun y wr => ∃ r : Nat, r ≤ 63 ∧ y = .int .i64 r ∧ rGoR n (s + 1) (64 - r) r = rR n (s + 1) ∧ Up w wr) (fun y _ => 64 - (intOf y).toNat)
  case atStart => exact ⟨0, by omega, rfl, rfl, hU⟩
  case round =>
    rename_i wr
    obtain ⟨r, hr, rfl, hg, hB⟩ := hrel
    have HG := Lib.hid hg
    clear hg
    obtain ⟨q, hq⟩ : ∃ q, chR (s + 1) r = q := ⟨_, rfl⟩
    have HQ := Lib.hid hq
    rw [show 64 - r = (63 - r) + 1 by omega, rGoR_step, hq] at HG
    clear hq
    by_cases hlt : q < n
    · have hr2 : r < 63 := by
        by_cases e : r = 63
        · subst e; have := h63.out; rw [HQ.out] at this; omega
        · omega
      have hl : (q : Int) < (n : Int) := by omega
      go_wp2_with (go_at_call 25; refine (r28_choose (s + 1) r q _ _ (by omega) (by omega) HQ.out (by omega) (by omega) _).mono ?_; rintro e x ⟨rfl, hx⟩)
      go_roundw
      case rel => exact ⟨r + 1, by omega, by go_num, by have := HG.out; rw [if_pos hlt] at this; rw [← this, show 64 - (r + 1) = 63 - r by omega], hB.trans hx⟩
      case measure => simp [intOf]; omega
    · have hl : (n : Int) ≤ (q : Int) := by omega
      have hrF : rR n (s + 1) = r := by have := HG.out; rw [if_neg hlt] at this; exact this.symm
      by_cases h0 : r = 0
      · subst h0
        have HC : Hid (costF n s = 0) := Lib.hid (by rw [hCR.out, costR, if_pos hrF])
        go_wp2_with (go_at_call 25; refine (r28_choose (s + 1) 0 q _ _ (by omega) (by omega) HQ.out (by omega) (by omega) _).mono ?_; rintro e x ⟨rfl, hx⟩)
        go_ret2
        exact ⟨ret_ii (by rw [HC.out]; rfl) rfl, hB.trans hx⟩
      · obtain ⟨p, hp⟩ : ∃ p, chR (s + 2) (r - 1) = p := ⟨_, rfl⟩
        have hpos : p ≤ r * n := by
          have := all64_spec (all64_spec costR_pos_b n hn) s hs
          rw [hrF, hp] at this
          simpa [h0] using this
        have HC : Hid (costF n s = r * n - p) := Lib.hid (by rw [hCR.out, costR, hrF, if_neg h0, hp])
        have HP := Lib.hid hp
        have hrn : r * n ≤ 63 * 64 := Nat.mul_le_mul hr hn
        obtain ⟨m, hm⟩ : ∃ m : Nat, r * n = m := ⟨_, rfl⟩
        have hmi : (r : Int) * (n : Int) = (m : Int) := by rw [← hm]; simp
        rw [hm] at hpos hrn HC
        have hm2 : (m : Int) ≤ 4032 := by omega
        have hp2 : (p : Int) ≤ (m : Int) := by omega
        have hr1 : ((r : Int) == 0) = false := by simp; omega
        clear hm hrF
        go_wp2_with fail
        refine (r28_choose (s + 1) r q _ _ (by omega) (by omega) HQ.out (by omega) (by omega) _).mono ?_
        rintro e x ⟨rfl, hx⟩
        go_wp2_with fail
        refine (r28_choose (s + 2) (r - 1) p _ _ (by omega) (by omega) HP.out (by omega) (by omega) _).mono ?_
        rintro e x2 ⟨rfl, hx2⟩
        replace hB := (hB.trans hx).trans hx2
        go_wp2_with fail
        go_ret2
        exact ⟨ret_ii (by rw [HC.out]; omega) rfl, hB⟩

theorem r28_Cost_bad (n s : Int) (h : ¬ (0 ≤ n ∧ n ≤ 64 ∧ 0 ≤ s ∧ s ≤ 64)) (w : World) :
    Calls Try.prog 12 #[.int .i64 n, .int .i64 s] w fun e w' => e = .returned (.tuple #[.int .i64 0, .int .i64 1]) ∧ Up w w' := by
  have h1 : Hid (askE n s = 1) := Lib.hid (by rw [askE, if_pos (by omega)])
  clear h
  go_enter Try.func12, Try.ntmps12
  go_wp2_with fail
  refine (r28_Asked _ _ 1 h1.out _).mono ?_
  rintro e x ⟨rfl, hU⟩
  go_wp2_with fail
  go_ret2
  exact ⟨rfl, hU⟩
end Go.Proofs.Ytdanjghefhjmcaa
