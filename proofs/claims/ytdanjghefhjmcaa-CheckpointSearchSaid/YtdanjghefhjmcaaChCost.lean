/-
  Contracts of chapter 28: the two formulas of the cost.
-/
import Derived.Test.YtdanjghefhjmcaaRows
import Derived.Test.YtdanjghefhjmcaaB
import Derived.Test.YtdanjghefhjmcaaCh
namespace Go.Proofs.Ytdanjghefhjmcaa
open Go.ChangeShapes Go.WideShapes Go.ChangeAt Go.RowKit
set_option linter.unusedVariables false

def okN (n : Int) : Bool := decide (0 ≤ n ∧ n ≤ 64)

theorem chk_argument (n : Int) (r : Bool) (hr : okN n = r) (w : World) :
    Calls Try.prog 23 #[.int .i64 n] w fun e w' => e = .returned (.bool r) ∧ Up w w' := by
  subst hr
  go_enter Try.func23, Try.ntmps23
  go_wp2
  all_goals
    go_ret
    exact ⟨ret_bool (by simp [okN]; omega), Up.refl _⟩

theorem chk_choose (d b r : Nat) (a : Int) (ha : a = (d : Int) + b) (hr : chP d b = r) (hd : d ≤ 100) (hb : b ≤ 100) (w : World) :
    Calls Try.prog 24 #[.int .i64 a, .int .i64 b] w fun e w' => e = .returned (.int .i64 r) ∧ Up w w' := by
  have HR := Lib.hid hr
  subst ha
  clear hr
  go_enter Try.func24, Try.ntmps24
  go_wp2
  go_loop [5, 6] (fun x y => ∃ n i : Nat, n ≤ 1099511627776 ∧ 1 ≤ i ∧ i ≤ b + 1 ∧ x = .int .i64 n ∧ y = .int .i64 i ∧ chGo d (b + 1 - i) i n = r) (fun _ y => b + 1 - (intOf y).toNat)
  case atStart => exact ⟨1, 1, by omega, by omega, by omega, rfl, rfl, HR.out⟩
  case round =>
    obtain ⟨n, i, h1, h2, h3, rfl, rfl, hg⟩ := hrel
    have HG := Lib.hid hg
    clear hg
    by_cases hi : i ≤ b
    · have hi2 : (i : Int) ≤ (b : Int) := by omega
      have hi1 : (1 : Int) ≤ (i : Int) := by omega
      obtain ⟨m, hm⟩ : ∃ m : Nat, n * (d + i) = m := ⟨_, rfl⟩
      have hmb : m ≤ 1099511627776 * 201 := by
        rw [← hm]; exact Nat.mul_le_mul h1 (by omega)
      have hmi : (n : Int) * ((d : Int) + (i : Int)) = (m : Int) := by rw [← hm]; simp
      have hmb2 : (m : Int) ≤ 221001837182976 := by omega
      have hmb3 : (0 : Int) ≤ (m : Int) := by omega
      obtain ⟨q, hq⟩ : ∃ q : Nat, m / i = q := ⟨_, rfl⟩
      have hqi : (m : Int) / (i : Int) = (q : Int) := by rw [← hq]; simp
      have hs : b + 1 - i = (b - i) + 1 := by omega
      have HS : Hid ((if 1099511627776 < q then 1099511627776 else chGo d (b - i) (i + 1) q) = r) := Lib.hid (by
        have := HG.out; rw [hs, chGo, hm, hq] at this; exact this)
      have hqb : (q : Int) ≤ m := by rw [← hq]; have := Nat.div_le_self m i; omega
      clear hm hq HG
      by_cases hlim : 1099511627776 < q
      · have hl2 : (1099511627776 : Int) < (q : Int) := by omega
        go_wp2
        go_ret
        exact ⟨ret_int (by have := HS.out; rw [if_pos hlim] at this; omega), Up.refl _⟩
      · have hl2 : (q : Int) ≤ (1099511627776 : Int) := by omega
        go_wp2
        go_round
        case rel => exact ⟨q, i + 1, by omega, by omega, by omega, rfl, by go_num, by have := HS.out; rw [if_neg hlim] at this; rw [← this, show b + 1 - (i + 1) = b - i by omega]⟩
        case measure => simp [intOf]; omega
    · have hi2 : (b : Int) < (i : Int) := by omega
      go_wp2
      go_ret
      exact ⟨ret_int (by have := HG.out; rw [show b + 1 - i = 0 by omega] at this; rw [← this, chGo]), Up.refl _⟩

theorem chk_choose' (d b r : Nat) (x y : Int) (hx : x = (d : Int) + b) (hy : y = (b : Int)) (hr : chP d b = r) (hd : d ≤ 100) (hb : b ≤ 100) (w : World) :
    Calls Try.prog 24 #[.int .i64 x, .int .i64 y] w fun e w' => e = .returned (.int .i64 r) ∧ Up w w' := by
  subst hy
  exact chk_choose d b r x hx hr hd hb w

theorem rGo_step (n c f r : Nat) : rGo n c (f + 1) r = if chP r c < n then rGo n c f (r + 1) else r := rfl

theorem chk_Cost_ok (n s : Nat) (hn : n ≤ 64) (hs : s ≤ 64) (w : World) :
    Calls Try.prog 11 #[.int .i64 n, .int .i64 s] w fun e w' => e = .returned (.tuple #[.int .i64 (costF n s), .int .i64 0]) ∧ Up w w' := by
  have h1 : Hid (okN n = true) := Lib.hid (by simp [okN]; omega)
  have h2 : Hid (okN s = true) := Lib.hid (by simp [okN]; omega)
  have h63 : Hid (64 ≤ chP 63 (s + 1)) := Lib.hid (by simpa using all64_spec ch63_b s hs)
  have hU := Up.refl w
  go_enter Try.func11, Try.ntmps11
  go_wp2_with (first | (go_at_call_of 23 (Value.int IntKind.i64 (n : Int)); refine (chk_argument _ true h1.out _).mono ?_; rintro e x ⟨rfl, hx⟩; replace hU := hU.trans hx) | (go_at_call_of 23 (Value.int IntKind.i64 (s : Int)); refine (chk_argument _ true h2.out _).mono ?_; rintro e x ⟨rfl, hx⟩; replace hU := hU.trans hx))
  go_loopw [7] (fun y wr => ∃ r : Nat, r ≤ 63 ∧ y = .int .i64 r ∧ rGo n (s + 1) (64 - r) r = rF n (s + 1) ∧ Up w wr) (fun y _ => 64 - (intOf y).toNat)
  case atStart => exact ⟨0, by omega, rfl, rfl, hU⟩
  case round =>
    rename_i wr
    obtain ⟨r, hr, rfl, hg, hB⟩ := hrel
    have HG := Lib.hid hg
    clear hg
    obtain ⟨q, hq⟩ : ∃ q, chP r (s + 1) = q := ⟨_, rfl⟩
    have HQ := Lib.hid hq
    rw [show 64 - r = (63 - r) + 1 by omega, rGo_step, hq] at HG
    clear hq
    by_cases hlt : q < n
    · have hr2 : r < 63 := by
        by_cases e : r = 63
        · subst e; have := h63.out; rw [HQ.out] at this; omega
        · omega
      have hl : (q : Int) < (n : Int) := by omega
      go_wp2_with (go_at_call 24; refine (chk_choose' r (s + 1) q _ _ (by omega) (by omega) HQ.out (by omega) (by omega) _).mono ?_; rintro e x ⟨rfl, hx⟩)
      go_roundw
      case rel => exact ⟨r + 1, by omega, by go_num, by have := HG.out; rw [if_pos hlt] at this; rw [← this, show 64 - (r + 1) = 63 - r by omega], hB.trans hx⟩
      case measure => simp [intOf]; omega
    · have hl : (n : Int) ≤ (q : Int) := by omega
      have hrF : rF n (s + 1) = r := by have := HG.out; rw [if_neg hlt] at this; exact this.symm
      by_cases h0 : r = 0
      · subst h0
        have HC : Hid (costF n s = 0) := Lib.hid (by rw [costF, if_pos hrF])
        go_wp2_with (go_at_call 24; refine (chk_choose' 0 (s + 1) q _ _ (by omega) (by omega) HQ.out (by omega) (by omega) _).mono ?_; rintro e x ⟨rfl, hx⟩)
        go_ret2
        exact ⟨ret_ii (by rw [HC.out]; rfl) rfl, hB.trans hx⟩
      · obtain ⟨p, hp⟩ : ∃ p, chP (r - 1) (s + 2) = p := ⟨_, rfl⟩
        have hpos : p ≤ r * n := by
          have := all64_spec (all64_spec cost_pos_b n hn) s hs
          rw [hrF, hp] at this
          simpa [h0] using this
        have HC : Hid (costF n s = r * n - p) := Lib.hid (by rw [costF, hrF, if_neg h0, hp])
        have HP := Lib.hid hp
        have hrn : r * n ≤ 63 * 64 := Nat.mul_le_mul hr hn
        obtain ⟨m, hm⟩ : ∃ m : Nat, r * n = m := ⟨_, rfl⟩
        have hmi : (r : Int) * (n : Int) = (m : Int) := by rw [← hm]; simp
        rw [hm] at hpos hrn HC
        have hm2 : (m : Int) ≤ 4032 := by omega
        have hp2 : (p : Int) ≤ (m : Int) := by omega
        have hr1 : ((r : Int) == 0) = false := by simp; omega
        clear hm hrF
        go_wp2_with fail
        refine (chk_choose' r (s + 1) q _ _ (by omega) (by omega) HQ.out (by omega) (by omega) _).mono ?_
        rintro e x ⟨rfl, hx⟩
        go_wp2_with fail
        refine (chk_choose' (r - 1) (s + 2) p _ _ (by omega) (by omega) HP.out (by omega) (by omega) _).mono ?_
        rintro e x2 ⟨rfl, hx2⟩
        replace hB := (hB.trans hx).trans hx2
        go_wp2_with fail
        go_ret2
        exact ⟨ret_ii (by rw [HC.out]; omega) rfl, hB⟩

theorem chk_Cost_bad (n s : Int) (h : ¬ (0 ≤ n ∧ n ≤ 64 ∧ 0 ≤ s ∧ s ≤ 64)) (w : World) :
    Calls Try.prog 11 #[.int .i64 n, .int .i64 s] w fun e w' => e = .returned (.tuple #[.int .i64 0, .int .i64 1]) ∧ Up w w' := by
  have hU := Up.refl w
  by_cases hn : 0 ≤ n ∧ n ≤ 64
  · have h1 : Hid (okN n = true) := Lib.hid (by simp [okN]; omega)
    have h2 : Hid (okN s = false) := Lib.hid (by simp [okN]; omega)
    clear h
    go_enter Try.func11, Try.ntmps11
    go_wp2_with fail
    refine (chk_argument _ true h1.out _).mono ?_
    rintro e x ⟨rfl, hx⟩
    go_wp2_with fail
    refine (chk_argument _ false h2.out _).mono ?_
    rintro e x2 ⟨rfl, hx2⟩
    go_wp2_with fail
    go_ret2
    exact ⟨rfl, hx.trans hx2⟩
  · have h1 : Hid (okN n = false) := Lib.hid (by simp [okN]; omega)
    clear h
    go_enter Try.func11, Try.ntmps11
    go_wp2_with fail
    refine (chk_argument _ false h1.out _).mono ?_
    rintro e x ⟨rfl, hx⟩
    go_wp2_with fail
    go_ret2
    exact ⟨rfl, hx⟩
end Go.Proofs.Ytdanjghefhjmcaa
