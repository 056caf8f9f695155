/-
  The reference's wide integers: plain facts. No program is named here.
-/
import Derived.Test.YtpclbgaaoednnaaDoorLinE
namespace Go.Proofs.YtpclbgaaoednnaaDoor
open Go.ChangeShapes Go.WideShapes Go.ChangeAt Go.RowKit
set_option linter.unusedVariables false
set_option linter.unusedSimpArgs false

/-- Six digits to the base 2^32. -/
def val6 (D : Nat → Int) : Int := D 0 + D 1 * 4294967296 + D 2 * 18446744073709551616 + D 3 * 79228162514264337593543950336 + D 4 * 340282366920938463463374607431768211456 + D 5 * 1461501637330902918203684832716283019655932542976
def big6 : Int := 6277101735386680763835789423207666416102355444464034512896
def pw (k : Nat) : Int := match k with
  | 0 => 1
  | 1 => 4294967296
  | 2 => 18446744073709551616
  | 3 => 79228162514264337593543950336
  | 4 => 340282366920938463463374607431768211456
  | 5 => 1461501637330902918203684832716283019655932542976
  | _ => 6277101735386680763835789423207666416102355444464034512896
def dig (x : Int) : Prop := 0 ≤ x ∧ x < 4294967296
def Dig6 (D : Nat → Int) : Prop := dig (D 0) ∧ dig (D 1) ∧ dig (D 2) ∧ dig (D 3) ∧ dig (D 4) ∧ dig (D 5)
def updD (D : Nat → Int) (k : Nat) (x : Int) : Nat → Int := fun j => if j = k then x else D j
def wideV (D : Nat → Int) : Value := .agg #[.int .u64 (D 0), .int .u64 (D 1), .int .u64 (D 2), .int .u64 (D 3), .int .u64 (D 4), .int .u64 (D 5)]

theorem Dig6.at {D : Nat → Int} (h : Dig6 D) {k : Nat} (hk : k < 6) : 0 ≤ D k ∧ D k < 4294967296 := by
  obtain ⟨h0, h1, h2, h3, h4, h5⟩ := h
  rcases (by omega : k = 0 ∨ k = 1 ∨ k = 2 ∨ k = 3 ∨ k = 4 ∨ k = 5) with rfl | rfl | rfl | rfl | rfl | rfl <;> assumption
theorem Dig6.mk' {D : Nat → Int} (h : ∀ k, k < 6 → 0 ≤ D k ∧ D k < 4294967296) : Dig6 D := ⟨h 0 (by omega), h 1 (by omega), h 2 (by omega), h 3 (by omega), h 4 (by omega), h 5 (by omega)⟩
theorem Dig6.upd {D : Nat → Int} (h : Dig6 D) (k : Nat) (x : Int) (hx : 0 ≤ x ∧ x < 4294967296) : Dig6 (updD D k x) := Dig6.mk' fun j hj => by
  unfold updD; split
  · exact hx
  · exact h.at hj
theorem val6_bd {D : Nat → Int} (h : Dig6 D) : 0 ≤ val6 D ∧ val6 D < 6277101735386680763835789423207666416102355444464034512896 := by
  unfold val6
  obtain ⟨⟨a0, b0⟩, ⟨a1, b1⟩, ⟨a2, b2⟩, ⟨a3, b3⟩, ⟨a4, b4⟩, ⟨a5, b5⟩⟩ := h
  omega
theorem val6_upd (D : Nat → Int) (k : Nat) (hk : k < 6) (x : Int) : val6 (updD D k x) = val6 D + (x - D k) * pw k := by
  rcases (by omega : k = 0 ∨ k = 1 ∨ k = 2 ∨ k = 3 ∨ k = 4 ∨ k = 5) with rfl | rfl | rfl | rfl | rfl | rfl <;> (unfold val6 updD pw; simp; omega)
theorem pw_succ (k : Nat) (hk : k < 6) : pw (k + 1) = pw k * 4294967296 := by
  rcases (by omega : k = 0 ∨ k = 1 ∨ k = 2 ∨ k = 3 ∨ k = 4 ∨ k = 5) with rfl | rfl | rfl | rfl | rfl | rfl <;> (unfold pw; rfl)

/-- One round of 'digit'. -/
theorem digit_step (D : Nat → Int) (k : Nat) (hk : k < 6) (m c T : Int) (h : val6 D + (m + c) * pw k = T) :
    val6 (updD D k ((D k + m % 4294967296 + c) % 4294967296)) + (m / 4294967296 + (D k + m % 4294967296 + c) / 4294967296) * pw (k + 1) = T := by
  rw [val6_upd D k hk, pw_succ k hk, ← h]
  obtain ⟨s, hs⟩ : ∃ s, D k + m % 4294967296 + c = s := ⟨_, rfl⟩
  rw [hs]
  have e1 : m = 4294967296 * (m / 4294967296) + m % 4294967296 := by omega
  have e2 : s = 4294967296 * (s / 4294967296) + s % 4294967296 := by omega
  obtain ⟨q, hq⟩ : ∃ q, m / 4294967296 = q := ⟨_, rfl⟩
  obtain ⟨r, hr⟩ : ∃ r, s / 4294967296 = r := ⟨_, rfl⟩
  have e3 : (q + r) * (pw k * 4294967296) = ((q + r) * 4294967296) * pw k := by rw [Int.mul_comm (pw k), Int.mul_assoc]
  rw [hq, hr, e3, Int.add_assoc, ← Int.add_mul]
  congr 2
  omega

theorem digit_end {D : Nat → Int} (hD : Dig6 D) {m c T : Int} (hm : 0 ≤ m) (hc : 0 ≤ c) (h : val6 D + (m + c) * pw 6 = T) (hT : T < 6277101735386680763835789423207666416102355444464034512896) : val6 D = T := by
  obtain ⟨h0, h1⟩ := val6_bd hD
  have e : pw 6 = 6277101735386680763835789423207666416102355444464034512896 := rfl
  rw [e] at h
  omega

/-- Equal values have equal digits: the greatest digit in which two numbers differ decides. -/
def hiEq (A B : Nat → Int) (k : Nat) : Prop := ∀ j, k < j → j < 6 → A j = B j
theorem less_at {A B : Nat → Int} (hA : Dig6 A) (hB : Dig6 B) (k : Nat) (hk : k < 6) (he : ∀ j, k < j → j < 6 → A j = B j) (hn : A k ≠ B k) : decide (A k < B k) = decide (val6 A < val6 B) := by
  obtain ⟨⟨a0, b0⟩, ⟨a1, b1⟩, ⟨a2, b2⟩, ⟨a3, b3⟩, ⟨a4, b4⟩, ⟨a5, b5⟩⟩ := hA
  obtain ⟨⟨c0, d0⟩, ⟨c1, d1⟩, ⟨c2, d2⟩, ⟨c3, d3⟩, ⟨c4, d4⟩, ⟨c5, d5⟩⟩ := hB
  unfold val6
  rcases (by omega : k = 0 ∨ k = 1 ∨ k = 2 ∨ k = 3 ∨ k = 4 ∨ k = 5) with rfl | rfl | rfl | rfl | rfl | rfl
  · have e1 := he 1 (by omega) (by omega); have e2 := he 2 (by omega) (by omega); have e3 := he 3 (by omega) (by omega); have e4 := he 4 (by omega) (by omega); have e5 := he 5 (by omega) (by omega)
    rw [e1, e2, e3, e4, e5]; congr 1; apply propext; constructor <;> intro <;> omega
  · have e2 := he 2 (by omega) (by omega); have e3 := he 3 (by omega) (by omega); have e4 := he 4 (by omega) (by omega); have e5 := he 5 (by omega) (by omega)
    rw [e2, e3, e4, e5]; congr 1; apply propext; constructor <;> intro <;> omega
  · have e3 := he 3 (by omega) (by omega); have e4 := he 4 (by omega) (by omega); have e5 := he 5 (by omega) (by omega)
    rw [e3, e4, e5]; congr 1; apply propext; constructor <;> intro <;> omega
  · have e4 := he 4 (by omega) (by omega); have e5 := he 5 (by omega) (by omega)
    rw [e4, e5]; congr 1; apply propext; constructor <;> intro <;> omega
  · have e5 := he 5 (by omega) (by omega)
    rw [e5]; congr 1; apply propext; constructor <;> intro <;> omega
  · congr 1; apply propext; constructor <;> intro <;> omega
theorem less_end {A B : Nat → Int} (he : ∀ j, j < 6 → A j = B j) : decide (val6 A < val6 B) = false := by
  unfold val6
  rw [he 0 (by omega), he 1 (by omega), he 2 (by omega), he 3 (by omega), he 4 (by omega), he 5 (by omega)]
  simp

def low6 (B : Nat → Int) : Nat → Int
  | 0 => 0
  | k + 1 => low6 B k + B k * pw k
theorem low6_all (B : Nat → Int) : low6 B 6 = val6 B := by
  simp only [low6, pw, val6]; omega
/-- One round of 'minus': b is the borrow before, b' the borrow behind. -/
theorem minus_step (D B : Nat → Int) (k : Nat) (hk : k < 6) (b b' T : Int) (h : val6 D = T - low6 B k + b * pw k) :
    val6 (updD D k (D k + b' * 4294967296 - (B k + b))) = T - low6 B (k + 1) + b' * pw (k + 1) := by
  rw [val6_upd D k hk, h, pw_succ k hk]
  show _ = T - (low6 B k + B k * pw k) + _
  have e1 : D k + b' * 4294967296 - (B k + b) - D k = b' * 4294967296 - B k - b := by omega
  have e2 : b' * (pw k * 4294967296) = (b' * 4294967296) * pw k := by rw [Int.mul_comm (pw k), Int.mul_assoc]
  rw [e1, e2, Int.sub_mul, Int.sub_mul]
  omega
theorem minus_end {D A B : Nat → Int} (hD : Dig6 D) (hA : Dig6 A) {b : Int} (hb : 0 ≤ b) (h : val6 D = val6 A - low6 B 6 + b * pw 6) (hle : val6 B ≤ val6 A) : val6 D = val6 A - val6 B := by
  obtain ⟨h0, h1⟩ := val6_bd hD
  rw [low6_all] at h
  have e : pw 6 = 6277101735386680763835789423207666416102355444464034512896 := rfl
  rw [e] at h
  omega
theorem val6_zero : val6 (fun _ => 0) = 0 := by simp [val6]
theorem dig6_zero : Dig6 (fun _ => 0) := Dig6.mk' fun _ _ => by omega

/-- The number of the lower two digits, and whether the others are nil. -/
theorem top_digits {D : Nat → Int} (h : Dig6 D) (hz : D 2 = 0 ∧ D 3 = 0 ∧ D 4 = 0 ∧ D 5 = 0) : val6 D = D 0 + D 1 * 4294967296 := by
  unfold val6; omega
theorem top_big {D : Nat → Int} (h : Dig6 D) (hz : D 2 ≠ 0 ∨ D 3 ≠ 0 ∨ D 4 ≠ 0 ∨ D 5 ≠ 0) : 18446744073709551616 ≤ val6 D := by
  obtain ⟨⟨a0, b0⟩, ⟨a1, b1⟩, ⟨a2, b2⟩, ⟨a3, b3⟩, ⟨a4, b4⟩, ⟨a5, b5⟩⟩ := h
  unfold val6; omega
/-- The product of two 64-bit numbers by halves. -/
theorem halves (a b : Int) : (a % 4294967296) * (b % 4294967296) + ((a % 4294967296) * (b / 4294967296) + (a / 4294967296) * (b % 4294967296)) * 4294967296 + (a / 4294967296) * (b / 4294967296) * 18446744073709551616 = a * b := by
  have h := split_mul a b (a / 4294967296) (a % 4294967296) (b / 4294967296) (b % 4294967296) (by omega) (by omega)
  omega
end Go.Proofs.YtpclbgaaoednnaaDoor

