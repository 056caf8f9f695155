/-
  Eval of the program's side.
-/
import Derived.Test.YtpclbgaaoednnaaDoorLinI
import Derived.Test.YtpclbgaaoednnaaDoorLinN
import Derived.Test.YtpclbgaaoednnaaDoorQTail
namespace Go.Proofs.YtpclbgaaoednnaaDoor
set_option linter.unusedSimpArgs false
open Go.ChangeShapes Go.WideShapes Go.ChangeAt Go.RowKit
set_option linter.unusedVariables false

theorem wide_add (neg : Bool) (b : Nat) (hi lo : Int) (a0 : 0 ≤ hi) (a1 : hi < 18446744073709551616) (b0 : 0 ≤ lo) (b1 : lo < 18446744073709551616) (w : World) (n p : Int) (hw : WAt w b n)
    (hp : p = if neg then n - (hi * 18446744073709551616 + lo) else n + (hi * 18446744073709551616 + lo)) :
    Calls Tryd.prog 24 #[.pointer (some ⟨b, 0, none⟩), .int .u64 hi, .int .u64 lo, .bool neg] w fun e w' => e = .returned (.tuple #[]) ∧ WAt w' b p ∧ UpBut b w w' := by
  obtain ⟨h, m, l, hd, h3⟩ := hw
  cases neg
  · exact wide_add_pos b h m l hi lo hd.1.1 hd.1.2 hd.2.1.1 hd.2.1.2 hd.2.2.1.1 hd.2.2.1.2 a0 a1 b0 b1 w h3 n p hd hp
  · exact wide_add_neg b h m l hi lo hd.1.1 hd.1.2 hd.2.1.1 hd.2.1.2 hd.2.2.1.1 hd.2.2.1.2 a0 a1 b0 b1 w h3 n p hd hp

theorem WAt.up {w w' : World} {b : Nat} {n : Int} (h : WAt w b n) (u : Up w w') : WAt w' b n := by
  obtain ⟨x, m, l, hd, h3⟩ := h
  exact ⟨x, m, l, hd, h3.up u⟩
theorem WAt.lt {w : World} {b : Nat} {n : Int} (h : WAt w b n) : b < w.heap.size := by
  obtain ⟨x, m, l, hd, h3⟩ := h
  exact h3.lt
theorem WAt.zero (w : World) (t : TypeId) : WAt (w.alloc (.cells #[.int .u64 0, .int .u64 0, .int .u64 0] t)) w.heap.size 0 :=
  ⟨0, 0, 0, ⟨⟨by omega, by omega⟩, ⟨by omega, by omega⟩, ⟨by omega, by omega⟩, by rfl⟩, by
    have h := heap_alloc_new w (.cells #[.int .u64 0, .int .u64 0, .int .u64 0] t)
    exact ⟨by rw [size_alloc]; omega, cell_of_row _ _ _ _ _ _ h, cell_of_row _ _ _ _ _ _ h, cell_of_row _ _ _ _ _ _ h, fun o => frozen_of_row _ _ o _ _ h⟩⟩

def lookE (env : List Mono) (s : List UInt8) : Option Int := match env with
  | [] => none
  | m :: r => if m.1.toList == s then some m.2 else lookE r s
def sumE (env : List Mono) : List Mono → Int → Option Int
  | [], a => some a
  | m :: r, a => match lookE env m.1.toList with
    | none => none
    | some v => sumE env r (a + m.2 * v)
def evalR (o : Option Int) : Int × Int := match o with
  | none => (0, 9)
  | some n => if fitB n then (n, 0) else (0, 3)
def evalF (K : Int) (l env : List Mono) : Int × Int := if okL l then evalR (sumE env l K) else (0, 1)

def In64 (x : Int) : Prop := -9223372036854775808 ≤ x ∧ x ≤ 9223372036854775807
def Rng (l : List Mono) : Prop := ∀ k, k < l.length → In64 (l.getD k m0).2

theorem idx_look (s : List UInt8) : ∀ (l : List Mono) (k : Nat), (idxFrom s l k = -1 ∧ lookE l s = none) ∨ (∃ i, i < l.length ∧ idxFrom s l k = ((k + i : Nat) : Int) ∧ lookE l s = some (l.getD i m0).2)
  | [], k => Or.inl ⟨rfl, rfl⟩
  | m :: r, k => by
    unfold idxFrom lookE
    by_cases h : (m.1.toList == s) = true
    · rw [if_pos h, if_pos h]
      exact Or.inr ⟨0, by simp, rfl, rfl⟩
    · rw [if_neg h, if_neg h]
      rcases idx_look s r (k + 1) with ⟨h1, h2⟩ | ⟨i, h1, h2, h3⟩
      · exact Or.inl ⟨h1, h2⟩
      · exact Or.inr ⟨i + 1, by simp; omega, by rw [h2]; omega, h3⟩

theorem mag_range (n : Int) (h : In64 n) : 0 ≤ mag n ∧ mag n < 18446744073709551616 ∧ mag n ≤ 9223372036854775808 := by
  unfold mag; obtain ⟨h1, h2⟩ := h; split <;> omega
theorem sign_mul (b x : Int) : (if decide (b < 0) != decide (x < 0) then -(mag b * mag x) else mag b * mag x) = b * x := by
  unfold mag
  by_cases h1 : b < 0 <;> by_cases h2 : x < 0 <;> simp [h1, h2, Int.neg_mul, Int.mul_neg]
theorem mag_mul_le (b x : Int) (hb : In64 b) (hx : In64 x) : 0 ≤ mag b * mag x ∧ mag b * mag x ≤ 85070591730234615865843651857942052864 := by
  obtain ⟨b0, b1, b2⟩ := mag_range b hb
  obtain ⟨x0, x1, x2⟩ := mag_range x hx
  refine ⟨Int.mul_nonneg b0 x0, ?_⟩
  have h1 : mag b * mag x ≤ 9223372036854775808 * mag x := Int.mul_le_mul_of_nonneg_right b2 x0
  omega
theorem mul_le64 (b x : Int) (hb : In64 b) (hx : In64 x) : -85070591730234615865843651857942052864 ≤ b * x ∧ b * x ≤ 85070591730234615865843651857942052864 := by
  obtain ⟨h1, h2⟩ := mag_mul_le b x hb hx
  have := sign_mul b x
  split at this <;> omega
end Go.Proofs.YtpclbgaaoednnaaDoor

