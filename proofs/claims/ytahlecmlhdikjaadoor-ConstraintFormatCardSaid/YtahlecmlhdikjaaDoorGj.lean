/-
  Joined by a program: CoC, LinD, LinDw, LinDp, LinDm.
-/
import Derived.Test.YtahlecmlhdikjaaDoorGg
import Derived.Test.YtahlecmlhdikjaaDoorGf
import Derived.Lib.Zigzag
import Derived.Test.YtahlecmlhdikjaaDoorGb

section
namespace Go.Proofs.YtahlecmlhdikjaaDoor
open Go.ChangeShapes Go.WideShapes Go.ChangeAt Go.RowKit
set_option linter.unusedVariables false
set_option linter.unusedSimpArgs false

def OutC (w : World) (h O : Nat) (K : Int) (q : Bool) (l : List Mono) (n : Nat) (a : Option Addr) (cap : Nat) : Prop :=
  n = l.length ∧ w.heap[O]? = some (.cells #[.int .i64 K, .slice a n cap, .bool q] 26 (0, 0)) ∧ w.ownsRow h 56 2 (.slice a n cap) n (monoCells l) ∧ O < h ∧ h ≤ w.heap.size
theorem OutC.up {w w' : World} {h O n : Nat} {K : Int} {q : Bool} {l : List Mono} {a : Option Addr} {cap : Nat} (x : OutC w h O K q l n a cap) (u : Up w w') : OutC w' h O K q l n a cap := by
  obtain ⟨h1, h2, h3, h4, h5⟩ := x
  exact ⟨h1, (u.heap O (by omega)).trans h2, own_up h3 u, h4, Nat.le_trans h5 u.size⟩
theorem OutC.cells {w : World} {h O n : Nat} {K : Int} {q : Bool} {l : List Mono} {a : Option Addr} {cap : Nat} (x : OutC w h O K q l n a cap) :
    w.cell? ⟨O, 0, none⟩ = some (.int .i64 K) ∧ w.cell? ⟨O, 1, none⟩ = some (.slice a n cap) ∧ w.cell? ⟨O, 2, none⟩ = some (.bool q) ∧ (∀ o, w.frozen? ⟨O, o, none⟩ = false) ∧ O < w.heap.size := by
  obtain ⟨h1, h2, h3, h4, h5⟩ := x
  exact ⟨cell_of_row _ _ _ _ _ _ h2, cell_of_row _ _ _ _ _ _ h2, cell_of_row _ _ _ _ _ _ h2, fun o => frozen_of_row _ _ o _ _ h2, by omega⟩
theorem OutC.monos {w : World} {h O n : Nat} {K : Int} {q : Bool} {l : List Mono} {a : Option Addr} {cap : Nat} (x : OutC w h O K q l n a cap) (hn : n ≤ 9223372036854775807) : MonosAt w (.slice a n cap) l := by
  obtain ⟨h1, h2, h3, h4, h5⟩ := x
  subst h1
  exact SlAt.of_own h3 hn fun i j hi hj => monoCells_get l i j hi hj
theorem OutC.key {w : World} {h O n : Nat} {K : Int} {q : Bool} {l : List Mono} {a : Option Addr} {cap : Nat} (x : OutC w h O K q l n a cap) (s : ByteArray) (b : Int) (w1 : World)
    (hg : (w.alloc (.cells #[.string s, .int .i64 b] 56)).grownBy w1 (Value.slice a n cap).ownBlock) :
    w1.cell? ⟨O, 1, none⟩ = some (.slice a n cap) ∧ (∀ o, w1.frozen? ⟨O, o, none⟩ = false) ∧ Hid (w1.heap[O]? = some (.cells #[.int .i64 K, .slice a n cap, .bool q] 26 (0, 0))) ∧ Hid (UpRow h O w w1) ∧ Hid (h ≤ w1.heap.size) := by
  obtain ⟨h1, h2, h3, h4, h5⟩ := x
  have hne : ∀ k, k < h → some k ≠ (Value.slice a n cap).ownBlock := fun k hk e => by have := (h3.lt k e.symm).1; omega
  have g0 := (hg.block O (by rw [size_alloc]; omega) (hne O h4)).trans ((Below.heap_alloc _ _ _ (by omega)).trans h2)
  have hs := hg.size
  rw [size_alloc] at hs
  exact ⟨cell_of_row _ _ _ _ _ _ g0, fun o => frozen_of_row _ _ o _ _ g0, Lib.hid g0, Lib.hid ⟨hg.os, hg.tape, hg.output, by omega, fun k hk _ => (hg.block k (by rw [size_alloc]; omega) (hne k hk)).trans (Below.heap_alloc _ _ _ (by omega))⟩, Lib.hid (by omega)⟩
theorem OutC.done {w w1 : World} {h O n : Nat} {K : Int} {q : Bool} {l : List Mono} {a : Option Addr} {cap : Nat} (x : OutC w h O K q l n a cap) (s : ByteArray) (b : Int)
    (g0 : w1.heap[O]? = some (.cells #[.int .i64 K, .slice a n cap, .bool q] 26 (0, 0))) (hu : UpRow h O w w1) (hz : h ≤ w1.heap.size) (va : Option Addr) (vc : Nat)
    (ho : w1.ownsRow h 56 2 (.slice va (n + 1) vc) (n + 1) (monoCells l ++ flat (monoF [(s, b)]) 1 2)) :
    OutC (w1.setCell ⟨O, 1, none⟩ (.slice va (n + 1) vc)) h O K q (l ++ [(s, b)]) (n + 1) va vc ∧ UpRow h O w (w1.setCell ⟨O, 1, none⟩ (.slice va (n + 1) vc)) := by
  obtain ⟨h1, h2, h3, h4, h5⟩ := x
  refine ⟨⟨by rw [List.length_append, h1]; rfl, ?_, ?_, h4, by rw [set_size]; exact hz⟩, hu.set 1 _⟩
  · simp [World.setCell, Array.getElem?_modify, g0]
  · rw [monoCells_snoc]
    exact ownsRow_setCell_below ho h4 _
theorem OutC.new (x : World) (K : Int) (q : Bool) : OutC (x.alloc (.cells #[.int .i64 K, .slice none 0 0, .bool q] 26)) (x.heap.size + 1) x.heap.size K q [] 0 none 0 :=
  ⟨rfl, heap_alloc_new x _, World.ownsRow_nil _ _ _ _, by omega, by rw [size_alloc]; omega⟩
theorem OutC.part {w : World} {h O n : Nat} {K : Int} {q : Bool} {l : List Mono} {a : Option Addr} {cap : Nat} (x : OutC w h O K q l n a cap) (hn : n ≤ 1000) (hr : Rng l) : Part w (.slice a n cap) l :=
  ⟨x.monos (by omega), hr, own_cap x.2.2.1⟩
/-- What a row below h keeps. -/
theorem UpRow.frozen {h b : Nat} {w w' : World} (u : UpRow h b w w') (k o : Nat) (hk : k < h) (hb : k ≠ b) : w'.frozen? ⟨k, o, none⟩ = w.frozen? ⟨k, o, none⟩ :=
  World.frozen?_of_block (a := ⟨k, o, none⟩) (u.block k hk hb)
theorem not64 {K : Int} (h : In64 K) : bits .xor .i64 (-1) K = -1 - K := by
  obtain ⟨h0, h1⟩ := h
  show IntKind.i64.wrap ((BitVec.ofInt 64 (-1) ^^^ BitVec.ofInt 64 K).toNat : Int) = _
  have e1 : (BitVec.ofInt 64 (-1)).toNat = 2 ^ 64 - 1 := by decide
  have e2 : (BitVec.ofInt 64 K).toNat = (K % 18446744073709551616).toNat := by rw [BitVec.toNat_ofInt]; rfl
  rw [BitVec.toNat_xor, e1, e2, Lib.xor_ones64 _ (by omega), IntKind.wrap_i64]
  omega
end Go.Proofs.YtahlecmlhdikjaaDoor
end

section
namespace Go.Proofs.YtahlecmlhdikjaaDoor
open Go.ChangeShapes Go.WideShapes Go.ChangeAt Go.RowKit
set_option linter.unusedVariables false
set_option linter.unusedSimpArgs false

/-- Six digits to the base 2^32. -/
def val6 (D : Nat → Int) : Int := D 0 + D 1 * 4294967296 + D 2 * 18446744073709551616 + D 3 * 79228162514264337593543950336 + D 4 * 340282366920938463463374607431768211456 + D 5 * 1461501637330902918203684832716283019655932542976
def big6 : Int := 6277101735386680763835789423207666416102355444464034512896
def pw (k : Nat) : Int := match k with
  | 0 => 1
  | 1 => 4294967296
  | 2 => 18446744073709551616
  | 3 => 79228162514264337593543950336
  | 4 => 340282366920938463463374607431768211456
  | 5 => 1461501637330902918203684832716283019655932542976
  | _ => 6277101735386680763835789423207666416102355444464034512896
def dig (x : Int) : Prop := 0 ≤ x ∧ x < 4294967296
def Dig6 (D : Nat → Int) : Prop := dig (D 0) ∧ dig (D 1) ∧ dig (D 2) ∧ dig (D 3) ∧ dig (D 4) ∧ dig (D 5)
def updD (D : Nat → Int) (k : Nat) (x : Int) : Nat → Int := fun j => if j = k then x else D j
def wideV (D : Nat → Int) : Value := .agg #[.int .u64 (D 0), .int .u64 (D 1), .int .u64 (D 2), .int .u64 (D 3), .int .u64 (D 4), .int .u64 (D 5)]

theorem Dig6.at {D : Nat → Int} (h : Dig6 D) {k : Nat} (hk : k < 6) : 0 ≤ D k ∧ D k < 4294967296 := by
  obtain ⟨h0, h1, h2, h3, h4, h5⟩ := h
  rcases (by omega : k = 0 ∨ k = 1 ∨ k = 2 ∨ k = 3 ∨ k = 4 ∨ k = 5) with rfl | rfl | rfl | rfl | rfl | rfl <;> assumption
theorem Dig6.mk' {D : Nat → Int} (h : ∀ k, k < 6 → 0 ≤ D k ∧ D k < 4294967296) : Dig6 D := ⟨h 0 (by omega), h 1 (by omega), h 2 (by omega), h 3 (by omega), h 4 (by omega), h 5 (by omega)⟩
theorem Dig6.upd {D : Nat → Int} (h : Dig6 D) (k : Nat) (x : Int) (hx : 0 ≤ x ∧ x < 4294967296) : Dig6 (updD D k x) := Dig6.mk' fun j hj => by
  unfold updD; split
  · exact hx
  · exact h.at hj
theorem val6_bd {D : Nat → Int} (h : Dig6 D) : 0 ≤ val6 D ∧ val6 D < 6277101735386680763835789423207666416102355444464034512896 := by
  unfold val6
  obtain ⟨⟨a0, b0⟩, ⟨a1, b1⟩, ⟨a2, b2⟩, ⟨a3, b3⟩, ⟨a4, b4⟩, ⟨a5, b5⟩⟩ := h
  omega
theorem val6_upd (D : Nat → Int) (k : Nat) (hk : k < 6) (x : Int) : val6 (updD D k x) = val6 D + (x - D k) * pw k := by
  rcases (by omega : k = 0 ∨ k = 1 ∨ k = 2 ∨ k = 3 ∨ k = 4 ∨ k = 5) with rfl | rfl | rfl | rfl | rfl | rfl <;> (unfold val6 updD pw; simp; omega)
theorem pw_succ (k : Nat) (hk : k < 6) : pw (k + 1) = pw k * 4294967296 := by
  rcases (by omega : k = 0 ∨ k = 1 ∨ k = 2 ∨ k = 3 ∨ k = 4 ∨ k = 5) with rfl | rfl | rfl | rfl | rfl | rfl <;> (unfold pw; rfl)

/-- One round of 'digit'. -/
theorem digit_step (D : Nat → Int) (k : Nat) (hk : k < 6) (m c T : Int) (h : val6 D + (m + c) * pw k = T) :
    val6 (updD D k ((D k + m % 4294967296 + c) % 4294967296)) + (m / 4294967296 + (D k + m % 4294967296 + c) / 4294967296) * pw (k + 1) = T := by
  rw [val6_upd D k hk, pw_succ k hk, ← h]
  obtain ⟨s, hs⟩ : ∃ s, D k + m % 4294967296 + c = s := ⟨_, rfl⟩
  rw [hs]
  have e1 : m = 4294967296 * (m / 4294967296) + m % 4294967296 := by omega
  have e2 : s = 4294967296 * (s / 4294967296) + s % 4294967296 := by omega
  obtain ⟨q, hq⟩ : ∃ q, m / 4294967296 = q := ⟨_, rfl⟩
  obtain ⟨r, hr⟩ : ∃ r, s / 4294967296 = r := ⟨_, rfl⟩
  have e3 : (q + r) * (pw k * 4294967296) = ((q + r) * 4294967296) * pw k := by rw [Int.mul_comm (pw k), Int.mul_assoc]
  rw [hq, hr, e3, Int.add_assoc, ← Int.add_mul]
  congr 2
  omega

theorem digit_end {D : Nat → Int} (hD : Dig6 D) {m c T : Int} (hm : 0 ≤ m) (hc : 0 ≤ c) (h : val6 D + (m + c) * pw 6 = T) (hT : T < 6277101735386680763835789423207666416102355444464034512896) : val6 D = T := by
  obtain ⟨h0, h1⟩ := val6_bd hD
  have e : pw 6 = 6277101735386680763835789423207666416102355444464034512896 := rfl
  rw [e] at h
  omega

/-- Equal values have equal digits: the greatest digit in which two numbers differ decides. -/
def hiEq (A B : Nat → Int) (k : Nat) : Prop := ∀ j, k < j → j < 6 → A j = B j
theorem less_at {A B : Nat → Int} (hA : Dig6 A) (hB : Dig6 B) (k : Nat) (hk : k < 6) (he : ∀ j, k < j → j < 6 → A j = B j) (hn : A k ≠ B k) : decide (A k < B k) = decide (val6 A < val6 B) := by
  obtain ⟨⟨a0, b0⟩, ⟨a1, b1⟩, ⟨a2, b2⟩, ⟨a3, b3⟩, ⟨a4, b4⟩, ⟨a5, b5⟩⟩ := hA
  obtain ⟨⟨c0, d0⟩, ⟨c1, d1⟩, ⟨c2, d2⟩, ⟨c3, d3⟩, ⟨c4, d4⟩, ⟨c5, d5⟩⟩ := hB
  unfold val6
  rcases (by omega : k = 0 ∨ k = 1 ∨ k = 2 ∨ k = 3 ∨ k = 4 ∨ k = 5) with rfl | rfl | rfl | rfl | rfl | rfl
  · have e1 := he 1 (by omega) (by omega); have e2 := he 2 (by omega) (by omega); have e3 := he 3 (by omega) (by omega); have e4 := he 4 (by omega) (by omega); have e5 := he 5 (by omega) (by omega)
    rw [e1, e2, e3, e4, e5]; congr 1; apply propext; constructor <;> intro <;> omega
  · have e2 := he 2 (by omega) (by omega); have e3 := he 3 (by omega) (by omega); have e4 := he 4 (by omega) (by omega); have e5 := he 5 (by omega) (by omega)
    rw [e2, e3, e4, e5]; congr 1; apply propext; constructor <;> intro <;> omega
  · have e3 := he 3 (by omega) (by omega); have e4 := he 4 (by omega) (by omega); have e5 := he 5 (by omega) (by omega)
    rw [e3, e4, e5]; congr 1; apply propext; constructor <;> intro <;> omega
  · have e4 := he 4 (by omega) (by omega); have e5 := he 5 (by omega) (by omega)
    rw [e4, e5]; congr 1; apply propext; constructor <;> intro <;> omega
  · have e5 := he 5 (by omega) (by omega)
    rw [e5]; congr 1; apply propext; constructor <;> intro <;> omega
  · congr 1; apply propext; constructor <;> intro <;> omega
theorem less_end {A B : Nat → Int} (he : ∀ j, j < 6 → A j = B j) : decide (val6 A < val6 B) = false := by
  unfold val6
  rw [he 0 (by omega), he 1 (by omega), he 2 (by omega), he 3 (by omega), he 4 (by omega), he 5 (by omega)]
  simp

def low6 (B : Nat → Int) : Nat → Int
  | 0 => 0
  | k + 1 => low6 B k + B k * pw k
theorem low6_all (B : Nat → Int) : low6 B 6 = val6 B := by
  simp only [low6, pw, val6]; omega
/-- One round of 'minus': b is the borrow before, b' the borrow behind. -/
theorem minus_step (D B : Nat → Int) (k : Nat) (hk : k < 6) (b b' T : Int) (h : val6 D = T - low6 B k + b * pw k) :
    val6 (updD D k (D k + b' * 4294967296 - (B k + b))) = T - low6 B (k + 1) + b' * pw (k + 1) := by
  rw [val6_upd D k hk, h, pw_succ k hk]
  show _ = T - (low6 B k + B k * pw k) + _
  have e1 : D k + b' * 4294967296 - (B k + b) - D k = b' * 4294967296 - B k - b := by omega
  have e2 : b' * (pw k * 4294967296) = (b' * 4294967296) * pw k := by rw [Int.mul_comm (pw k), Int.mul_assoc]
  rw [e1, e2, Int.sub_mul, Int.sub_mul]
  omega
theorem minus_end {D A B : Nat → Int} (hD : Dig6 D) (hA : Dig6 A) {b : Int} (hb : 0 ≤ b) (h : val6 D = val6 A - low6 B 6 + b * pw 6) (hle : val6 B ≤ val6 A) : val6 D = val6 A - val6 B := by
  obtain ⟨h0, h1⟩ := val6_bd hD
  rw [low6_all] at h
  have e : pw 6 = 6277101735386680763835789423207666416102355444464034512896 := rfl
  rw [e] at h
  omega
theorem val6_zero : val6 (fun _ => 0) = 0 := by simp [val6]
theorem dig6_zero : Dig6 (fun _ => 0) := Dig6.mk' fun _ _ => by omega

/-- The number of the lower two digits, and whether the others are nil. -/
theorem top_digits {D : Nat → Int} (h : Dig6 D) (hz : D 2 = 0 ∧ D 3 = 0 ∧ D 4 = 0 ∧ D 5 = 0) : val6 D = D 0 + D 1 * 4294967296 := by
  unfold val6; omega
theorem top_big {D : Nat → Int} (h : Dig6 D) (hz : D 2 ≠ 0 ∨ D 3 ≠ 0 ∨ D 4 ≠ 0 ∨ D 5 ≠ 0) : 18446744073709551616 ≤ val6 D := by
  obtain ⟨⟨a0, b0⟩, ⟨a1, b1⟩, ⟨a2, b2⟩, ⟨a3, b3⟩, ⟨a4, b4⟩, ⟨a5, b5⟩⟩ := h
  unfold val6; omega
/-- The product of two 64-bit numbers by halves. -/
theorem halves (a b : Int) : (a % 4294967296) * (b % 4294967296) + ((a % 4294967296) * (b / 4294967296) + (a / 4294967296) * (b % 4294967296)) * 4294967296 + (a / 4294967296) * (b / 4294967296) * 18446744073709551616 = a * b := by
  have h := split_mul a b (a / 4294967296) (a % 4294967296) (b / 4294967296) (b % 4294967296) (by omega) (by omega)
  omega
end Go.Proofs.YtahlecmlhdikjaaDoor
end

section
namespace Go.Proofs.YtahlecmlhdikjaaDoor
open Go.ChangeShapes Go.WideShapes Go.ChangeAt Go.RowKit
set_option linter.unusedVariables false
set_option linter.unusedSimpArgs false

/-- Six cells of block b. -/
structure W6 (w : World) (b : Nat) (D : Nat → Int) : Prop where
  lt : b < w.heap.size
  cell : ∀ j, j < 6 → w.cell? ⟨b, j, none⟩ = some (.int .u64 (D j))
  fz : ∀ o, w.frozen? ⟨b, o, none⟩ = false
theorem W6.set {w : World} {b : Nat} {D : Nat → Int} (x : W6 w b D) (k : Nat) (hk : k < 6) (u : Int) : W6 (w.setCell ⟨b, k, none⟩ (.int .u64 u)) b (updD D k u) where
  lt := by rw [set_size]; exact x.lt
  cell := fun j hj => by
    unfold updD
    by_cases h : j = k
    · subst h; rw [if_pos rfl]; exact set_eq _ _ _ _ _ (x.cell j hj)
    · rw [if_neg h]; exact (set_ne _ _ _ _ _ (fun e => h e.symm)).trans (x.cell j hj)
  fz := fun o => by rw [World.frozen?_setCell]; exact x.fz o
theorem W6.up {w w' : World} {b : Nat} {D : Nat → Int} (x : W6 w b D) (u : Up w w') : W6 w' b D :=
  ⟨Nat.lt_of_lt_of_le x.lt u.size, fun j hj => (u.cell _ _ x.lt).trans (x.cell j hj), fun o => (u.frozen _ _ x.lt).trans (x.fz o)⟩
theorem W6.six {w : World} {b : Nat} {D : Nat → Int} (x : W6 w b D) : w.cell? ⟨b, 0, none⟩ = some (.int .u64 (D 0)) ∧ w.cell? ⟨b, 1, none⟩ = some (.int .u64 (D 1)) ∧ w.cell? ⟨b, 2, none⟩ = some (.int .u64 (D 2)) ∧ w.cell? ⟨b, 3, none⟩ = some (.int .u64 (D 3)) ∧ w.cell? ⟨b, 4, none⟩ = some (.int .u64 (D 4)) ∧ w.cell? ⟨b, 5, none⟩ = some (.int .u64 (D 5)) :=
  ⟨x.cell 0 (by omega), x.cell 1 (by omega), x.cell 2 (by omega), x.cell 3 (by omega), x.cell 4 (by omega), x.cell 5 (by omega)⟩
theorem W6.new (w : World) (D : Nat → Int) (t : TypeId) : W6 (w.alloc (.cells #[.int .u64 (D 0), .int .u64 (D 1), .int .u64 (D 2), .int .u64 (D 3), .int .u64 (D 4), .int .u64 (D 5)] t)) w.heap.size D := by
  have h := heap_alloc_new w (.cells #[.int .u64 (D 0), .int .u64 (D 1), .int .u64 (D 2), .int .u64 (D 3), .int .u64 (D 4), .int .u64 (D 5)] t)
  refine ⟨by rw [size_alloc]; omega, fun j hj => ?_, fun o => frozen_of_row _ _ o _ _ h⟩
  rcases (by omega : j = 0 ∨ j = 1 ∨ j = 2 ∨ j = 3 ∨ j = 4 ∨ j = 5) with rfl | rfl | rfl | rfl | rfl | rfl <;> exact cell_of_row _ _ _ _ _ _ h
theorem W6.new0 (w : World) (t : TypeId) : W6 (w.alloc (.cells #[.int .u64 0, .int .u64 0, .int .u64 0, .int .u64 0, .int .u64 0, .int .u64 0] t)) w.heap.size (fun _ => 0) := W6.new w (fun _ => 0) t
theorem UpBut.frozen {b : Nat} {w w' : World} (h : UpBut b w w') (k o : Nat) (hk : k < w.heap.size) (hb : k ≠ b) : w'.frozen? ⟨k, o, none⟩ = w.frozen? ⟨k, o, none⟩ := by
  have := h.block k hk hb
  unfold World.frozen?; rw [this]
theorem W6.but {w w' : World} {b c : Nat} {D : Nat → Int} (x : W6 w b D) (u : UpBut c w w') (hb : b ≠ c) : W6 w' b D :=
  ⟨Nat.lt_of_lt_of_le x.lt u.size, fun j hj => (u.cell _ _ x.lt hb).trans (x.cell j hj), fun o => (u.frozen _ _ x.lt hb).trans (x.fz o)⟩

def WideIs (T : Int) (e : Ending) : Prop := ∃ D : Nat → Int, e = .returned (.agg #[.int .u64 (D 0), .int .u64 (D 1), .int .u64 (D 2), .int .u64 (D 3), .int .u64 (D 4), .int .u64 (D 5)]) ∧ Dig6 D ∧ val6 D = T
/-- The world after a wide integer has been stored. -/
def put6 (w : World) (b : Nat) (D : Nat → Int) : World := (((((w.setCell ⟨b, 0, none⟩ (.int .u64 (D 0))).setCell ⟨b, 1, none⟩ (.int .u64 (D 1))).setCell ⟨b, 2, none⟩ (.int .u64 (D 2))).setCell ⟨b, 3, none⟩ (.int .u64 (D 3))).setCell ⟨b, 4, none⟩ (.int .u64 (D 4))).setCell ⟨b, 5, none⟩ (.int .u64 (D 5))
theorem put6_but (w : World) (b : Nat) (D : Nat → Int) : UpBut b w (put6 w b D) := ((((((UpBut.refl b w).setCell _ _ _).setCell _ _ _).setCell _ _ _).setCell _ _ _).setCell _ _ _).setCell _ _ _
theorem put6_at {w : World} {b : Nat} {E : Nat → Int} (h : W6 w b E) (D : Nat → Int) : W6 (put6 w b D) b D := by
  have g := (((((h.set 0 (by omega) (D 0)).set 1 (by omega) (D 1)).set 2 (by omega) (D 2)).set 3 (by omega) (D 3)).set 4 (by omega) (D 4)).set 5 (by omega) (D 5)
  refine ⟨g.lt, fun j hj => ?_, g.fz⟩
  rw [show (put6 w b D).cell? ⟨b, j, none⟩ = _ from g.cell j hj]
  rcases (by omega : j = 0 ∨ j = 1 ∨ j = 2 ∨ j = 3 ∨ j = 4 ∨ j = 5) with rfl | rfl | rfl | rfl | rfl | rfl <;> simp [updD]

set_option maxHeartbeats 4000000 in
theorem r05_digit (D : Nat → Int) (hD : Dig6 D) (a : Nat) (ai : Int) (hai : (a : Int) = ai) (ha : a ≤ 5) (n : Int) (n0 : 0 ≤ n) (n1 : n < 18446744073709551616) (T : Int) (hT : val6 D + n * pw a = T) (hB : T < 6277101735386680763835789423207666416102355444464034512896) (w : World) :
    Calls Tryd.prog 98 #[.agg #[.int .u64 (D 0), .int .u64 (D 1), .int .u64 (D 2), .int .u64 (D 3), .int .u64 (D 4), .int .u64 (D 5)], .int .i64 ai, .int .u64 n] w fun e w' => WideIs T e ∧ Up w w' := by
  have HT := Lib.hid hT
  have HBB := Lib.hid hB
  have HD := Lib.hid hD
  clear hT hB hD
  subst hai
  have hw6 := W6.new w D 93
  obtain ⟨B, hBe⟩ : ∃ B, w.heap.size = B := ⟨_, rfl⟩
  have HBe := Lib.hid hBe
  clear hBe
  go_enter Tryd.func98, Tryd.ntmps98
  go_wp2
  obtain ⟨W1, hW1⟩ : ∃ W1, w.alloc (.cells #[.int .u64 (D 0), .int .u64 (D 1), .int .u64 (D 2), .int .u64 (D 3), .int .u64 (D 4), .int .u64 (D 5)] 93) = W1 := ⟨_, rfl⟩
  have hU1 : Up w W1 := hW1 ▸ (Up.refl w).alloc _
  have hs1 : W1.heap.size = B + 1 := by rw [← hW1, size_alloc, HBe.out]
  rw [hW1] at hw6
  try rw [hW1]
  clear hW1
  rw [HBe.out] at hw6
  rw [HBe.out]
  obtain ⟨W2, hW2⟩ : ∃ W2, W1.alloc (.cells #[.int .u64 0, .int .u64 0, .int .u64 0, .int .u64 0, .int .u64 0, .int .u64 0] 93) = W2 := ⟨_, rfl⟩
  have h0 : W6 W2 (B + 1) (fun _ => 0) := by rw [← hW2, ← hs1]; exact W6.new0 _ _
  have hU2 : Up W1 W2 := hW2 ▸ (Up.refl W1).alloc _
  have hs2 : W2.heap.size = B + 2 := by rw [← hW2, size_alloc, hs1]
  rw [hW2]
  clear hW2
  have HW6 := Lib.hid (hw6.up hU2)
  have H0 := Lib.hid h0
  have HU := Lib.hid (hU1.trans hU2)
  clear hw6 h0 hU1 hU2 hs1
  go_loopw [7, 8, 2] (fun cv iv nv wr => ∃ (k : Nat) (c m : Int) (E : Nat → Int), k ≤ 6 ∧ cv = .int .u64 c ∧ iv = .int .i64 k ∧ nv = .int .u64 m ∧ (0 ≤ c ∧ c ≤ 2) ∧ (0 ≤ m ∧ m < 18446744073709551616) ∧ Dig6 E ∧ val6 E + (m + c) * pw k = T ∧ W6 wr B E ∧ UpBut B W2 wr) (fun _ iv _ _ => 6 - (intOf iv).toNat)
  case atStart => exact ⟨a, 0, n, D, by omega, rfl, rfl, rfl, by omega, ⟨n0, n1⟩, HD.out, by rw [Int.add_zero]; exact HT.out, HW6.out, UpBut.refl _ _⟩
  case round =>
    rename_i wr
    obtain ⟨k, c, m, E, hk, rfl, rfl, rfl, ⟨c0, c1⟩, ⟨m0, m1⟩, hE, hP, hW, hBt⟩ := hrel
    have HE := Lib.hid hE
    have HP := Lib.hid hP
    have HW := Lib.hid hW
    have HBt := Lib.hid hBt
    have hlt := hW.lt
    have hfz := hW.fz
    clear hP hBt
    by_cases hk6 : k < 6
    · have hk7 : (k : Int) < 6 := by omega
      have hk0 : (0 : Int) ≤ (k : Int) := by omega
      have hc := hW.cell k hk6
      obtain ⟨x, hx⟩ : ∃ x, E k = x := ⟨_, rfl⟩
      obtain ⟨x0, x1⟩ := hE.at hk6
      rw [hx] at hc x0 x1
      obtain ⟨r, hr⟩ : ∃ r, m % 4294967296 = r := ⟨_, rfl⟩
      have r0 : 0 ≤ r := by omega
      have r1 : r < 4294967296 := by omega
      have HS := Lib.hid (digit_step E k hk6 m c T HP.out)
      have HR := Lib.hid hr
      have HX := Lib.hid hx
      rw [hx, hr] at HS
      clear hE hW hx
      have hm0 : m / 4294967296 < 18446744073709551616 := by omega
      go_wp2
      go_roundw
      case rel =>
        refine ⟨k + 1, (x + r + c) / 4294967296, m / 4294967296, updD E k ((x + r + c) % 4294967296), by omega, ?_, by go_num, ?_, by omega, by omega, HE.out.upd k _ (by omega), HS.out, HW.out.set k hk6 _, HBt.out.setCell _ _ _⟩
        · rfl
        · rfl
      case measure => simp [intOf]; omega
    · have hk7 : (6 : Int) ≤ (k : Int) := by omega
      obtain rfl : k = 6 := by omega
      obtain ⟨d0, d1, d2, d3, d4, d5⟩ := hW.six
      obtain ⟨z0, z1, z2, z3, z4, z5⟩ := (H0.out.but HBt.out (by omega)).six
      have hz := (H0.out.but HBt.out (by omega)).fz
      have hzl := (H0.out.but HBt.out (by omega)).lt
      clear hE hW
      go_wp2
      refine bodyPost_ret (v := .agg #[.int .u64 (E 0), .int .u64 (E 1), .int .u64 (E 2), .int .u64 (E 3), .int .u64 (E 4), .int .u64 (E 5)]) (by simp [results, Tryd.results98, go_sem, z0, z1, z2, z3, z4, z5]) rfl ⟨⟨E, rfl, HE.out, digit_end HE.out m0 c0 HP.out HBB.out⟩, ?_⟩
      have hq : w.heap.size ≤ B + 1 := by rw [HBe.out]; omega
      have hu := HU.out
      have hb := UpBut.up hu (by rw [HBe.out]; omega) HBt.out
      iterate 6 refine Up.setCell ?_ hq _
      exact hb
end Go.Proofs.YtahlecmlhdikjaaDoor
end

section
namespace Go.Proofs.YtahlecmlhdikjaaDoor
open Go.ChangeShapes Go.WideShapes Go.ChangeAt Go.RowKit
set_option linter.unusedVariables false
set_option linter.unusedSimpArgs false

theorem wrap_mul32 (x y : Int) (x0 : 0 ≤ x) (x1 : x ≤ 4294967295) (y0 : 0 ≤ y) (y1 : y ≤ 4294967295) : IntKind.u64.wrap (x * y) = x * y := by
  obtain ⟨h0, h1⟩ := mul_bd32 x y x0 x1 y0 y1
  rw [IntKind.wrap_u64]; omega

theorem plus_bd (a b V T : Int) (hV : 0 ≤ V) (hT : V + a * b = T) (a0 : 0 ≤ a) (a1 : a < 18446744073709551616) (b0 : 0 ≤ b) (b1 : b < 18446744073709551616) :
    ∃ p q r s : Int, (a % 4294967296) * (b % 4294967296) = p ∧ (a % 4294967296) * (b / 4294967296) = q ∧ (a / 4294967296) * (b % 4294967296) = r ∧ (a / 4294967296) * (b / 4294967296) = s ∧ (0 ≤ p ∧ p < 18446744073709551616) ∧ (0 ≤ q ∧ q < 18446744073709551616) ∧ (0 ≤ r ∧ r < 18446744073709551616) ∧ (0 ≤ s ∧ s < 18446744073709551616) ∧ V + p + q * 4294967296 + r * 4294967296 + s * 18446744073709551616 = T := by
  obtain ⟨p0, p1⟩ := mul_bd32 (a % 4294967296) (b % 4294967296) (by omega) (by omega) (by omega) (by omega)
  obtain ⟨q0, q1⟩ := mul_bd32 (a % 4294967296) (b / 4294967296) (by omega) (by omega) (by omega) (by omega)
  obtain ⟨r0, r1⟩ := mul_bd32 (a / 4294967296) (b % 4294967296) (by omega) (by omega) (by omega) (by omega)
  obtain ⟨s0, s1⟩ := mul_bd32 (a / 4294967296) (b / 4294967296) (by omega) (by omega) (by omega) (by omega)
  have h := halves a b
  refine ⟨_, _, _, _, rfl, rfl, rfl, rfl, by omega, by omega, by omega, by omega, ?_⟩
  omega

set_option maxHeartbeats 8000000 in
theorem r05_plus (D : Nat → Int) (hD : Dig6 D) (a b : Int) (a0 : 0 ≤ a) (a1 : a < 18446744073709551616) (b0 : 0 ≤ b) (b1 : b < 18446744073709551616) (T : Int) (hT : val6 D + a * b = T) (hB : T < 6277101735386680763835789423207666416102355444464034512896) (w : World) :
    Calls Tryd.prog 66 #[.agg #[.int .u64 (D 0), .int .u64 (D 1), .int .u64 (D 2), .int .u64 (D 3), .int .u64 (D 4), .int .u64 (D 5)], .int .u64 a, .int .u64 b] w fun e w' => WideIs T e ∧ Up w w' := by
  obtain ⟨p, q, r, s, e1, e2, e3, e4, ⟨p0, p1⟩, ⟨q0, q1⟩, ⟨r0, r1⟩, ⟨s0, s1⟩, hsum⟩ := plus_bd a b (val6 D) T (val6_bd hD).1 hT a0 a1 b0 b1
  have f1 : IntKind.u64.wrap ((a % 4294967296) * (b % 4294967296)) = p := by rw [wrap_mul32 _ _ (by omega) (by omega) (by omega) (by omega)]; exact e1
  have f2 : IntKind.u64.wrap ((a % 4294967296) * (b / 4294967296)) = q := by rw [wrap_mul32 _ _ (by omega) (by omega) (by omega) (by omega)]; exact e2
  have f3 : IntKind.u64.wrap ((a / 4294967296) * (b % 4294967296)) = r := by rw [wrap_mul32 _ _ (by omega) (by omega) (by omega) (by omega)]; exact e3
  have f4 : IntKind.u64.wrap ((a / 4294967296) * (b / 4294967296)) = s := by rw [wrap_mul32 _ _ (by omega) (by omega) (by omega) (by omega)]; exact e4
  have HS := Lib.hid hsum
  have HBB := Lib.hid hB
  have HV := Lib.hid (val6_bd hD)
  have HD := Lib.hid hD
  clear hT hB hsum e1 e2 e3 e4 hD
  have hw6 := W6.new w D 93
  obtain ⟨B, hBe⟩ : ∃ B, w.heap.size = B := ⟨_, rfl⟩
  have HBe := Lib.hid hBe
  obtain ⟨W1, hW1⟩ : ∃ W1, w.alloc (.cells #[.int .u64 (D 0), .int .u64 (D 1), .int .u64 (D 2), .int .u64 (D 3), .int .u64 (D 4), .int .u64 (D 5)] 93) = W1 := ⟨_, rfl⟩
  obtain ⟨W2, hW2⟩ : ∃ W2, W1.alloc (.cells #[.int .u64 0, .int .u64 0, .int .u64 0, .int .u64 0, .int .u64 0, .int .u64 0] 93) = W2 := ⟨_, rfl⟩
  have hU1 : Up w W1 := hW1 ▸ (Up.refl w).alloc _
  have hs1 : W1.heap.size = B + 1 := by rw [← hW1, size_alloc, hBe]
  have hU2 : Up W1 W2 := hW2 ▸ (Up.refl W1).alloc _
  have hs2 : W2.heap.size = B + 1 + 1 := by rw [← hW2, size_alloc, hs1]
  have h0 : W6 W2 (B + 1) (fun _ => 0) := by rw [← hW2, ← hs1]; exact W6.new0 _ _
  rw [hW1, hBe] at hw6
  have HW6 := Lib.hid (hw6.up hU2)
  have H0 := Lib.hid h0
  have HW1 := Lib.hid hW1
  have HW2 := Lib.hid hW2
  have HU := Lib.hid (hU1.trans hU2)
  have HS2 := Lib.hid hs2
  clear hBe hw6 h0 hW1 hW2 hU1 hU2 hs1 hs2
  go_enter Tryd.func66, Tryd.ntmps66
  go_wp2_with fail
  rw [HBe.out, HW1.out, HW2.out]
  refine (r05_digit D HD.out 0 0 (by rfl) (by omega) p p0 p1 (val6 D + p) (by have h := (rfl : val6 D = val6 D); have hs := HS.out; rw [h]; simp only [pw]; try omega) (by have := HV.out; have := HS.out; have := HBB.out; omega) _).mono ?_
  rintro e x1 ⟨⟨D1, rfl, hD1, hv1⟩, hx1⟩
  have HWA1 := Lib.hid (HW6.out.up hx1)
  have HZ1 := Lib.hid (H0.out.up hx1)
  have HU1 := Lib.hid (HU.out.trans hx1)
  clear hx1
  have HDD1 := Lib.hid hD1
  have HVV1 := Lib.hid hv1
  clear hD1 hv1
  obtain ⟨d0, d1, d2, d3, d4, d5⟩ := HWA1.out.six
  have fz := HWA1.out.fz
  have lt := HWA1.out.lt
  go_wp2_with fail
  clear d0 d1 d2 d3 d4 d5 fz lt
  refine (r05_digit D1 HDD1.out 1 1 (by rfl) (by omega) q q0 q1 (val6 D + p + q * 4294967296) (by have h := HVV1.out; have hs := HS.out; rw [h]; simp only [pw]; try omega) (by have := HV.out; have := HS.out; have := HBB.out; omega) _).mono ?_
  rintro e x2 ⟨⟨D2, rfl, hD2, hv2⟩, hx2⟩
  have HWA2 := Lib.hid ((put6_at HWA1.out D1).up hx2)
  have HZ2 := Lib.hid ((HZ1.out.but (put6_but x1 B D1) (by omega)).up hx2)
  have HU2 := Lib.hid ((UpBut.up HU1.out (by have := HBe.out; omega) (put6_but x1 B D1)).trans hx2)
  clear hx2
  have HDD2 := Lib.hid hD2
  have HVV2 := Lib.hid hv2
  clear hD2 hv2
  obtain ⟨d0, d1, d2, d3, d4, d5⟩ := HWA2.out.six
  have fz := HWA2.out.fz
  have lt := HWA2.out.lt
  go_wp2_with fail
  clear d0 d1 d2 d3 d4 d5 fz lt
  refine (r05_digit D2 HDD2.out 1 1 (by rfl) (by omega) r r0 r1 (val6 D + p + q * 4294967296 + r * 4294967296) (by have h := HVV2.out; have hs := HS.out; rw [h]; simp only [pw]; try omega) (by have := HV.out; have := HS.out; have := HBB.out; omega) _).mono ?_
  rintro e x3 ⟨⟨D3, rfl, hD3, hv3⟩, hx3⟩
  have HWA3 := Lib.hid ((put6_at HWA2.out D2).up hx3)
  have HZ3 := Lib.hid ((HZ2.out.but (put6_but x2 B D2) (by omega)).up hx3)
  have HU3 := Lib.hid ((UpBut.up HU2.out (by have := HBe.out; omega) (put6_but x2 B D2)).trans hx3)
  clear hx3
  have HDD3 := Lib.hid hD3
  have HVV3 := Lib.hid hv3
  clear hD3 hv3
  obtain ⟨d0, d1, d2, d3, d4, d5⟩ := HWA3.out.six
  have fz := HWA3.out.fz
  have lt := HWA3.out.lt
  go_wp2_with fail
  clear d0 d1 d2 d3 d4 d5 fz lt
  refine (r05_digit D3 HDD3.out 2 2 (by rfl) (by omega) s s0 s1 (T) (by have h := HVV3.out; have hs := HS.out; rw [h]; simp only [pw]; try omega) (by have := HV.out; have := HS.out; have := HBB.out; omega) _).mono ?_
  rintro e x4 ⟨⟨D4, rfl, hD4, hv4⟩, hx4⟩
  have HWA4 := Lib.hid ((put6_at HWA3.out D3).up hx4)
  have HZ4 := Lib.hid ((HZ3.out.but (put6_but x3 B D3) (by omega)).up hx4)
  have HU4 := Lib.hid ((UpBut.up HU3.out (by have := HBe.out; omega) (put6_but x3 B D3)).trans hx4)
  clear hx4
  have HDD4 := Lib.hid hD4
  have HVV4 := Lib.hid hv4
  clear hD4 hv4
  obtain ⟨d0, d1, d2, d3, d4, d5⟩ := HZ4.out.six
  have fz := HZ4.out.fz
  have lt := HZ4.out.lt
  go_wp2
  refine bodyPost_ret (v := .agg #[.int .u64 (D4 0), .int .u64 (D4 1), .int .u64 (D4 2), .int .u64 (D4 3), .int .u64 (D4 4), .int .u64 (D4 5)]) (by simp [results, Tryd.results66, go_sem, d0, d1, d2, d3, d4, d5]) rfl ⟨⟨D4, rfl, HDD4.out, HVV4.out⟩, ?_⟩
  exact UpBut.up HU4.out (by have := HBe.out; omega) (put6_but x4 (B + 1) D4)

theorem r05_size (n : Int) (h1 : -9223372036854775808 ≤ n) (h2 : n ≤ 9223372036854775807) (w : World) :
    Calls Tryd.prog 67 #[.int .i64 n] w fun e w' => e = .returned (.int .u64 (mag n)) ∧ w' = w := by
  by_cases h : n < 0
  · have e1 : wrap64 (-(n + 1)) = -(n + 1) := by unfold wrap64; omega
    have e2 : IntKind.u64.wrap (-(n + 1)) = -(n + 1) := by rw [IntKind.wrap_u64]; omega
    have h3 : n + 1 ≤ 0 := by omega
    have h4 : -9223372036854775807 ≤ n + 1 := by omega
    go_enter Tryd.func67, Tryd.ntmps67
    go_wp2
    go_ret
    refine ⟨ret_int ?_, rfl⟩
    rw [mag, if_pos h]
    try simp only [e1, e2]
    try rw [IntKind.wrap_u64]
    omega
  · have h0 : 0 ≤ n := by omega
    go_enter Tryd.func67, Tryd.ntmps67
    go_wp2
    go_ret
    refine ⟨ret_int ?_, rfl⟩
    rw [mag, if_neg (by omega)]

def foundF (o : Option Int) : Int × Bool := match o with
  | none => (0, false)
  | some v => (v, true)
set_option maxHeartbeats 2000000 in
theorem r05_find (s : ByteArray) (v : Value) (l : List Mono) (w : World) (hv : MonosAt w v l) :
    Calls Tryd.prog 68 #[v, .string s] w fun e w' => e = .returned (.tuple #[.int .i64 (foundF (lookE l s.toList)).1, .bool (foundF (lookE l s.toList)).2]) ∧ w' = w := by
  have hmax := hv.max
  obtain ⟨a, cap, rfl⟩ := hv.slice
  obtain ⟨sl, hsl⟩ : ∃ x, s.toList = x := ⟨_, rfl⟩
  rw [hsl]
  obtain ⟨r, hr⟩ : ∃ r, lookE l sl = r := ⟨_, rfl⟩
  rw [hr]
  obtain ⟨n, hn⟩ : ∃ n, l.length = n := ⟨_, rfl⟩
  rw [hn] at hv hmax ⊢
  have HN := Lib.hid hn
  have HR := Lib.hid hr
  have HV := Lib.hid hv
  clear hr hn hv
  go_enter Tryd.func68, Tryd.ntmps68
  go_wp2
  go_loopw [6] (fun i wr => ∃ k : Nat, k ≤ n ∧ i = .int .i64 k ∧ wr = w ∧ lookE (l.drop k) sl = r) (fun i _ => n - (intOf i).toNat)
  case atStart => exact ⟨0, by omega, rfl, rfl, by rw [List.drop_zero]; exact HR.out⟩
  case round =>
    obtain ⟨k, hk, rfl, hw, hP⟩ := hrel
    replace hw := hw.symm
    subst hw
    have HP := Lib.hid hP
    clear hP
    by_cases hlt : k < n
    · have hlt2 : (k : Int) < (n : Int) := by omega
      have hk0 : (0 : Int) ≤ (k : Int) := by omega
      obtain ⟨bl, off, s', b, rfl, p1, p2, p3, p4⟩ := HV.out.elem (Up.refl _) k (by rw [HN.out]; exact hlt) HN.out rfl
      obtain ⟨q, hq⟩ : ∃ q, (s'.toList == sl) = q := ⟨_, rfl⟩
      have HP2 : Hid ((if q then some b else lookE (l.drop (k + 1)) sl) = r) := Lib.hid (by
        rw [← HP.out, drop_mono (by rw [HN.out]; exact hlt) p2, ← hq]; rfl)
      clear p2 HP
      cases q
      · have hq2 : ¬ s'.toList = sl := by simpa using hq
        have HG : Hid (lookE (l.drop (k + 1)) sl = r) := Lib.hid (by rw [← HP2.out]; rfl)
        go_wp2
        go_roundw
        case rel => exact ⟨k + 1, by omega, by go_num, by trivial, HG.out⟩
        case measure => simp [intOf]; omega
      · have hq2 : s'.toList = sl := by simpa using hq
        obtain rfl : r = some b := by rw [← HP2.out]; rfl
        go_wp2
        go_ret2
        exact ⟨rfl, rfl⟩
    · have hlt2 : (n : Int) ≤ (k : Int) := by omega
      obtain rfl : r = none := by rw [← HP.out, List.drop_eq_nil_of_le (by rw [HN.out]; omega)]; rfl
      go_wp2
      go_ret2
      exact ⟨rfl, rfl⟩
end Go.Proofs.YtahlecmlhdikjaaDoor
end

section
namespace Go.Proofs.YtahlecmlhdikjaaDoor
open Go.ChangeShapes Go.WideShapes Go.ChangeAt Go.RowKit
set_option linter.unusedVariables false
set_option linter.unusedSimpArgs false

set_option maxHeartbeats 4000000 in
theorem r05_less (A E : Nat → Int) (hA : Dig6 A) (hE : Dig6 E) (w : World) :
    Calls Tryd.prog 69 #[.agg #[.int .u64 (A 0), .int .u64 (A 1), .int .u64 (A 2), .int .u64 (A 3), .int .u64 (A 4), .int .u64 (A 5)], .agg #[.int .u64 (E 0), .int .u64 (E 1), .int .u64 (E 2), .int .u64 (E 3), .int .u64 (E 4), .int .u64 (E 5)]] w fun e w' => e = .returned (.bool (decide (val6 A < val6 E))) ∧ Up w w' := by
  obtain ⟨r, hr⟩ : ∃ r, decide (val6 A < val6 E) = r := ⟨_, rfl⟩
  rw [hr]
  have HR := Lib.hid hr
  have HA := Lib.hid hA
  have HE := Lib.hid hE
  clear hr hA hE
  have hw6 := W6.new w A 93
  obtain ⟨B, hBe⟩ : ∃ B, w.heap.size = B := ⟨_, rfl⟩
  have HBe := Lib.hid hBe
  obtain ⟨W1, hW1⟩ : ∃ W1, w.alloc (.cells #[.int .u64 (A 0), .int .u64 (A 1), .int .u64 (A 2), .int .u64 (A 3), .int .u64 (A 4), .int .u64 (A 5)] 93) = W1 := ⟨_, rfl⟩
  have hw7 := W6.new W1 E 93
  obtain ⟨W2, hW2⟩ : ∃ W2, W1.alloc (.cells #[.int .u64 (E 0), .int .u64 (E 1), .int .u64 (E 2), .int .u64 (E 3), .int .u64 (E 4), .int .u64 (E 5)] 93) = W2 := ⟨_, rfl⟩
  have hU1 : Up w W1 := hW1 ▸ (Up.refl w).alloc _
  have hs1 : W1.heap.size = B + 1 := by rw [← hW1, size_alloc, hBe]
  have hU2 : Up W1 W2 := hW2 ▸ (Up.refl W1).alloc _
  rw [hW1, hBe] at hw6
  rw [hW2, hs1] at hw7
  have HWA := Lib.hid (hw6.up hU2)
  have HWE := Lib.hid hw7
  have HW1 := Lib.hid hW1
  have HW2 := Lib.hid hW2
  have HU := Lib.hid (hU1.trans hU2)
  clear hBe hw6 hw7 hW1 hW2 hU1 hU2 hs1
  go_enter Tryd.func69, Tryd.ntmps69
  go_wp2
  rw [HBe.out, HW1.out, HW2.out]
  go_loopw [5] (fun i wr => ∃ (k : Nat) (z : Int), k ≤ 6 ∧ i = .int .i64 z ∧ z + 1 = k ∧ Up W2 wr ∧ ∀ j, k ≤ j → j < 6 → A j = E j) (fun i _ => ((intOf i) + 1).toNat)
  case atStart => exact ⟨6, 5, by omega, rfl, rfl, Up.refl _, fun j h1 h2 => by omega⟩
  case round =>
    rename_i wr
    obtain ⟨k, z, hk, rfl, hz, hU, hP⟩ := hrel
    have HP := Lib.hid hP
    clear hP
    cases k with
    | zero =>
      obtain rfl : z = -1 := by omega
      obtain rfl : r = false := by
        rw [← HR.out]
        exact less_end fun j hj => HP.out j (by omega) hj
      clear hz
      go_wp2
      go_ret
      exact ⟨rfl, HU.out.trans hU⟩
    | succ k =>
      obtain rfl : z = (k : Int) := by omega
      have hk0 : (0 : Int) ≤ (k : Int) := by omega
      have hk6 : k < 6 := by omega
      have hk7 : (k : Int) < 6 := by omega
      have ca := (HWA.out.up hU).cell k hk6
      have ce := (HWE.out.up hU).cell k hk6
      have l1 := (HWA.out.up hU).lt
      have l2 := (HWE.out.up hU).lt
      obtain ⟨a0, a1⟩ := HA.out.at hk6
      obtain ⟨e0, e1⟩ := HE.out.at hk6
      have HL := Lib.hid (less_at HA.out HE.out k hk6 (fun j h1 h2 => HP.out j (by omega) h2))
      obtain ⟨x, hx⟩ : ∃ x, A k = x := ⟨_, rfl⟩
      obtain ⟨y, hy⟩ : ∃ y, E k = y := ⟨_, rfl⟩
      rw [hx] at ca a0 a1 HL
      rw [hy] at ce e0 e1 HL
      have HX := Lib.hid hx
      have HY := Lib.hid hy
      clear hz hx hy
      by_cases hxy : x = y
      · subst hxy
        have hb : (x == x) = true := by simp
        have HN : Hid (∀ j, k ≤ j → j < 6 → A j = E j) := Lib.hid fun j h1 h2 => by
          by_cases h : j = k
          · subst h; rw [HX.out, HY.out]
          · exact HP.out j (by omega) h2
        clear HL
        go_wp2_with fail
        refine wp_region_ext (by kernel_rfl) (by kernel_rfl) ?_
        repeat (go_big_quiet_step (fail))
        refine wpQuiet_nil ?_
        intro x1 hx1
        go_wp2
        go_roundw
        case rel => exact ⟨k, (k : Int) - 1, by omega, rfl, by omega, hU.trans hx1, HN.out⟩
        case measure => simp [intOf]; try omega
      · have hb : (x == y) = false := by simpa using hxy
        have hb2 : (x != y) = true := by simpa using hxy
        obtain ⟨q, hq⟩ : ∃ q, decide (x < y) = q := ⟨_, rfl⟩
        obtain rfl : q = r := by rw [← HR.out, ← HL.out hxy, hq]
        have HQ := Lib.hid hq
        clear hq HL
        go_wp2_with fail
        refine wp_region_ext (by kernel_rfl) (by kernel_rfl) ?_
        repeat (go_big_quiet_step (fail))
        refine wpQuiet_nil ?_
        intro x1 hx1
        have ca := (HWA.out.up (hU.trans hx1)).cell k hk6
        have l1 := (HWA.out.up (hU.trans hx1)).lt
        have l2 := (HWE.out.up (hU.trans hx1)).lt
        have ce := (HWE.out.up (hU.trans hx1)).cell k hk6
        rw [HX.out] at ca
        rw [HY.out] at ce
        go_wp2_with fail
        refine wp_region_ext (by kernel_rfl) (by kernel_rfl) ?_
        repeat (go_big_quiet_step (fail))
        refine wpQuiet_nil ?_
        intro x2 hx2
        go_wp2
        go_ret
        exact ⟨ret_bool HQ.out, HU.out.trans ((hU.trans hx1).trans hx2)⟩

theorem upd_upd (D : Nat → Int) (k : Nat) (x y : Int) : updD (updD D k x) k y = updD D k y := by
  funext j; unfold updD; split <;> rfl
theorem W6.congr {w : World} {b : Nat} {D E : Nat → Int} (h : W6 w b D) (e : D = E) : W6 w b E := e ▸ h

set_option maxHeartbeats 4000000 in
theorem r05_minus (A E : Nat → Int) (hA : Dig6 A) (hE : Dig6 E) (T : Int) (hT : val6 A - val6 E = T) (hle : val6 E ≤ val6 A) (w : World) :
    Calls Tryd.prog 70 #[.agg #[.int .u64 (A 0), .int .u64 (A 1), .int .u64 (A 2), .int .u64 (A 3), .int .u64 (A 4), .int .u64 (A 5)], .agg #[.int .u64 (E 0), .int .u64 (E 1), .int .u64 (E 2), .int .u64 (E 3), .int .u64 (E 4), .int .u64 (E 5)]] w fun e w' => WideIs T e ∧ Up w w' := by
  have HT := Lib.hid hT
  have HLE := Lib.hid hle
  have HA := Lib.hid hA
  have HE := Lib.hid hE
  clear hT hle hA hE
  have hw6 := W6.new w A 93
  obtain ⟨B, hBe⟩ : ∃ B, w.heap.size = B := ⟨_, rfl⟩
  have HBe := Lib.hid hBe
  obtain ⟨W1, hW1⟩ : ∃ W1, w.alloc (.cells #[.int .u64 (A 0), .int .u64 (A 1), .int .u64 (A 2), .int .u64 (A 3), .int .u64 (A 4), .int .u64 (A 5)] 93) = W1 := ⟨_, rfl⟩
  have hw7 := W6.new W1 E 93
  obtain ⟨W2, hW2⟩ : ∃ W2, W1.alloc (.cells #[.int .u64 (E 0), .int .u64 (E 1), .int .u64 (E 2), .int .u64 (E 3), .int .u64 (E 4), .int .u64 (E 5)] 93) = W2 := ⟨_, rfl⟩
  obtain ⟨W3, hW3⟩ : ∃ W3, W2.alloc (.cells #[.int .u64 0, .int .u64 0, .int .u64 0, .int .u64 0, .int .u64 0, .int .u64 0] 93) = W3 := ⟨_, rfl⟩
  have hU1 : Up w W1 := hW1 ▸ (Up.refl w).alloc _
  have hs1 : W1.heap.size = B + 1 := by rw [← hW1, size_alloc, hBe]
  have hU2 : Up W1 W2 := hW2 ▸ (Up.refl W1).alloc _
  have hs2 : W2.heap.size = B + 1 + 1 := by rw [← hW2, size_alloc, hs1]
  have hU3 : Up W2 W3 := hW3 ▸ (Up.refl W2).alloc _
  have hs3 : W3.heap.size = B + 1 + 1 + 1 := by rw [← hW3, size_alloc, hs2]
  have h0 : W6 W3 (B + 1 + 1) (fun _ => 0) := by rw [← hW3, ← hs2]; exact W6.new0 _ _
  rw [hW1, hBe] at hw6
  rw [hW2, hs1] at hw7
  have HWA := Lib.hid ((hw6.up hU2).up hU3)
  have HWE := Lib.hid (hw7.up hU3)
  have HW1 := Lib.hid hW1
  have HW2 := Lib.hid hW2
  have HW3 := Lib.hid hW3
  have HZ := Lib.hid h0
  have HS3 := Lib.hid hs3
  have HU := Lib.hid ((hU1.trans hU2).trans hU3)
  clear hBe hw6 hw7 hW1 hW2 hU1 hU2 hs1 hs2 hs3 hU3 h0 hW3
  go_enter Tryd.func70, Tryd.ntmps70
  go_wp2
  rw [HBe.out, HW1.out, HW2.out, HW3.out]
  go_loopw [5, 6] (fun bv iv wr => ∃ (k : Nat) (b : Int) (D : Nat → Int), k ≤ 6 ∧ bv = .int .u64 b ∧ iv = .int .i64 k ∧ (b = 0 ∨ b = 1) ∧ Dig6 D ∧ val6 D = val6 A - low6 E k + b * pw k ∧ W6 wr B D ∧ UpBut B W3 wr) (fun _ iv _ => 6 - (intOf iv).toNat)
  case atStart => exact ⟨0, 0, A, by omega, rfl, rfl, Or.inl rfl, HA.out, by simp [low6], HWA.out, UpBut.refl _ _⟩
  case round =>
    rename_i wr
    obtain ⟨k, b, D, hk, rfl, rfl, hb, hD, hP, hW, hBt⟩ := hrel
    have HP := Lib.hid hP
    have HD := Lib.hid hD
    have HW := Lib.hid hW
    have HBt := Lib.hid hBt
    have lt := hW.lt
    have fz := hW.fz
    have b0 : 0 ≤ b := by omega
    have b1 : b ≤ 1 := by omega
    have hs3 := HS3.out
    have hsw := hBt.size
    clear hP hD hBt hb
    by_cases hk6 : k < 6
    · have hk7 : (k : Int) < 6 := by omega
      have hk0 : (0 : Int) ≤ (k : Int) := by omega
      have ca := hW.cell k hk6
      have ce := (HWE.out.but HBt.out (by omega)).cell k hk6
      obtain ⟨a0, a1⟩ := HD.out.at hk6
      obtain ⟨e0, e1⟩ := HE.out.at hk6
      have HST := Lib.hid (fun b' => minus_step D E k hk6 b b' (val6 A) HP.out)
      obtain ⟨x, hx⟩ : ∃ x, D k = x := ⟨_, rfl⟩
      obtain ⟨y, hy⟩ : ∃ y, E k = y := ⟨_, rfl⟩
      rw [hx] at ca a0 a1 HST
      rw [hy] at ce e0 e1 HST
      have hlt1 : B < wr.heap.size := by omega
      have HX := Lib.hid hx
      clear hx hy hW hs3
      have y0 : 0 ≤ y + b := by omega
      have y1 : y + b ≤ 4294967296 := by omega
      by_cases hxy : x < y + b
      · have z1 : x + 4294967296 - (y + b) < 4294967296 := by omega
        have z0 : 0 ≤ x + 4294967296 - (y + b) := by omega
        have HD2 := Lib.hid (HD.out.upd k _ ⟨z0, z1⟩)
        have HST2 : Hid (val6 (updD D k (x + 4294967296 - (y + b))) = val6 A - low6 E (k + 1) + 1 * pw (k + 1)) := Lib.hid (by
          have := HST.out 1
          rw [Int.one_mul 4294967296] at this; exact this)
        go_wp2
        go_roundw
        case rel =>
          refine ⟨k + 1, 1, updD D k (x + 4294967296 - (y + b)), by omega, rfl, by go_num, Or.inr rfl, HD2.out, HST2.out, ?_, ?_⟩
          · exact ((HW.out.set k hk6 _).set k hk6 _).congr (upd_upd _ _ _ _)
          · exact (HBt.out.setCell _ _ _).setCell _ _ _
        case measure => simp [intOf]; omega
      · have z1 : x - (y + b) < 4294967296 := by omega
        have z0 : 0 ≤ x - (y + b) := by omega
        have HD2 := Lib.hid (HD.out.upd k _ ⟨z0, z1⟩)
        have HST2 : Hid (val6 (updD D k (x - (y + b))) = val6 A - low6 E (k + 1) + 0 * pw (k + 1)) := Lib.hid (by
          have := HST.out 0
          rw [Int.zero_mul 4294967296, Int.add_zero x] at this; exact this)
        go_wp2
        go_roundw
        case rel =>
          refine ⟨k + 1, 0, updD D k (x - (y + b)), by omega, rfl, by go_num, Or.inl rfl, HD2.out, HST2.out, ?_, ?_⟩
          · exact HW.out.set k hk6 _
          · exact HBt.out.setCell _ _ _
        case measure => simp [intOf]; omega
    · have hk7 : (6 : Int) ≤ (k : Int) := by omega
      obtain rfl : k = 6 := by omega
      obtain ⟨d0, d1, d2, d3, d4, d5⟩ := hW.six
      have hzz := HZ.out.but HBt.out (by omega)
      obtain ⟨z0, z1, z2, z3, z4, z5⟩ := hzz.six
      have fz2 := hzz.fz
      have hlz := hzz.lt
      clear hW hzz hs3
      go_wp2
      refine bodyPost_ret (v := .agg #[.int .u64 (D 0), .int .u64 (D 1), .int .u64 (D 2), .int .u64 (D 3), .int .u64 (D 4), .int .u64 (D 5)]) (by simp [results, Tryd.results70, go_sem, z0, z1, z2, z3, z4, z5]) rfl ⟨⟨D, rfl, HD.out, (minus_end HD.out HA.out b0 HP.out HLE.out).trans HT.out⟩, ?_⟩
      have hq : w.heap.size ≤ B + 1 + 1 := by rw [HBe.out]; omega
      have hb := UpBut.up HU.out (by rw [HBe.out]; omega) HBt.out
      iterate 6 refine Up.setCell ?_ hq _
      exact hb

/-- The digits of a number. -/
def wd (T : Int) (k : Nat) : Int := match k with
  | 0 => T % 4294967296
  | 1 => T / 4294967296 % 4294967296
  | 2 => T / 18446744073709551616 % 4294967296
  | 3 => T / 79228162514264337593543950336 % 4294967296
  | 4 => T / 340282366920938463463374607431768211456 % 4294967296
  | _ => T / 1461501637330902918203684832716283019655932542976 % 4294967296
theorem wd_dig (T : Int) : Dig6 (wd T) := by
  refine ⟨?_, ?_, ?_, ?_, ?_, ?_⟩ <;> (unfold dig wd; simp only; omega)
theorem wd_val (T : Int) (h0 : 0 ≤ T) (h1 : T < 6277101735386680763835789423207666416102355444464034512896) : val6 (wd T) = T := by
  unfold val6; simp only [wd]; omega
theorem dig_unique {D E : Nat → Int} (hD : Dig6 D) (hE : Dig6 E) (h : val6 D = val6 E) : D 0 = E 0 ∧ D 1 = E 1 ∧ D 2 = E 2 ∧ D 3 = E 3 ∧ D 4 = E 4 ∧ D 5 = E 5 := by
  obtain ⟨⟨a0, b0⟩, ⟨a1, b1⟩, ⟨a2, b2⟩, ⟨a3, b3⟩, ⟨a4, b4⟩, ⟨a5, b5⟩⟩ := hD
  obtain ⟨⟨c0, d0⟩, ⟨c1, d1⟩, ⟨c2, d2⟩, ⟨c3, d3⟩, ⟨c4, d4⟩, ⟨c5, d5⟩⟩ := hE
  unfold val6 at h
  omega
theorem WideIs.eq {T : Int} {e : Ending} (h : WideIs T e) (h0 : 0 ≤ T) (h1 : T < 6277101735386680763835789423207666416102355444464034512896) : e = .returned (.agg #[.int .u64 (wd T 0), .int .u64 (wd T 1), .int .u64 (wd T 2), .int .u64 (wd T 3), .int .u64 (wd T 4), .int .u64 (wd T 5)]) := by
  obtain ⟨D, rfl, hD, hv⟩ := h
  obtain ⟨e0, e1, e2, e3, e4, e5⟩ := dig_unique hD (wd_dig T) (hv.trans (wd_val T h0 h1).symm)
  rw [e0, e1, e2, e3, e4, e5]

theorem r05_plusV (V a b T : Int) (V0 : 0 ≤ V) (a0 : 0 ≤ a) (a1 : a < 18446744073709551616) (b0 : 0 ≤ b) (b1 : b < 18446744073709551616) (hT : V + a * b = T) (hB : T < 6277101735386680763835789423207666416102355444464034512896) (w : World) :
    Calls Tryd.prog 66 #[.agg #[.int .u64 (wd V 0), .int .u64 (wd V 1), .int .u64 (wd V 2), .int .u64 (wd V 3), .int .u64 (wd V 4), .int .u64 (wd V 5)], .int .u64 a, .int .u64 b] w fun e w' => e = .returned (.agg #[.int .u64 (wd T 0), .int .u64 (wd T 1), .int .u64 (wd T 2), .int .u64 (wd T 3), .int .u64 (wd T 4), .int .u64 (wd T 5)]) ∧ Up w w' := by
  have hab : 0 ≤ a * b := Int.mul_nonneg a0 b0
  refine (r05_plus (wd V) (wd_dig V) a b a0 a1 b0 b1 T (by rw [wd_val V V0 (by omega)]; exact hT) hB w).mono fun e w' ⟨h1, h2⟩ => ⟨h1.eq (by omega) hB, h2⟩
theorem r05_lessV (V U : Int) (V0 : 0 ≤ V) (V1 : V < 6277101735386680763835789423207666416102355444464034512896) (U0 : 0 ≤ U) (U1 : U < 6277101735386680763835789423207666416102355444464034512896) (w : World) :
    Calls Tryd.prog 69 #[.agg #[.int .u64 (wd V 0), .int .u64 (wd V 1), .int .u64 (wd V 2), .int .u64 (wd V 3), .int .u64 (wd V 4), .int .u64 (wd V 5)], .agg #[.int .u64 (wd U 0), .int .u64 (wd U 1), .int .u64 (wd U 2), .int .u64 (wd U 3), .int .u64 (wd U 4), .int .u64 (wd U 5)]] w fun e w' => e = .returned (.bool (decide (V < U))) ∧ Up w w' := by
  have := r05_less (wd V) (wd U) (wd_dig V) (wd_dig U) w
  rw [wd_val V V0 V1, wd_val U U0 U1] at this
  exact this
theorem r05_minusV (V U T : Int) (V1 : V < 6277101735386680763835789423207666416102355444464034512896) (U0 : 0 ≤ U) (hle : U ≤ V) (hT : V - U = T) (w : World) :
    Calls Tryd.prog 70 #[.agg #[.int .u64 (wd V 0), .int .u64 (wd V 1), .int .u64 (wd V 2), .int .u64 (wd V 3), .int .u64 (wd V 4), .int .u64 (wd V 5)], .agg #[.int .u64 (wd U 0), .int .u64 (wd U 1), .int .u64 (wd U 2), .int .u64 (wd U 3), .int .u64 (wd U 4), .int .u64 (wd U 5)]] w fun e w' => e = .returned (.agg #[.int .u64 (wd T 0), .int .u64 (wd T 1), .int .u64 (wd T 2), .int .u64 (wd T 3), .int .u64 (wd T 4), .int .u64 (wd T 5)]) ∧ Up w w' := by
  have e1 := wd_val V (by omega) V1
  have e2 := wd_val U U0 (by omega)
  exact (r05_minus (wd V) (wd U) (wd_dig V) (wd_dig U) T (by rw [e1, e2]; exact hT) (by rw [e1, e2]; exact hle) w).mono fun e w' ⟨h1, h2⟩ => ⟨h1.eq (by omega) (by omega), h2⟩
/-- The number of the lower two digits, or a number that is too great. -/
theorem wd_small (T : Int) (h0 : 0 ≤ T) (h1 : T < 6277101735386680763835789423207666416102355444464034512896) (h : T < 18446744073709551616) : wd T 2 = 0 ∧ wd T 3 = 0 ∧ wd T 4 = 0 ∧ wd T 5 = 0 ∧ wd T 0 + wd T 1 * 4294967296 = T := by
  simp only [wd]; omega
theorem wd_great (T : Int) (h0 : 0 ≤ T) (h1 : T < 6277101735386680763835789423207666416102355444464034512896) (h : ¬ T < 18446744073709551616) :
    wd T 2 ≠ 0 ∨ (wd T 2 = 0 ∧ wd T 3 ≠ 0) ∨ (wd T 2 = 0 ∧ wd T 3 = 0 ∧ wd T 4 ≠ 0) ∨ (wd T 2 = 0 ∧ wd T 3 = 0 ∧ wd T 4 = 0 ∧ wd T 5 ≠ 0) := by
  simp only [wd]; omega
end Go.Proofs.YtahlecmlhdikjaaDoor
end
