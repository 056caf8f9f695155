/-
  The reference's wide integers: digit.
-/
import Derived.Test.YtpclbgaaoednnaaLinD
namespace Go.Proofs.Ytpclbgaaoednnaa
open Go.ChangeShapes Go.WideShapes Go.ChangeAt Go.RowKit
set_option linter.unusedVariables false

/-- Six cells of block b. -/
structure W6 (w : World) (b : Nat) (D : Nat → Int) : Prop where
  lt : b < w.heap.size
  cell : ∀ j, j < 6 → w.cell? ⟨b, j, none⟩ = some (.int .u64 (D j))
  fz : ∀ o, w.frozen? ⟨b, o, none⟩ = false
theorem W6.set {w : World} {b : Nat} {D : Nat → Int} (x : W6 w b D) (k : Nat) (hk : k < 6) (u : Int) : W6 (w.setCell ⟨b, k, none⟩ (.int .u64 u)) b (updD D k u) where
  lt := by rw [set_size]; exact x.lt
  cell := fun j hj => by
    unfold updD
    by_cases h : j = k
    · subst h; rw [if_pos rfl]; exact set_eq _ _ _ _ _ (x.cell j hj)
    · rw [if_neg h]; exact (set_ne _ _ _ _ _ (fun e => h e.symm)).trans (x.cell j hj)
  fz := fun o => by rw [World.frozen?_setCell]; exact x.fz o
theorem W6.up {w w' : World} {b : Nat} {D : Nat → Int} (x : W6 w b D) (u : Up w w') : W6 w' b D :=
  ⟨Nat.lt_of_lt_of_le x.lt u.size, fun j hj => (u.cell _ _ x.lt).trans (x.cell j hj), fun o => (u.frozen _ _ x.lt).trans (x.fz o)⟩
theorem W6.six {w : World} {b : Nat} {D : Nat → Int} (x : W6 w b D) : w.cell? ⟨b, 0, none⟩ = some (.int .u64 (D 0)) ∧ w.cell? ⟨b, 1, none⟩ = some (.int .u64 (D 1)) ∧ w.cell? ⟨b, 2, none⟩ = some (.int .u64 (D 2)) ∧ w.cell? ⟨b, 3, none⟩ = some (.int .u64 (D 3)) ∧ w.cell? ⟨b, 4, none⟩ = some (.int .u64 (D 4)) ∧ w.cell? ⟨b, 5, none⟩ = some (.int .u64 (D 5)) :=
  ⟨x.cell 0 (by omega), x.cell 1 (by omega), x.cell 2 (by omega), x.cell 3 (by omega), x.cell 4 (by omega), x.cell 5 (by omega)⟩
theorem W6.new (w : World) (D : Nat → Int) (t : TypeId) : W6 (w.alloc (.cells #[.int .u64 (D 0), .int .u64 (D 1), .int .u64 (D 2), .int .u64 (D 3), .int .u64 (D 4), .int .u64 (D 5)] t)) w.heap.size D := by
  have h := heap_alloc_new w (.cells #[.int .u64 (D 0), .int .u64 (D 1), .int .u64 (D 2), .int .u64 (D 3), .int .u64 (D 4), .int .u64 (D 5)] t)
  refine ⟨by rw [size_alloc]; omega, fun j hj => ?_, fun o => frozen_of_row _ _ o _ _ h⟩
  rcases (by omega : j = 0 ∨ j = 1 ∨ j = 2 ∨ j = 3 ∨ j = 4 ∨ j = 5) with rfl | rfl | rfl | rfl | rfl | rfl <;> exact cell_of_row _ _ _ _ _ _ h
theorem W6.new0 (w : World) (t : TypeId) : W6 (w.alloc (.cells #[.int .u64 0, .int .u64 0, .int .u64 0, .int .u64 0, .int .u64 0, .int .u64 0] t)) w.heap.size (fun _ => 0) := W6.new w (fun _ => 0) t
theorem UpBut.frozen {b : Nat} {w w' : World} (h : UpBut b w w') (k o : Nat) (hk : k < w.heap.size) (hb : k ≠ b) : w'.frozen? ⟨k, o, none⟩ = w.frozen? ⟨k, o, none⟩ := by
  have := h.block k hk hb
  unfold World.frozen?; rw [this]
theorem W6.but {w w' : World} {b c : Nat} {D : Nat → Int} (x : W6 w b D) (u : UpBut c w w') (hb : b ≠ c) : W6 w' b D :=
  ⟨Nat.lt_of_lt_of_le x.lt u.size, fun j hj => (u.cell _ _ x.lt hb).trans (x.cell j hj), fun o => (u.frozen _ _ x.lt hb).trans (x.fz o)⟩

def WideIs (T : Int) (e : Ending) : Prop := ∃ D : Nat → Int, e = .returned (.agg #[.int .u64 (D 0), .int .u64 (D 1), .int .u64 (D 2), .int .u64 (D 3), .int .u64 (D 4), .int .u64 (D 5)]) ∧ Dig6 D ∧ val6 D = T
/-- The world after a wide integer has been stored. -/
def put6 (w : World) (b : Nat) (D : Nat → Int) : World := (((((w.setCell ⟨b, 0, none⟩ (.int .u64 (D 0))).setCell ⟨b, 1, none⟩ (.int .u64 (D 1))).setCell ⟨b, 2, none⟩ (.int .u64 (D 2))).setCell ⟨b, 3, none⟩ (.int .u64 (D 3))).setCell ⟨b, 4, none⟩ (.int .u64 (D 4))).setCell ⟨b, 5, none⟩ (.int .u64 (D 5))
theorem put6_but (w : World) (b : Nat) (D : Nat → Int) : UpBut b w (put6 w b D) := ((((((UpBut.refl b w).setCell _ _ _).setCell _ _ _).setCell _ _ _).setCell _ _ _).setCell _ _ _).setCell _ _ _
theorem put6_at {w : World} {b : Nat} {E : Nat → Int} (h : W6 w b E) (D : Nat → Int) : W6 (put6 w b D) b D := by
  have g := (((((h.set 0 (by omega) (D 0)).set 1 (by omega) (D 1)).set 2 (by omega) (D 2)).set 3 (by omega) (D 3)).set 4 (by omega) (D 4)).set 5 (by omega) (D 5)
  refine ⟨g.lt, fun j hj => ?_, g.fz⟩
  rw [show (put6 w b D).cell? ⟨b, j, none⟩ = _ from g.cell j hj]
  rcases (by omega : j = 0 ∨ j = 1 ∨ j = 2 ∨ j = 3 ∨ j = 4 ∨ j = 5) with rfl | rfl | rfl | rfl | rfl | rfl <;> simp [updD]

set_option maxHeartbeats 4000000 in
theorem r05_digit (D : Nat → Int) (hD : Dig6 D) (a : Nat) (ai : Int) (hai : (a : Int) = ai) (ha : a ≤ 5) (n : Int) (n0 : 0 ≤ n) (n1 : n < 18446744073709551616) (T : Int) (hT : val6 D + n * pw a = T) (hB : T < 6277101735386680763835789423207666416102355444464034512896) (w : World) :
    Calls Try.prog 73 #[.agg #[.int .u64 (D 0), .int .u64 (D 1), .int .u64 (D 2), .int .u64 (D 3), .int .u64 (D 4), .int .u64 (D 5)], .int .i64 ai, .int .u64 n] w fun e w' => WideIs T e ∧ Up w w' := by
  have HT := Lib.hid hT
  have HBB := Lib.hid hB
  have HD := Lib.hid hD
  clear hT hB hD
  subst hai
  have hw6 := W6.new w D 73
  obtain ⟨B, hBe⟩ : ∃ B, w.heap.size = B := ⟨_, rfl⟩
  have HBe := Lib.hid hBe
  clear hBe
  go_enter Try.func73, Try.ntmps73
  go_wp2
  obtain ⟨W1, hW1⟩ : ∃ W1, w.alloc (.cells #[.int .u64 (D 0), .int .u64 (D 1), .int .u64 (D 2), .int .u64 (D 3), .int .u64 (D 4), .int .u64 (D 5)] 73) = W1 := ⟨_, rfl⟩
  have hU1 : Up w W1 := hW1 ▸ (Up.refl w).alloc _
  have hs1 : W1.heap.size = B + 1 := by rw [← hW1, size_alloc, HBe.out]
  rw [hW1] at hw6
  try rw [hW1]
  clear hW1
  rw [HBe.out] at hw6
  rw [HBe.out]
  obtain ⟨W2, hW2⟩ : ∃ W2, W1.alloc (.cells #[.int .u64 0, .int .u64 0, .int .u64 0, .int .u64 0, .int .u64 0, .int .u64 0] 73) = W2 := ⟨_, rfl⟩
  have h0 : W6 W2 (B + 1) (fun _ => 0) := by rw [← hW2, ← hs1]; exact W6.new0 _ _
  have hU2 : Up W1 W2 := hW2 ▸ (Up.refl W1).alloc _
  have hs2 : W2.heap.size = B + 2 := by rw [← hW2, size_alloc, hs1]
  rw [hW2]
  clear hW2
  have HW6 := Lib.hid (hw6.up hU2)
  have H0 := Lib.hid h0
  have HU := Lib.hid (hU1.trans hU2)
  clear hw6 h0 hU1 hU2 hs1
  go_loopw [7, 8, 2] (fun cv iv nv wr => ∃ (k : Nat) (c m : Int) (E : Nat → Int), k ≤ 6 ∧ cv = .int .u64 c ∧ iv = .int .i64 k ∧ nv = .int .u64 m ∧ (0 ≤ c ∧ c ≤ 2) ∧ (0 ≤ m ∧ m < 18446744073709551616) ∧ Dig6 E ∧ val6 E + (m + c) * pw k = T ∧ W6 wr B E ∧ UpBut B W2 wr) (fun _ iv _ _ => 6 - (intOf iv).toNat)
  case atStart => exact ⟨a, 0, n, D, by omega, rfl, rfl, rfl, by omega, ⟨n0, n1⟩, HD.out, by rw [Int.add_zero]; exact HT.out, HW6.out, UpBut.refl _ _⟩
  case round =>
    rename_i wr
    obtain ⟨k, c, m, E, hk, rfl, rfl, rfl, ⟨c0, c1⟩, ⟨m0, m1⟩, hE, hP, hW, hBt⟩ := hrel
    have HE := Lib.hid hE
    have HP := Lib.hid hP
    have HW := Lib.hid hW
    have HBt := Lib.hid hBt
    have hlt := hW.lt
    have hfz := hW.fz
    clear hP hBt
    by_cases hk6 : k < 6
    · have hk7 : (k : Int) < 6 := by omega
      have hk0 : (0 : Int) ≤ (k : Int) := by omega
      have hc := hW.cell k hk6
      obtain ⟨x, hx⟩ : ∃ x, E k = x := ⟨_, rfl⟩
      obtain ⟨x0, x1⟩ := hE.at hk6
      rw [hx] at hc x0 x1
      obtain ⟨r, hr⟩ : ∃ r, m % 4294967296 = r := ⟨_, rfl⟩
      have r0 : 0 ≤ r := by omega
      have r1 : r < 4294967296 := by omega
      have HS := Lib.hid (digit_step E k hk6 m c T HP.out)
      have HR := Lib.hid hr
      have HX := Lib.hid hx
      rw [hx, hr] at HS
      clear hE hW hx
      have hm0 : m / 4294967296 < 18446744073709551616 := by omega
      go_wp2
      go_roundw
      case rel =>
        refine ⟨k + 1, (x + r + c) / 4294967296, m / 4294967296, updD E k ((x + r + c) % 4294967296), by omega, ?_, by go_num, ?_, by omega, by omega, HE.out.upd k _ (by omega), HS.out, HW.out.set k hk6 _, HBt.out.setCell _ _ _⟩
        · rfl
        · rfl
      case measure => simp [intOf]; omega
    · have hk7 : (6 : Int) ≤ (k : Int) := by omega
      obtain rfl : k = 6 := by omega
      obtain ⟨d0, d1, d2, d3, d4, d5⟩ := hW.six
      obtain ⟨z0, z1, z2, z3, z4, z5⟩ := (H0.out.but HBt.out (by omega)).six
      have hz := (H0.out.but HBt.out (by omega)).fz
      have hzl := (H0.out.but HBt.out (by omega)).lt
      clear hE hW
      go_wp2
      refine bodyPost_ret (v := .agg #[.int .u64 (E 0), .int .u64 (E 1), .int .u64 (E 2), .int .u64 (E 3), .int .u64 (E 4), .int .u64 (E 5)]) (by simp [results, Try.results73, go_sem, z0, z1, z2, z3, z4, z5]) rfl ⟨⟨E, rfl, HE.out, digit_end HE.out m0 c0 HP.out HBB.out⟩, ?_⟩
      have hq : w.heap.size ≤ B + 1 := by rw [HBe.out]; omega
      have hu := HU.out
      have hb := UpBut.up hu (by rw [HBe.out]; omega) HBt.out
      iterate 6 refine Up.setCell ?_ hq _
      exact hb
end Go.Proofs.Ytpclbgaaoednnaa
