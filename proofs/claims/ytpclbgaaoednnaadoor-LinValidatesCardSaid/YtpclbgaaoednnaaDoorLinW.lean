/-
  The 192-bit sum of the program's Eval.
-/
import Derived.Test.YtpclbgaaoednnaaDoorLinP
import Derived.Test.YtpclbgaaoednnaaDoorBut
namespace Go.Proofs.YtpclbgaaoednnaaDoor
set_option linter.unusedSimpArgs false
open Go.ChangeShapes Go.WideShapes Go.ChangeAt Go.RowKit
set_option linter.unusedVariables false

/-- Three cells of block b. -/
structure W3 (w : World) (b : Nat) (h m l : Int) : Prop where
  lt : b < w.heap.size
  c0 : w.cell? ⟨b, 0, none⟩ = some (.int .u64 h)
  c1 : w.cell? ⟨b, 1, none⟩ = some (.int .u64 m)
  c2 : w.cell? ⟨b, 2, none⟩ = some (.int .u64 l)
  fz : ∀ o, w.frozen? ⟨b, o, none⟩ = false

theorem W3.set {w : World} {b : Nat} {h m l : Int} (x : W3 w b h m l) (h' m' l' : Int) :
    W3 (((w.setCell ⟨b, 2, none⟩ (.int .u64 l')).setCell ⟨b, 1, none⟩ (.int .u64 m')).setCell ⟨b, 0, none⟩ (.int .u64 h')) b h' m' l' where
  lt := by rw [set_size, set_size, set_size]; exact x.lt
  c0 := set_eq _ _ _ _ _ (((set_ne _ _ _ _ _ (by omega)).trans (set_ne _ _ _ _ _ (by omega))).trans x.c0)
  c1 := (set_ne _ _ _ _ _ (by omega)).trans (set_eq _ _ _ _ _ ((set_ne _ _ _ _ _ (by omega)).trans x.c1))
  c2 := (set_ne _ _ _ _ _ (by omega)).trans ((set_ne _ _ _ _ _ (by omega)).trans (set_eq _ _ _ _ _ x.c2))
  fz := fun o => by rw [World.frozen?_setCell, World.frozen?_setCell, World.frozen?_setCell]; exact x.fz o
theorem W3.but (w : World) (b : Nat) (h' m' l' : Int) : UpBut b w (((w.setCell ⟨b, 2, none⟩ (.int .u64 l')).setCell ⟨b, 1, none⟩ (.int .u64 m')).setCell ⟨b, 0, none⟩ (.int .u64 h')) :=
  (((UpBut.refl b w).setCell _ _ _).setCell _ _ _).setCell _ _ _
theorem W3.up {w w' : World} {b : Nat} {h m l : Int} (x : W3 w b h m l) (u : Up w w') : W3 w' b h m l :=
  ⟨Nat.lt_of_lt_of_le x.lt u.size, (u.cell _ _ x.lt).trans x.c0, (u.cell _ _ x.lt).trans x.c1, (u.cell _ _ x.lt).trans x.c2, fun o => (u.frozen _ _ x.lt).trans (x.fz o)⟩

/-- Three digits that stand for n, modulo 2^192. -/
def Dig (h m l n : Int) : Prop := (0 ≤ h ∧ h < 18446744073709551616) ∧ (0 ≤ m ∧ m < 18446744073709551616) ∧ (0 ≤ l ∧ l < 18446744073709551616) ∧ (h * 340282366920938463463374607431768211456 + m * 18446744073709551616 + l - n) % 6277101735386680763835789423207666416102355444464034512896 = 0
def WAt (w : World) (b : Nat) (n : Int) : Prop := ∃ h m l, Dig h m l n ∧ W3 w b h m l

theorem xor_max (x : Int) (h0 : 0 ≤ x) (h1 : x < 18446744073709551616) : bits .xor .u64 IntKind.u64.max x = 18446744073709551615 - x := by
  obtain ⟨a, rfl⟩ := Int.eq_ofNat_of_zero_le h0
  show IntKind.u64.wrap ((BitVec.ofInt 64 IntKind.u64.max ^^^ BitVec.ofInt 64 (a : Int)).toNat : Int) = _
  have e1 : BitVec.ofInt 64 IntKind.u64.max = BitVec.allOnes 64 := by decide
  have h2 : (BitVec.ofInt 64 (a : Int)).toNat = a := by
    rw [BitVec.ofInt_natCast, BitVec.toNat_ofNat]; exact Nat.mod_eq_of_lt (by omega)
  rw [e1, BitVec.allOnes_xor, BitVec.toNat_not, h2, IntKind.wrap_u64]
  omega

set_option maxHeartbeats 4000000 in
theorem wide_add_pos (b : Nat) (h m l hi lo : Int) (h0 : 0 ≤ h) (h1 : h < 18446744073709551616) (m0 : 0 ≤ m) (m1 : m < 18446744073709551616) (l0 : 0 ≤ l) (l1 : l < 18446744073709551616)
    (a0 : 0 ≤ hi) (a1 : hi < 18446744073709551616) (b0 : 0 ≤ lo) (b1 : lo < 18446744073709551616) (w : World) (hw : W3 w b h m l) (n p : Int) (hn : Dig h m l n) (hp : p = n + (hi * 18446744073709551616 + lo)) :
    Calls Tryd.prog 24 #[.pointer (some ⟨b, 0, none⟩), .int .u64 hi, .int .u64 lo, .bool false] w fun e w' => e = .returned (.tuple #[]) ∧ WAt w' b p ∧ UpBut b w w' := by
  have HW := Lib.hid hw
  have HD := Lib.hid hn
  have HP := Lib.hid hp
  clear hn hp
  obtain ⟨lt, c0, c1, c2, fz⟩ := hw
  go_enter Tryd.func24, Tryd.ntmps24
  go_wp2
  all_goals
    go_end0
    refine ⟨rfl, ⟨_, _, _, ?_, HW.out.set _ _ _⟩, W3.but _ _ _ _ _⟩
    have hd := HD.out
    have hp := HP.out
    clear c0 c1 c2 fz HW HD HP
    simp only [IntKind.wrap_u64] at *
    unfold Dig at *
    omega

set_option maxHeartbeats 8000000 in
theorem wide_add_neg (b : Nat) (h m l hi lo : Int) (h0 : 0 ≤ h) (h1 : h < 18446744073709551616) (m0 : 0 ≤ m) (m1 : m < 18446744073709551616) (l0 : 0 ≤ l) (l1 : l < 18446744073709551616)
    (a0 : 0 ≤ hi) (a1 : hi < 18446744073709551616) (b0 : 0 ≤ lo) (b1 : lo < 18446744073709551616) (w : World) (hw : W3 w b h m l) (n p : Int) (hn : Dig h m l n) (hp : p = n - (hi * 18446744073709551616 + lo)) :
    Calls Tryd.prog 24 #[.pointer (some ⟨b, 0, none⟩), .int .u64 hi, .int .u64 lo, .bool true] w fun e w' => e = .returned (.tuple #[]) ∧ WAt w' b p ∧ UpBut b w w' := by
  have HW := Lib.hid hw
  have HD := Lib.hid hn
  have HP := Lib.hid hp
  clear hn hp
  obtain ⟨lt, c0, c1, c2, fz⟩ := hw
  obtain ⟨H, hH⟩ : ∃ H, 18446744073709551615 - hi = H := ⟨_, rfl⟩
  obtain ⟨L, hL⟩ : ∃ L, 18446744073709551615 - lo = L := ⟨_, rfl⟩
  have x0 : bits .xor .u64 (if IntKind.u64.signed = true then -1 else IntKind.u64.max) 0 = 18446744073709551615 := xor_max 0 (by omega) (by omega)
  have x1 : bits .xor .u64 (if IntKind.u64.signed = true then -1 else IntKind.u64.max) hi = H := (xor_max hi a0 a1).trans hH
  have x2 : bits .xor .u64 (if IntKind.u64.signed = true then -1 else IntKind.u64.max) lo = L := (xor_max lo b0 b1).trans hL
  have HH := Lib.hid hH
  have HL := Lib.hid hL
  by_cases e1 : lo = 0
  · by_cases e2 : hi = 0
    · have f1 : IntKind.u64.wrap (L + 1) = 0 := by rw [IntKind.wrap_u64]; omega
      have f2 : IntKind.u64.wrap (H + 1) = 0 := by rw [IntKind.wrap_u64]; omega
      have f3 : IntKind.u64.wrap (18446744073709551615 + 1) = 0 := by rw [IntKind.wrap_u64]; rfl
      clear hH hL
      go_enter Tryd.func24, Tryd.ntmps24
      go_wp2
      all_goals
        go_end0
        refine ⟨rfl, ⟨_, _, _, ?_, HW.out.set _ _ _⟩, W3.but _ _ _ _ _⟩
        have hd := HD.out
        have hp := HP.out
        have hh := HH.out
        have hl := HL.out
        clear c0 c1 c2 fz HW HD HP HH HL x0 x1 x2
        simp only [IntKind.wrap_u64] at *
        unfold Dig at *
        omega
    · have f1 : IntKind.u64.wrap (L + 1) = 0 := by rw [IntKind.wrap_u64]; omega
      have f2 : IntKind.u64.wrap (H + 1) = H + 1 := by rw [IntKind.wrap_u64]; omega
      have f4 : (H + 1 == 0) = false := by simp; omega
      have f5 : ¬ (H + 1 = 0) := by omega
      clear hH hL
      go_enter Tryd.func24, Tryd.ntmps24
      go_wp2
      all_goals
        go_end0
        refine ⟨rfl, ⟨_, _, _, ?_, HW.out.set _ _ _⟩, W3.but _ _ _ _ _⟩
        have hd := HD.out
        have hp := HP.out
        have hh := HH.out
        have hl := HL.out
        clear c0 c1 c2 fz HW HD HP HH HL x0 x1 x2 f1 f2 f4
        simp only [IntKind.wrap_u64] at *
        unfold Dig at *
        omega
  · have f1 : IntKind.u64.wrap (L + 1) = L + 1 := by rw [IntKind.wrap_u64]; omega
    have f4 : (L + 1 == 0) = false := by simp; omega
    have f5 : ¬ (L + 1 = 0) := by omega
    clear hH hL
    go_enter Tryd.func24, Tryd.ntmps24
    go_wp2
    all_goals
      go_end0
      refine ⟨rfl, ⟨_, _, _, ?_, HW.out.set _ _ _⟩, W3.but _ _ _ _ _⟩
      have hd := HD.out
      have hp := HP.out
      have hh := HH.out
      have hl := HL.out
      clear c0 c1 c2 fz HW HD HP HH HL x0 x1 x2 f1 f4
      simp only [IntKind.wrap_u64] at *
      unfold Dig at *
      omega
end Go.Proofs.YtpclbgaaoednnaaDoor

