/-
  The examples of chapter 3, as every law checks them. Printed by mk03x.py.
-/
import Derived.Test.YtknojjmbhbbcmaaFixF
import Derived.Test.YtknojjmbhbbcmaaFixG
import Derived.Test.YtknojjmbhbbcmaaBox
namespace Go.Proofs.Ytknojjmbhbbcmaa
open Go.ChangeShapes Go.WideShapes Go.ChangeAt Go.RowKit
set_option linter.unusedVariables false
set_option linter.unusedSimpArgs false

theorem ex03a : fromR 2 4 1 1 1 5 4 = (2, 1, 0) := by decide +kernel
theorem ex03b : fromR 2 4 1 1 1 100 1 = (7, 1, 0) := by decide +kernel
theorem ex03c : chkE 2 4 1 4 2 [(7, 1), (1, 1)] = 0 := by decide +kernel
theorem ex03d : chkE 2 4 1 4 2 [(3, 1), (3, 1)] = 0 := by decide +kernel
theorem ex03e : chkE 2 4 1 4 2 [(3, 1), (0, 1)] = 0 := by decide +kernel
theorem ex03f : fitN (7 + 1) 4 2 = -8 := by decide +kernel
theorem ex03g : divR (3 * 3) (2 ^ (1 : Int).toNat) 4 = (4, 0) := by decide +kernel
theorem ex03h : fitN 4 4 2 = 4 := by decide +kernel
theorem ex03i : divR (3 * 2 ^ (1 : Int).toNat) 0 4 = (0, 4) := by decide +kernel
theorem ex03j : fitN 0 4 2 = 0 := by decide +kernel

set_option maxHeartbeats 2000000 in
theorem law03_examples (w : World) :
    Calls Try.prog 16 #[] w fun e w' => e = .returned (.bool true) ∧ Up w w' := by

  go_enter Try.func16, Try.ntmps16
  go_wp2_with fail
  refine (fixed_FromFrac 2 4 1 1 1 5 4 2 1 0 ex03a (by omega) (by omega) _).mono ?_
  rintro e1 x1 ⟨rfl, hx⟩
  obtain ⟨hc1, hf1⟩ := hx.both
  have hsz := hx.size
  simp only [size_alloc] at hsz
  have hz1_0 : w.heap.size < x1.heap.size := by omega
  have hy1_0 : w.heap.size < x1.heap.size + 1 := by omega
  have hz1_1 : w.heap.size + 1 < x1.heap.size := by omega
  have hy1_1 : w.heap.size + 1 < x1.heap.size + 1 := by omega
  have HU := Lib.hid (Up.trans (by repeat (first | exact Up.refl _ | refine Up.alloc ?_ _)) hx : Up w x1)
  clear hx hsz
  go_wp2_with fail
  refine (fixed_FromFrac 2 4 1 1 1 100 1 7 1 0 ex03b (by omega) (by omega) _).mono ?_
  rintro e2 x2 ⟨rfl, hx⟩
  obtain ⟨hc2, hf2⟩ := hx.both
  have hsz := hx.size
  simp only [size_alloc] at hsz
  have hz2_0 : w.heap.size < x2.heap.size := by omega
  have hy2_0 : w.heap.size < x2.heap.size + 1 := by omega
  have hz2_1 : w.heap.size + 1 < x2.heap.size := by omega
  have hy2_1 : w.heap.size + 1 < x2.heap.size + 1 := by omega
  have hz2_2 : x1.heap.size < x2.heap.size := by omega
  have hy2_2 : x1.heap.size < x2.heap.size + 1 := by omega
  replace HU := Lib.hid (HU.out.trans (Up.trans (by repeat (first | exact Up.refl _ | refine Up.alloc ?_ _)) hx) : Up w x2)
  clear hx hsz
  go_wp2_with fail
  refine (fixed_Add 2 4 1 4 2 7 1 1 1 0 (7 + 1) 0 (-8) ex03c rfl ex03f _).mono ?_
  rintro e3 x3 ⟨rfl, hx⟩
  obtain ⟨hc3, hf3⟩ := hx.both
  have hsz := hx.size
  simp only [size_alloc] at hsz
  have hz3_0 : w.heap.size < x3.heap.size := by omega
  have hy3_0 : w.heap.size < x3.heap.size + 1 := by omega
  have hz3_1 : w.heap.size + 1 < x3.heap.size := by omega
  have hy3_1 : w.heap.size + 1 < x3.heap.size + 1 := by omega
  have hz3_2 : x1.heap.size < x3.heap.size := by omega
  have hy3_2 : x1.heap.size < x3.heap.size + 1 := by omega
  have hz3_3 : x2.heap.size < x3.heap.size := by omega
  have hy3_3 : x2.heap.size < x3.heap.size + 1 := by omega
  replace HU := Lib.hid (HU.out.trans (Up.trans (by repeat (first | exact Up.refl _ | refine Up.alloc ?_ _)) hx) : Up w x3)
  clear hx hsz
  go_wp2_with fail
  refine (fixed_Mul 2 4 1 4 2 3 1 3 1 0 4 0 4 ex03d ex03g ex03h _).mono ?_
  rintro e4 x4 ⟨rfl, hx⟩
  obtain ⟨hc4, hf4⟩ := hx.both
  have hsz := hx.size
  simp only [size_alloc] at hsz
  have hz4_0 : w.heap.size < x4.heap.size := by omega
  have hy4_0 : w.heap.size < x4.heap.size + 1 := by omega
  have hz4_1 : w.heap.size + 1 < x4.heap.size := by omega
  have hy4_1 : w.heap.size + 1 < x4.heap.size + 1 := by omega
  have hz4_2 : x1.heap.size < x4.heap.size := by omega
  have hy4_2 : x1.heap.size < x4.heap.size + 1 := by omega
  have hz4_3 : x2.heap.size < x4.heap.size := by omega
  have hy4_3 : x2.heap.size < x4.heap.size + 1 := by omega
  have hz4_4 : x3.heap.size < x4.heap.size := by omega
  have hy4_4 : x3.heap.size < x4.heap.size + 1 := by omega
  replace HU := Lib.hid (HU.out.trans (Up.trans (by repeat (first | exact Up.refl _ | refine Up.alloc ?_ _)) hx) : Up w x4)
  clear hx hsz
  go_wp2_with fail
  refine (fixed_Div 2 4 1 4 2 3 1 0 1 0 0 4 0 ex03e ex03i ex03j _).mono ?_
  rintro e5 x5 ⟨rfl, hx⟩
  obtain ⟨hc5, hf5⟩ := hx.both
  have hsz := hx.size
  simp only [size_alloc] at hsz
  have hz5_0 : w.heap.size < x5.heap.size := by omega
  have hy5_0 : w.heap.size < x5.heap.size + 1 := by omega
  have hz5_1 : w.heap.size + 1 < x5.heap.size := by omega
  have hy5_1 : w.heap.size + 1 < x5.heap.size + 1 := by omega
  have hz5_2 : x1.heap.size < x5.heap.size := by omega
  have hy5_2 : x1.heap.size < x5.heap.size + 1 := by omega
  have hz5_3 : x2.heap.size < x5.heap.size := by omega
  have hy5_3 : x2.heap.size < x5.heap.size + 1 := by omega
  have hz5_4 : x3.heap.size < x5.heap.size := by omega
  have hy5_4 : x3.heap.size < x5.heap.size + 1 := by omega
  have hz5_5 : x4.heap.size < x5.heap.size := by omega
  have hy5_5 : x4.heap.size < x5.heap.size + 1 := by omega
  replace HU := Lib.hid (HU.out.trans (Up.trans (by repeat (first | exact Up.refl _ | refine Up.alloc ?_ _)) hx) : Up w x5)
  clear hx hsz
  go_wp2_with fail
  refine (fixed_Resolution 2 4 1 1 1 1 2 0 (by decide +kernel) _).mono ?_
  rintro e6 x6 ⟨rfl, hx⟩
  obtain ⟨hc6, hf6⟩ := hx.both
  have hsz := hx.size
  simp only [size_alloc] at hsz
  have hz6_0 : w.heap.size < x6.heap.size := by omega
  have hy6_0 : w.heap.size < x6.heap.size + 1 := by omega
  have hz6_1 : w.heap.size + 1 < x6.heap.size := by omega
  have hy6_1 : w.heap.size + 1 < x6.heap.size + 1 := by omega
  have hz6_2 : x1.heap.size < x6.heap.size := by omega
  have hy6_2 : x1.heap.size < x6.heap.size + 1 := by omega
  have hz6_3 : x2.heap.size < x6.heap.size := by omega
  have hy6_3 : x2.heap.size < x6.heap.size + 1 := by omega
  have hz6_4 : x3.heap.size < x6.heap.size := by omega
  have hy6_4 : x3.heap.size < x6.heap.size + 1 := by omega
  have hz6_5 : x4.heap.size < x6.heap.size := by omega
  have hy6_5 : x4.heap.size < x6.heap.size + 1 := by omega
  have hz6_6 : x5.heap.size < x6.heap.size := by omega
  have hy6_6 : x5.heap.size < x6.heap.size + 1 := by omega
  replace HU := Lib.hid (HU.out.trans (Up.trans (by repeat (first | exact Up.refl _ | refine Up.alloc ?_ _)) hx) : Up w x6)
  clear hx hsz
  go_wp2
  trace_state
  go_ret
  exact ⟨rfl, (by repeat (first | exact HU.out | refine Up.drewN _ ?_ | refine Up.setCell ?_ (by first | omega | (simp; done) | (simp; omega)) _ | refine Up.alloc ?_ _))⟩

end Go.Proofs.Ytknojjmbhbbcmaa
