/-
  FixedFromFrac: the walk of the law. Printed by mk03l.py.
-/
import Derived.Test.YtknojjmbhbbcmaaFixX
import Derived.Test.YtknojjmbhbbcmaaOpenTy
import Derived.Test.YtknojjmbhbbcmaaOpenVal
namespace Go.Proofs.Ytknojjmbhbbcmaa.fixedFromFrac
open Go.ChangeShapes Go.WideShapes Go.ChangeAt Go.RowKit
set_option linter.unusedVariables false
set_option linter.unusedSimpArgs false

set_option maxHeartbeats 8000000 in
set_option maxRecDepth 100000 in
theorem walk (W : World) {v0 v1 : Value} (w0 : IsTy v0) (w1 : IsVal v1) :
    Calls Try.prog 4 #[v0, v1] W fun e w' => e = .returned (.bool true) ∧ Up W w' := by
  revert W
  intro w
  obtain ⟨k, b, f, r, o, rfl⟩ := w0
  obtain ⟨n, d, rfl, na, nb, nc, nd⟩ := w1
  obtain ⟨x, y, e, hr⟩ : ∃ x y e, fromR k b f r o n d = (x, y, e) := ⟨_, _, _, rfl⟩
  have HR := Lib.hid hr
  clear hr
  go_enter Try.func4, Try.ntmps4
  go_wp2_with fail
  refine (fixed_FromFrac k b f r o n d x y e HR.out na nb _).mono ?_
  rintro e1 x1 ⟨rfl, hx⟩
  obtain ⟨hc1, hf1⟩ := hx.both
  have hsz := hx.size
  try simp at hsz
  have hz1_0 : w.heap.size < x1.heap.size := by omega
  have hy1_0 : w.heap.size < x1.heap.size + 1 := by omega
  have hz1_1 : w.heap.size + 1 < x1.heap.size := by omega
  have hy1_1 : w.heap.size + 1 < x1.heap.size + 1 := by omega
  have hne1_0 : (w.heap.size = x1.heap.size) = False := by simp; omega
  have hnf1_0 : (x1.heap.size = w.heap.size) = False := by simp; omega
  have hne1_1 : (w.heap.size + 1 = x1.heap.size) = False := by simp; omega
  have hnf1_1 : (x1.heap.size = w.heap.size + 1) = False := by simp; omega
  have HU := Lib.hid (Up.trans (by repeat (first | exact Up.refl _ | refine Up.alloc ?_ _)) hx : Up w x1)
  clear hx hsz
  go_wp2_with fail
  refine (ref03_FromFrac k b f r o n d x y e HR.out na nb _).mono ?_
  rintro e2 x2 ⟨rfl, hx⟩
  obtain ⟨hc2, hf2⟩ := hx.both
  have hsz := hx.size
  try simp at hsz
  have hz2_0 : w.heap.size < x2.heap.size := by omega
  have hy2_0 : w.heap.size < x2.heap.size + 1 := by omega
  have hz2_1 : w.heap.size + 1 < x2.heap.size := by omega
  have hy2_1 : w.heap.size + 1 < x2.heap.size + 1 := by omega
  have hz2_2 : x1.heap.size < x2.heap.size := by omega
  have hy2_2 : x1.heap.size < x2.heap.size + 1 := by omega
  have hne2_0 : (w.heap.size = x2.heap.size) = False := by simp; omega
  have hnf2_0 : (x2.heap.size = w.heap.size) = False := by simp; omega
  have hne2_1 : (w.heap.size + 1 = x2.heap.size) = False := by simp; omega
  have hnf2_1 : (x2.heap.size = w.heap.size + 1) = False := by simp; omega
  have hne2_2 : (x1.heap.size = x2.heap.size) = False := by simp; omega
  have hnf2_2 : (x2.heap.size = x1.heap.size) = False := by simp; omega
  replace HU := Lib.hid (HU.out.trans (Up.trans (by repeat (first | exact Up.refl _ | refine Up.alloc ?_ _)) hx) : Up w x2)
  clear hx hsz
  go_wp2_with fail
  refine (law03_examples _).mono ?_
  rintro e3 x3 ⟨rfl, hx⟩
  obtain ⟨hc3, hf3⟩ := hx.both
  have hsz := hx.size
  try simp at hsz
  have hz3_0 : w.heap.size < x3.heap.size := by omega
  have hy3_0 : w.heap.size < x3.heap.size + 1 := by omega
  have hz3_1 : w.heap.size + 1 < x3.heap.size := by omega
  have hy3_1 : w.heap.size + 1 < x3.heap.size + 1 := by omega
  have hz3_2 : x1.heap.size < x3.heap.size := by omega
  have hy3_2 : x1.heap.size < x3.heap.size + 1 := by omega
  have hz3_3 : x2.heap.size < x3.heap.size := by omega
  have hy3_3 : x2.heap.size < x3.heap.size + 1 := by omega
  replace HU := Lib.hid (HU.out.trans (Up.trans (by repeat (first | exact Up.refl _ | refine Up.alloc ?_ _)) hx) : Up w x3)
  clear hx hsz
  go_wp2
  go_ret
  exact ⟨rfl, (by repeat (first | exact HU.out | refine Up.drewN _ ?_ | refine Up.setCell ?_ (by first | omega | (simp; done) | (simp; omega)) _ | refine Up.alloc ?_ _))⟩

end Go.Proofs.Ytknojjmbhbbcmaa.fixedFromFrac
