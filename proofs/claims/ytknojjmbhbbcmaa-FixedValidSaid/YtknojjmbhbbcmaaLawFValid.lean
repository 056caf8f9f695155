/-
  FixedValid: the walk of the law. Printed by mk03l.py.
-/
import Derived.Test.YtknojjmbhbbcmaaFixX
import Derived.Test.YtknojjmbhbbcmaaOpenTy
import Derived.Test.YtknojjmbhbbcmaaOpenVal
namespace Go.Proofs.Ytknojjmbhbbcmaa.fixedValid
open Go.ChangeShapes Go.WideShapes Go.ChangeAt Go.RowKit
set_option linter.unusedVariables false
set_option linter.unusedSimpArgs false

set_option maxHeartbeats 8000000 in
set_option maxRecDepth 100000 in
theorem walk (W : World) {v0 v1 : Value} (w0 : IsTy v0) (w1 : IsVal v1) :
    Calls Try.prog 3 #[v0, v1] W fun e w' => e = .returned (.bool true) ∧ Up W w' := by
  revert W
  intro w
  obtain ⟨k, b, f, r, o, rfl⟩ := w0
  obtain ⟨n, d, rfl, na, nb, nc, nd⟩ := w1
  obtain ⟨x, y, e, hr⟩ : ∃ x y e : Int, (if vT k b f r o = false then (0, 0, 10) else (1, 2 ^ f.toNat, 0)) = (x, y, e) := ⟨_, _, _, rfl⟩
  obtain ⟨et, he⟩ : ∃ et, eT k b f r o = et := ⟨_, rfl⟩
  obtain ⟨vv, hvv⟩ : ∃ vv, vTV k b f r o n d = vv := ⟨_, rfl⟩
  have HR := Lib.hid hr
  have HE := Lib.hid he
  have HVV := Lib.hid hvv
  clear hr he hvv
  cases vv
  all_goals
    go_enter Try.func3, Try.ntmps3
    go_wp2_with fail
    refine (fixed_Resolution k b f r o x y e HR.out _).mono ?_
    rintro e1 x1 ⟨rfl, hx⟩
    have hsz := hx.size
    try simp at hsz
    have hz1_0 : w.heap.size < x1.heap.size := by omega
    have c1_0_0 : x1.cell? ⟨w.heap.size, 0, none⟩ = some (Value.int .i64 k) := (hx.cell _ _ (by first | omega | (simp; done) | (simp; omega))).trans (by go_simp)
    have c1_0_1 : x1.cell? ⟨w.heap.size, 1, none⟩ = some (Value.int .i64 b) := (hx.cell _ _ (by first | omega | (simp; done) | (simp; omega))).trans (by go_simp)
    have c1_0_2 : x1.cell? ⟨w.heap.size, 2, none⟩ = some (Value.int .i64 f) := (hx.cell _ _ (by first | omega | (simp; done) | (simp; omega))).trans (by go_simp)
    have c1_0_3 : x1.cell? ⟨w.heap.size, 3, none⟩ = some (Value.int .i64 r) := (hx.cell _ _ (by first | omega | (simp; done) | (simp; omega))).trans (by go_simp)
    have c1_0_4 : x1.cell? ⟨w.heap.size, 4, none⟩ = some (Value.int .i64 o) := (hx.cell _ _ (by first | omega | (simp; done) | (simp; omega))).trans (by go_simp)
    have f1_0 : ∀ o, x1.frozen? ⟨w.heap.size, o, none⟩ = false := fun o => (hx.frozen _ _ (by first | omega | (simp; done) | (simp; omega))).trans (by go_simp)
    have hz1_1 : w.heap.size + 1 < x1.heap.size := by omega
    have c1_1_0 : x1.cell? ⟨w.heap.size + 1, 0, none⟩ = some (Value.int .i64 n) := (hx.cell _ _ (by first | omega | (simp; done) | (simp; omega))).trans (by go_simp)
    have c1_1_1 : x1.cell? ⟨w.heap.size + 1, 1, none⟩ = some (Value.int .i64 d) := (hx.cell _ _ (by first | omega | (simp; done) | (simp; omega))).trans (by go_simp)
    have f1_1 : ∀ o, x1.frozen? ⟨w.heap.size + 1, o, none⟩ = false := fun o => (hx.frozen _ _ (by first | omega | (simp; done) | (simp; omega))).trans (by go_simp)
    have HU := Lib.hid (Up.trans (by repeat (first | exact Up.refl _ | refine Up.alloc ?_ _)) hx : Up w x1)
    clear hx hsz
    have hne1_0 : (w.heap.size = x1.heap.size) = False := by simp; omega
    have hnf1_0 : (x1.heap.size = w.heap.size) = False := by simp; omega
    have hne1_1 : (w.heap.size + 1 = x1.heap.size) = False := by simp; omega
    have hnf1_1 : (x1.heap.size = w.heap.size + 1) = False := by simp; omega
    go_wp2_with fail
    refine (ref03_Resolution k b f r o x y e HR.out _).mono ?_
    rintro e2 x2 ⟨rfl, hx⟩
    have hsz := hx.size
    try simp at hsz
    have hz2_0 : w.heap.size < x2.heap.size := by omega
    have c2_0_0 : x2.cell? ⟨w.heap.size, 0, none⟩ = some (Value.int .i64 k) := (hx.cell _ _ (by first | omega | (simp; done) | (simp; omega))).trans (by go_simp)
    have c2_0_1 : x2.cell? ⟨w.heap.size, 1, none⟩ = some (Value.int .i64 b) := (hx.cell _ _ (by first | omega | (simp; done) | (simp; omega))).trans (by go_simp)
    have c2_0_2 : x2.cell? ⟨w.heap.size, 2, none⟩ = some (Value.int .i64 f) := (hx.cell _ _ (by first | omega | (simp; done) | (simp; omega))).trans (by go_simp)
    have c2_0_3 : x2.cell? ⟨w.heap.size, 3, none⟩ = some (Value.int .i64 r) := (hx.cell _ _ (by first | omega | (simp; done) | (simp; omega))).trans (by go_simp)
    have c2_0_4 : x2.cell? ⟨w.heap.size, 4, none⟩ = some (Value.int .i64 o) := (hx.cell _ _ (by first | omega | (simp; done) | (simp; omega))).trans (by go_simp)
    have f2_0 : ∀ o, x2.frozen? ⟨w.heap.size, o, none⟩ = false := fun o => (hx.frozen _ _ (by first | omega | (simp; done) | (simp; omega))).trans (by go_simp)
    have hz2_1 : w.heap.size + 1 < x2.heap.size := by omega
    have c2_1_0 : x2.cell? ⟨w.heap.size + 1, 0, none⟩ = some (Value.int .i64 n) := (hx.cell _ _ (by first | omega | (simp; done) | (simp; omega))).trans (by go_simp)
    have c2_1_1 : x2.cell? ⟨w.heap.size + 1, 1, none⟩ = some (Value.int .i64 d) := (hx.cell _ _ (by first | omega | (simp; done) | (simp; omega))).trans (by go_simp)
    have f2_1 : ∀ o, x2.frozen? ⟨w.heap.size + 1, o, none⟩ = false := fun o => (hx.frozen _ _ (by first | omega | (simp; done) | (simp; omega))).trans (by go_simp)
    have hz2_2 : x1.heap.size < x2.heap.size := by omega
    have c2_2_0 : x2.cell? ⟨x1.heap.size, 0, none⟩ = some (Value.int .i64 x) := (hx.cell _ _ (by first | omega | (simp; done) | (simp; omega))).trans (by go_simp)
    have c2_2_1 : x2.cell? ⟨x1.heap.size, 1, none⟩ = some (Value.int .i64 y) := (hx.cell _ _ (by first | omega | (simp; done) | (simp; omega))).trans (by go_simp)
    have f2_2 : ∀ o, x2.frozen? ⟨x1.heap.size, o, none⟩ = false := fun o => (hx.frozen _ _ (by first | omega | (simp; done) | (simp; omega))).trans (by go_simp)
    replace HU := Lib.hid (Up.trans (by repeat (first | exact HU.out | refine Up.setCell ?_ (by first | omega | (simp; done) | (simp; omega)) _ | refine Up.alloc ?_ _)) hx : Up w x2)
    clear c1_0_0 c1_0_1 c1_0_2 c1_0_3 c1_0_4 f1_0 c1_1_0 c1_1_1 f1_1
    clear hx hsz
    have hne2_0 : (w.heap.size = x2.heap.size) = False := by simp; omega
    have hnf2_0 : (x2.heap.size = w.heap.size) = False := by simp; omega
    have hne2_1 : (w.heap.size + 1 = x2.heap.size) = False := by simp; omega
    have hnf2_1 : (x2.heap.size = w.heap.size + 1) = False := by simp; omega
    have hne2_2 : (x1.heap.size = x2.heap.size) = False := by simp; omega
    have hnf2_2 : (x2.heap.size = x1.heap.size) = False := by simp; omega
    go_wp2_with fail
    have hq0 : x1.heap.size < x2.heap.size + 1 := by omega
    have hqq0 : w.heap.size < x2.heap.size + 1 := by omega
    have hqq1 : w.heap.size + 1 < x2.heap.size + 1 := by omega
    have hqq2 : x1.heap.size < x2.heap.size + 1 := by omega
    have hqq3 : x2.heap.size < x2.heap.size + 1 := by omega
    refine wp_region_ext (by kernel_rfl) (by kernel_rfl) ?_
    repeat (go_big_quiet_step (first | (go_at_call 12; exact Calls.ext_of (fixed_ValidateType _ _ _ _ _ _ HE.out _)) | (go_at_call 13; exact Calls.ext_of (ref03_ValidateType _ _ _ _ _ _ HE.out _)) | (go_at_call 14; exact Calls.ext_of (fixed_Valid _ _ _ _ _ _ _ _ HVV.out _)) | (go_at_call 15; exact Calls.ext_of (ref03_Valid _ _ _ _ _ _ _ _ HVV.out _)) | (go_at_call 16; exact Calls.ext_of (law03_examples _))))
    refine wpQuiet_nil ?_
    intro x3 hx3
    have HU3 := Lib.hid hx3
    clear hx3
    go_wp2
    go_ret
    exact ⟨rfl, Up.trans (by repeat (first | exact HU.out | refine Up.drewN _ ?_ | refine Up.setCell ?_ (by first | omega | (simp; done) | (simp; omega)) _ | refine Up.alloc ?_ _)) HU3.out⟩

end Go.Proofs.Ytknojjmbhbbcmaa.fixedValid
