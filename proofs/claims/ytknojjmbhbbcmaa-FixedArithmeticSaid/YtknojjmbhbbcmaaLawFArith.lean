/-
  FixedArithmetic: the walk of the law. Printed by mk03l.py.
-/
import Derived.Test.YtknojjmbhbbcmaaFixX
import Derived.Test.YtknojjmbhbbcmaaOpenTy
import Derived.Test.YtknojjmbhbbcmaaOpenVal
namespace Go.Proofs.Ytknojjmbhbbcmaa.fixedArithmetic
open Go.ChangeShapes Go.WideShapes Go.ChangeAt Go.RowKit
set_option linter.unusedVariables false
set_option linter.unusedSimpArgs false

set_option maxHeartbeats 8000000 in
set_option maxRecDepth 100000 in
theorem walk (W : World) {v0 v1 v2 : Value} (w0 : IsTy v0) (w1 : IsVal v1) (w2 : IsVal v2) :
    Calls Try.prog 9 #[v0, v1, v2] W fun e w' => e = .returned (.bool true) ∧ Up W w' := by
  revert W
  intro w
  obtain ⟨k, b, f, r, o, rfl⟩ := w0
  obtain ⟨n1, d1, rfl, n1a, n1b, n1c, n1d⟩ := w1
  obtain ⟨n2, d2, rfl, n2a, n2b, n2c, n2d⟩ := w2
  obtain ⟨c, hc⟩ : ∃ c, chkE k b f r o [(n1, d1), (n2, d2)] = c := ⟨_, rfl⟩
  obtain ⟨c2, hc2⟩ : ∃ c, chkE k b f r o [(n1, d1), (n1, d1)] = c := ⟨_, rfl⟩
  have HC := Lib.hid hc
  have HC2 := Lib.hid hc2
  clear hc hc2
  obtain ⟨qAdd, eAdd, hqAdd⟩ : ∃ q e : Int, (n1 + n2, 0) = (q, e) := ⟨_, _, rfl⟩
  obtain ⟨xAdd, hxAdd⟩ : ∃ x : Int, apX c eAdd (fitN qAdd b o) = x := ⟨_, rfl⟩
  obtain ⟨yAdd, hyAdd⟩ : ∃ x : Int, apD c eAdd = x := ⟨_, rfl⟩
  obtain ⟨zAdd, hzAdd⟩ : ∃ x : Int, apE c eAdd = x := ⟨_, rfl⟩
  have HfixedAdd : Hid (∀ w, Calls Try.prog 21 #[.agg #[.int .i64 k, .int .i64 b, .int .i64 f, .int .i64 r, .int .i64 o], .agg #[.int .i64 n1, .int .i64 d1], .agg #[.int .i64 n2, .int .i64 d2]] w fun e' w' => e' = .returned (.tuple #[.agg #[.int .i64 xAdd, .int .i64 yAdd], .int .i64 zAdd]) ∧ Up w w') := Lib.hid (fun w => by
    have := fixed_Add k b f r o n1 d1 n2 d2 c qAdd eAdd _ HC.out hqAdd rfl w
    rw [hxAdd, hyAdd, hzAdd] at this
    exact this)
  have Href03Add : Hid (∀ w, Calls Try.prog 26 #[.agg #[.int .i64 k, .int .i64 b, .int .i64 f, .int .i64 r, .int .i64 o], .agg #[.int .i64 n1, .int .i64 d1], .agg #[.int .i64 n2, .int .i64 d2]] w fun e' w' => e' = .returned (.tuple #[.agg #[.int .i64 xAdd, .int .i64 yAdd], .int .i64 zAdd]) ∧ Up w w') := Lib.hid (fun w => by
    have := ref03_Add k b f r o n1 d1 n2 d2 c qAdd eAdd _ HC.out hqAdd rfl w
    rw [hxAdd, hyAdd, hzAdd] at this
    exact this)
  clear hqAdd hxAdd hyAdd hzAdd
  obtain ⟨qSub, eSub, hqSub⟩ : ∃ q e : Int, (n1 - n2, 0) = (q, e) := ⟨_, _, rfl⟩
  obtain ⟨xSub, hxSub⟩ : ∃ x : Int, apX c eSub (fitN qSub b o) = x := ⟨_, rfl⟩
  obtain ⟨ySub, hySub⟩ : ∃ x : Int, apD c eSub = x := ⟨_, rfl⟩
  obtain ⟨zSub, hzSub⟩ : ∃ x : Int, apE c eSub = x := ⟨_, rfl⟩
  have HfixedSub : Hid (∀ w, Calls Try.prog 23 #[.agg #[.int .i64 k, .int .i64 b, .int .i64 f, .int .i64 r, .int .i64 o], .agg #[.int .i64 n1, .int .i64 d1], .agg #[.int .i64 n2, .int .i64 d2]] w fun e' w' => e' = .returned (.tuple #[.agg #[.int .i64 xSub, .int .i64 ySub], .int .i64 zSub]) ∧ Up w w') := Lib.hid (fun w => by
    have := fixed_Sub k b f r o n1 d1 n2 d2 c qSub eSub _ HC.out hqSub rfl w
    rw [hxSub, hySub, hzSub] at this
    exact this)
  have Href03Sub : Hid (∀ w, Calls Try.prog 27 #[.agg #[.int .i64 k, .int .i64 b, .int .i64 f, .int .i64 r, .int .i64 o], .agg #[.int .i64 n1, .int .i64 d1], .agg #[.int .i64 n2, .int .i64 d2]] w fun e' w' => e' = .returned (.tuple #[.agg #[.int .i64 xSub, .int .i64 ySub], .int .i64 zSub]) ∧ Up w w') := Lib.hid (fun w => by
    have := ref03_Sub k b f r o n1 d1 n2 d2 c qSub eSub _ HC.out hqSub rfl w
    rw [hxSub, hySub, hzSub] at this
    exact this)
  clear hqSub hxSub hySub hzSub
  obtain ⟨qMul, eMul, hqMul⟩ : ∃ q e : Int, divR (n1 * n2) (2 ^ f.toNat) r = (q, e) := ⟨_, _, rfl⟩
  obtain ⟨xMul, hxMul⟩ : ∃ x : Int, apX c eMul (fitN qMul b o) = x := ⟨_, rfl⟩
  obtain ⟨yMul, hyMul⟩ : ∃ x : Int, apD c eMul = x := ⟨_, rfl⟩
  obtain ⟨zMul, hzMul⟩ : ∃ x : Int, apE c eMul = x := ⟨_, rfl⟩
  have HfixedMul : Hid (∀ w, Calls Try.prog 22 #[.agg #[.int .i64 k, .int .i64 b, .int .i64 f, .int .i64 r, .int .i64 o], .agg #[.int .i64 n1, .int .i64 d1], .agg #[.int .i64 n2, .int .i64 d2]] w fun e' w' => e' = .returned (.tuple #[.agg #[.int .i64 xMul, .int .i64 yMul], .int .i64 zMul]) ∧ Up w w') := Lib.hid (fun w => by
    have := fixed_Mul k b f r o n1 d1 n2 d2 c qMul eMul _ HC.out hqMul rfl w
    rw [hxMul, hyMul, hzMul] at this
    exact this)
  have Href03Mul : Hid (∀ w, Calls Try.prog 28 #[.agg #[.int .i64 k, .int .i64 b, .int .i64 f, .int .i64 r, .int .i64 o], .agg #[.int .i64 n1, .int .i64 d1], .agg #[.int .i64 n2, .int .i64 d2]] w fun e' w' => e' = .returned (.tuple #[.agg #[.int .i64 xMul, .int .i64 yMul], .int .i64 zMul]) ∧ Up w w') := Lib.hid (fun w => by
    have := ref03_Mul k b f r o n1 d1 n2 d2 c qMul eMul _ HC.out hqMul rfl w
    rw [hxMul, hyMul, hzMul] at this
    exact this)
  clear hqMul hxMul hyMul hzMul
  obtain ⟨qDiv, eDiv, hqDiv⟩ : ∃ q e : Int, divR (n1 * 2 ^ f.toNat) n2 r = (q, e) := ⟨_, _, rfl⟩
  obtain ⟨xDiv, hxDiv⟩ : ∃ x : Int, apX c eDiv (fitN qDiv b o) = x := ⟨_, rfl⟩
  obtain ⟨yDiv, hyDiv⟩ : ∃ x : Int, apD c eDiv = x := ⟨_, rfl⟩
  obtain ⟨zDiv, hzDiv⟩ : ∃ x : Int, apE c eDiv = x := ⟨_, rfl⟩
  have HfixedDiv : Hid (∀ w, Calls Try.prog 29 #[.agg #[.int .i64 k, .int .i64 b, .int .i64 f, .int .i64 r, .int .i64 o], .agg #[.int .i64 n1, .int .i64 d1], .agg #[.int .i64 n2, .int .i64 d2]] w fun e' w' => e' = .returned (.tuple #[.agg #[.int .i64 xDiv, .int .i64 yDiv], .int .i64 zDiv]) ∧ Up w w') := Lib.hid (fun w => by
    have := fixed_Div k b f r o n1 d1 n2 d2 c qDiv eDiv _ HC.out hqDiv rfl w
    rw [hxDiv, hyDiv, hzDiv] at this
    exact this)
  have Href03Div : Hid (∀ w, Calls Try.prog 30 #[.agg #[.int .i64 k, .int .i64 b, .int .i64 f, .int .i64 r, .int .i64 o], .agg #[.int .i64 n1, .int .i64 d1], .agg #[.int .i64 n2, .int .i64 d2]] w fun e' w' => e' = .returned (.tuple #[.agg #[.int .i64 xDiv, .int .i64 yDiv], .int .i64 zDiv]) ∧ Up w w') := Lib.hid (fun w => by
    have := ref03_Div k b f r o n1 d1 n2 d2 c qDiv eDiv _ HC.out hqDiv rfl w
    rw [hxDiv, hyDiv, hzDiv] at this
    exact this)
  clear hqDiv hxDiv hyDiv hzDiv
  obtain ⟨qNeg, eNeg, hqNeg⟩ : ∃ q e : Int, (-n1, 0) = (q, e) := ⟨_, _, rfl⟩
  obtain ⟨xNeg, hxNeg⟩ : ∃ x : Int, apX c2 eNeg (fitN qNeg b o) = x := ⟨_, rfl⟩
  obtain ⟨yNeg, hyNeg⟩ : ∃ x : Int, apD c2 eNeg = x := ⟨_, rfl⟩
  obtain ⟨zNeg, hzNeg⟩ : ∃ x : Int, apE c2 eNeg = x := ⟨_, rfl⟩
  have HfixedNeg : Hid (∀ w, Calls Try.prog 31 #[.agg #[.int .i64 k, .int .i64 b, .int .i64 f, .int .i64 r, .int .i64 o], .agg #[.int .i64 n1, .int .i64 d1]] w fun e' w' => e' = .returned (.tuple #[.agg #[.int .i64 xNeg, .int .i64 yNeg], .int .i64 zNeg]) ∧ Up w w') := Lib.hid (fun w => by
    have := fixed_Neg k b f r o n1 d1 c2 qNeg eNeg _ HC2.out hqNeg rfl w
    rw [hxNeg, hyNeg, hzNeg] at this
    exact this)
  have Href03Neg : Hid (∀ w, Calls Try.prog 32 #[.agg #[.int .i64 k, .int .i64 b, .int .i64 f, .int .i64 r, .int .i64 o], .agg #[.int .i64 n1, .int .i64 d1]] w fun e' w' => e' = .returned (.tuple #[.agg #[.int .i64 xNeg, .int .i64 yNeg], .int .i64 zNeg]) ∧ Up w w') := Lib.hid (fun w => by
    have := ref03_Neg k b f r o n1 d1 c2 qNeg eNeg _ HC2.out hqNeg rfl w
    rw [hxNeg, hyNeg, hzNeg] at this
    exact this)
  clear hqNeg hxNeg hyNeg hzNeg
  go_enter Try.func9, Try.ntmps9
  go_wp2_with fail
  refine (HfixedAdd.out _).mono ?_
  rintro e1 x1 ⟨rfl, hx⟩
  have hsz := hx.size
  try simp at hsz
  have hz1_0 : w.heap.size < x1.heap.size := by omega
  have c1_0_0 : x1.cell? ⟨w.heap.size, 0, none⟩ = some (Value.int .i64 k) := (hx.cell _ _ (by first | omega | (simp; done) | (simp; omega))).trans (by go_simp)
  have c1_0_1 : x1.cell? ⟨w.heap.size, 1, none⟩ = some (Value.int .i64 b) := (hx.cell _ _ (by first | omega | (simp; done) | (simp; omega))).trans (by go_simp)
  have c1_0_2 : x1.cell? ⟨w.heap.size, 2, none⟩ = some (Value.int .i64 f) := (hx.cell _ _ (by first | omega | (simp; done) | (simp; omega))).trans (by go_simp)
  have c1_0_3 : x1.cell? ⟨w.heap.size, 3, none⟩ = some (Value.int .i64 r) := (hx.cell _ _ (by first | omega | (simp; done) | (simp; omega))).trans (by go_simp)
  have c1_0_4 : x1.cell? ⟨w.heap.size, 4, none⟩ = some (Value.int .i64 o) := (hx.cell _ _ (by first | omega | (simp; done) | (simp; omega))).trans (by go_simp)
  have f1_0 : ∀ o, x1.frozen? ⟨w.heap.size, o, none⟩ = false := fun o => (hx.frozen _ _ (by first | omega | (simp; done) | (simp; omega))).trans (by go_simp)
  have hz1_1 : w.heap.size + 1 < x1.heap.size := by omega
  have c1_1_0 : x1.cell? ⟨w.heap.size + 1, 0, none⟩ = some (Value.int .i64 n1) := (hx.cell _ _ (by first | omega | (simp; done) | (simp; omega))).trans (by go_simp)
  have c1_1_1 : x1.cell? ⟨w.heap.size + 1, 1, none⟩ = some (Value.int .i64 d1) := (hx.cell _ _ (by first | omega | (simp; done) | (simp; omega))).trans (by go_simp)
  have f1_1 : ∀ o, x1.frozen? ⟨w.heap.size + 1, o, none⟩ = false := fun o => (hx.frozen _ _ (by first | omega | (simp; done) | (simp; omega))).trans (by go_simp)
  have hz1_2 : w.heap.size + 1 + 1 < x1.heap.size := by omega
  have c1_2_0 : x1.cell? ⟨w.heap.size + 1 + 1, 0, none⟩ = some (Value.int .i64 n2) := (hx.cell _ _ (by first | omega | (simp; done) | (simp; omega))).trans (by go_simp)
  have c1_2_1 : x1.cell? ⟨w.heap.size + 1 + 1, 1, none⟩ = some (Value.int .i64 d2) := (hx.cell _ _ (by first | omega | (simp; done) | (simp; omega))).trans (by go_simp)
  have f1_2 : ∀ o, x1.frozen? ⟨w.heap.size + 1 + 1, o, none⟩ = false := fun o => (hx.frozen _ _ (by first | omega | (simp; done) | (simp; omega))).trans (by go_simp)
  have HU := Lib.hid (Up.trans (by repeat (first | exact Up.refl _ | refine Up.alloc ?_ _)) hx : Up w x1)
  clear hx hsz
  have hne1_0 : (w.heap.size = x1.heap.size) = False := by simp; omega
  have hnf1_0 : (x1.heap.size = w.heap.size) = False := by simp; omega
  have hne1_1 : (w.heap.size + 1 = x1.heap.size) = False := by simp; omega
  have hnf1_1 : (x1.heap.size = w.heap.size + 1) = False := by simp; omega
  have hne1_2 : (w.heap.size + 1 + 1 = x1.heap.size) = False := by simp; omega
  have hnf1_2 : (x1.heap.size = w.heap.size + 1 + 1) = False := by simp; omega
  go_wp2_with fail
  refine (Href03Add.out _).mono ?_
  rintro e2 x2 ⟨rfl, hx⟩
  have hsz := hx.size
  try simp at hsz
  have hz2_0 : w.heap.size < x2.heap.size := by omega
  have c2_0_0 : x2.cell? ⟨w.heap.size, 0, none⟩ = some (Value.int .i64 k) := (hx.cell _ _ (by first | omega | (simp; done) | (simp; omega))).trans (by go_simp)
  have c2_0_1 : x2.cell? ⟨w.heap.size, 1, none⟩ = some (Value.int .i64 b) := (hx.cell _ _ (by first | omega | (simp; done) | (simp; omega))).trans (by go_simp)
  have c2_0_2 : x2.cell? ⟨w.heap.size, 2, none⟩ = some (Value.int .i64 f) := (hx.cell _ _ (by first | omega | (simp; done) | (simp; omega))).trans (by go_simp)
  have c2_0_3 : x2.cell? ⟨w.heap.size, 3, none⟩ = some (Value.int .i64 r) := (hx.cell _ _ (by first | omega | (simp; done) | (simp; omega))).trans (by go_simp)
  have c2_0_4 : x2.cell? ⟨w.heap.size, 4, none⟩ = some (Value.int .i64 o) := (hx.cell _ _ (by first | omega | (simp; done) | (simp; omega))).trans (by go_simp)
  have f2_0 : ∀ o, x2.frozen? ⟨w.heap.size, o, none⟩ = false := fun o => (hx.frozen _ _ (by first | omega | (simp; done) | (simp; omega))).trans (by go_simp)
  have hz2_1 : w.heap.size + 1 < x2.heap.size := by omega
  have c2_1_0 : x2.cell? ⟨w.heap.size + 1, 0, none⟩ = some (Value.int .i64 n1) := (hx.cell _ _ (by first | omega | (simp; done) | (simp; omega))).trans (by go_simp)
  have c2_1_1 : x2.cell? ⟨w.heap.size + 1, 1, none⟩ = some (Value.int .i64 d1) := (hx.cell _ _ (by first | omega | (simp; done) | (simp; omega))).trans (by go_simp)
  have f2_1 : ∀ o, x2.frozen? ⟨w.heap.size + 1, o, none⟩ = false := fun o => (hx.frozen _ _ (by first | omega | (simp; done) | (simp; omega))).trans (by go_simp)
  have hz2_2 : w.heap.size + 1 + 1 < x2.heap.size := by omega
  have c2_2_0 : x2.cell? ⟨w.heap.size + 1 + 1, 0, none⟩ = some (Value.int .i64 n2) := (hx.cell _ _ (by first | omega | (simp; done) | (simp; omega))).trans (by go_simp)
  have c2_2_1 : x2.cell? ⟨w.heap.size + 1 + 1, 1, none⟩ = some (Value.int .i64 d2) := (hx.cell _ _ (by first | omega | (simp; done) | (simp; omega))).trans (by go_simp)
  have f2_2 : ∀ o, x2.frozen? ⟨w.heap.size + 1 + 1, o, none⟩ = false := fun o => (hx.frozen _ _ (by first | omega | (simp; done) | (simp; omega))).trans (by go_simp)
  have hz2_3 : x1.heap.size < x2.heap.size := by omega
  have c2_3_0 : x2.cell? ⟨x1.heap.size, 0, none⟩ = some (Value.int .i64 xAdd) := (hx.cell _ _ (by first | omega | (simp; done) | (simp; omega))).trans (by go_simp)
  have c2_3_1 : x2.cell? ⟨x1.heap.size, 1, none⟩ = some (Value.int .i64 yAdd) := (hx.cell _ _ (by first | omega | (simp; done) | (simp; omega))).trans (by go_simp)
  have f2_3 : ∀ o, x2.frozen? ⟨x1.heap.size, o, none⟩ = false := fun o => (hx.frozen _ _ (by first | omega | (simp; done) | (simp; omega))).trans (by go_simp)
  replace HU := Lib.hid (Up.trans (by repeat (first | exact HU.out | refine Up.setCell ?_ (by first | omega | (simp; done) | (simp; omega)) _ | refine Up.alloc ?_ _)) hx : Up w x2)
  clear c1_0_0 c1_0_1 c1_0_2 c1_0_3 c1_0_4 f1_0 c1_1_0 c1_1_1 f1_1 c1_2_0 c1_2_1 f1_2
  clear hx hsz
  have hne2_0 : (w.heap.size = x2.heap.size) = False := by simp; omega
  have hnf2_0 : (x2.heap.size = w.heap.size) = False := by simp; omega
  have hne2_1 : (w.heap.size + 1 = x2.heap.size) = False := by simp; omega
  have hnf2_1 : (x2.heap.size = w.heap.size + 1) = False := by simp; omega
  have hne2_2 : (w.heap.size + 1 + 1 = x2.heap.size) = False := by simp; omega
  have hnf2_2 : (x2.heap.size = w.heap.size + 1 + 1) = False := by simp; omega
  have hne2_3 : (x1.heap.size = x2.heap.size) = False := by simp; omega
  have hnf2_3 : (x2.heap.size = x1.heap.size) = False := by simp; omega
  go_wp2_with fail
  refine (HfixedSub.out _).mono ?_
  rintro e3 x3 ⟨rfl, hx⟩
  have hsz := hx.size
  try simp at hsz
  have hz3_0 : w.heap.size < x3.heap.size := by omega
  have c3_0_0 : x3.cell? ⟨w.heap.size, 0, none⟩ = some (Value.int .i64 k) := (hx.cell _ _ (by first | omega | (simp; done) | (simp; omega))).trans (by go_simp)
  have c3_0_1 : x3.cell? ⟨w.heap.size, 1, none⟩ = some (Value.int .i64 b) := (hx.cell _ _ (by first | omega | (simp; done) | (simp; omega))).trans (by go_simp)
  have c3_0_2 : x3.cell? ⟨w.heap.size, 2, none⟩ = some (Value.int .i64 f) := (hx.cell _ _ (by first | omega | (simp; done) | (simp; omega))).trans (by go_simp)
  have c3_0_3 : x3.cell? ⟨w.heap.size, 3, none⟩ = some (Value.int .i64 r) := (hx.cell _ _ (by first | omega | (simp; done) | (simp; omega))).trans (by go_simp)
  have c3_0_4 : x3.cell? ⟨w.heap.size, 4, none⟩ = some (Value.int .i64 o) := (hx.cell _ _ (by first | omega | (simp; done) | (simp; omega))).trans (by go_simp)
  have f3_0 : ∀ o, x3.frozen? ⟨w.heap.size, o, none⟩ = false := fun o => (hx.frozen _ _ (by first | omega | (simp; done) | (simp; omega))).trans (by go_simp)
  have hz3_1 : w.heap.size + 1 < x3.heap.size := by omega
  have c3_1_0 : x3.cell? ⟨w.heap.size + 1, 0, none⟩ = some (Value.int .i64 n1) := (hx.cell _ _ (by first | omega | (simp; done) | (simp; omega))).trans (by go_simp)
  have c3_1_1 : x3.cell? ⟨w.heap.size + 1, 1, none⟩ = some (Value.int .i64 d1) := (hx.cell _ _ (by first | omega | (simp; done) | (simp; omega))).trans (by go_simp)
  have f3_1 : ∀ o, x3.frozen? ⟨w.heap.size + 1, o, none⟩ = false := fun o => (hx.frozen _ _ (by first | omega | (simp; done) | (simp; omega))).trans (by go_simp)
  have hz3_2 : w.heap.size + 1 + 1 < x3.heap.size := by omega
  have c3_2_0 : x3.cell? ⟨w.heap.size + 1 + 1, 0, none⟩ = some (Value.int .i64 n2) := (hx.cell _ _ (by first | omega | (simp; done) | (simp; omega))).trans (by go_simp)
  have c3_2_1 : x3.cell? ⟨w.heap.size + 1 + 1, 1, none⟩ = some (Value.int .i64 d2) := (hx.cell _ _ (by first | omega | (simp; done) | (simp; omega))).trans (by go_simp)
  have f3_2 : ∀ o, x3.frozen? ⟨w.heap.size + 1 + 1, o, none⟩ = false := fun o => (hx.frozen _ _ (by first | omega | (simp; done) | (simp; omega))).trans (by go_simp)
  have hz3_3 : x1.heap.size < x3.heap.size := by omega
  have c3_3_0 : x3.cell? ⟨x1.heap.size, 0, none⟩ = some (Value.int .i64 xAdd) := (hx.cell _ _ (by first | omega | (simp; done) | (simp; omega))).trans (by go_simp)
  have c3_3_1 : x3.cell? ⟨x1.heap.size, 1, none⟩ = some (Value.int .i64 yAdd) := (hx.cell _ _ (by first | omega | (simp; done) | (simp; omega))).trans (by go_simp)
  have f3_3 : ∀ o, x3.frozen? ⟨x1.heap.size, o, none⟩ = false := fun o => (hx.frozen _ _ (by first | omega | (simp; done) | (simp; omega))).trans (by go_simp)
  have hz3_4 : x2.heap.size < x3.heap.size := by omega
  have c3_4_0 : x3.cell? ⟨x2.heap.size, 0, none⟩ = some (Value.int .i64 xAdd) := (hx.cell _ _ (by first | omega | (simp; done) | (simp; omega))).trans (by go_simp)
  have c3_4_1 : x3.cell? ⟨x2.heap.size, 1, none⟩ = some (Value.int .i64 yAdd) := (hx.cell _ _ (by first | omega | (simp; done) | (simp; omega))).trans (by go_simp)
  have f3_4 : ∀ o, x3.frozen? ⟨x2.heap.size, o, none⟩ = false := fun o => (hx.frozen _ _ (by first | omega | (simp; done) | (simp; omega))).trans (by go_simp)
  replace HU := Lib.hid (Up.trans (by repeat (first | exact HU.out | refine Up.setCell ?_ (by first | omega | (simp; done) | (simp; omega)) _ | refine Up.alloc ?_ _)) hx : Up w x3)
  clear c2_0_0 c2_0_1 c2_0_2 c2_0_3 c2_0_4 f2_0 c2_1_0 c2_1_1 f2_1 c2_2_0 c2_2_1 f2_2 c2_3_0 c2_3_1 f2_3
  clear hx hsz
  go_wp2_with fail
  refine (Href03Sub.out _).mono ?_
  rintro e4 x4 ⟨rfl, hx⟩
  have hsz := hx.size
  try simp at hsz
  have hz4_0 : w.heap.size < x4.heap.size := by omega
  have c4_0_0 : x4.cell? ⟨w.heap.size, 0, none⟩ = some (Value.int .i64 k) := (hx.cell _ _ (by first | omega | (simp; done) | (simp; omega))).trans (by go_simp)
  have c4_0_1 : x4.cell? ⟨w.heap.size, 1, none⟩ = some (Value.int .i64 b) := (hx.cell _ _ (by first | omega | (simp; done) | (simp; omega))).trans (by go_simp)
  have c4_0_2 : x4.cell? ⟨w.heap.size, 2, none⟩ = some (Value.int .i64 f) := (hx.cell _ _ (by first | omega | (simp; done) | (simp; omega))).trans (by go_simp)
  have c4_0_3 : x4.cell? ⟨w.heap.size, 3, none⟩ = some (Value.int .i64 r) := (hx.cell _ _ (by first | omega | (simp; done) | (simp; omega))).trans (by go_simp)
  have c4_0_4 : x4.cell? ⟨w.heap.size, 4, none⟩ = some (Value.int .i64 o) := (hx.cell _ _ (by first | omega | (simp; done) | (simp; omega))).trans (by go_simp)
  have f4_0 : ∀ o, x4.frozen? ⟨w.heap.size, o, none⟩ = false := fun o => (hx.frozen _ _ (by first | omega | (simp; done) | (simp; omega))).trans (by go_simp)
  have hz4_1 : w.heap.size + 1 < x4.heap.size := by omega
  have c4_1_0 : x4.cell? ⟨w.heap.size + 1, 0, none⟩ = some (Value.int .i64 n1) := (hx.cell _ _ (by first | omega | (simp; done) | (simp; omega))).trans (by go_simp)
  have c4_1_1 : x4.cell? ⟨w.heap.size + 1, 1, none⟩ = some (Value.int .i64 d1) := (hx.cell _ _ (by first | omega | (simp; done) | (simp; omega))).trans (by go_simp)
  have f4_1 : ∀ o, x4.frozen? ⟨w.heap.size + 1, o, none⟩ = false := fun o => (hx.frozen _ _ (by first | omega | (simp; done) | (simp; omega))).trans (by go_simp)
  have hz4_2 : w.heap.size + 1 + 1 < x4.heap.size := by omega
  have c4_2_0 : x4.cell? ⟨w.heap.size + 1 + 1, 0, none⟩ = some (Value.int .i64 n2) := (hx.cell _ _ (by first | omega | (simp; done) | (simp; omega))).trans (by go_simp)
  have c4_2_1 : x4.cell? ⟨w.heap.size + 1 + 1, 1, none⟩ = some (Value.int .i64 d2) := (hx.cell _ _ (by first | omega | (simp; done) | (simp; omega))).trans (by go_simp)
  have f4_2 : ∀ o, x4.frozen? ⟨w.heap.size + 1 + 1, o, none⟩ = false := fun o => (hx.frozen _ _ (by first | omega | (simp; done) | (simp; omega))).trans (by go_simp)
  have hz4_3 : x1.heap.size < x4.heap.size := by omega
  have c4_3_0 : x4.cell? ⟨x1.heap.size, 0, none⟩ = some (Value.int .i64 xSub) := (hx.cell _ _ (by first | omega | (simp; done) | (simp; omega))).trans (by go_simp)
  have c4_3_1 : x4.cell? ⟨x1.heap.size, 1, none⟩ = some (Value.int .i64 ySub) := (hx.cell _ _ (by first | omega | (simp; done) | (simp; omega))).trans (by go_simp)
  have f4_3 : ∀ o, x4.frozen? ⟨x1.heap.size, o, none⟩ = false := fun o => (hx.frozen _ _ (by first | omega | (simp; done) | (simp; omega))).trans (by go_simp)
  have hz4_4 : x2.heap.size < x4.heap.size := by omega
  have c4_4_0 : x4.cell? ⟨x2.heap.size, 0, none⟩ = some (Value.int .i64 xAdd) := (hx.cell _ _ (by first | omega | (simp; done) | (simp; omega))).trans (by go_simp)
  have c4_4_1 : x4.cell? ⟨x2.heap.size, 1, none⟩ = some (Value.int .i64 yAdd) := (hx.cell _ _ (by first | omega | (simp; done) | (simp; omega))).trans (by go_simp)
  have f4_4 : ∀ o, x4.frozen? ⟨x2.heap.size, o, none⟩ = false := fun o => (hx.frozen _ _ (by first | omega | (simp; done) | (simp; omega))).trans (by go_simp)
  replace HU := Lib.hid (Up.trans (by repeat (first | exact HU.out | refine Up.setCell ?_ (by first | omega | (simp; done) | (simp; omega)) _ | refine Up.alloc ?_ _)) hx : Up w x4)
  clear c3_0_0 c3_0_1 c3_0_2 c3_0_3 c3_0_4 f3_0 c3_1_0 c3_1_1 f3_1 c3_2_0 c3_2_1 f3_2 c3_3_0 c3_3_1 f3_3 c3_4_0 c3_4_1 f3_4
  clear hx hsz
  go_wp2_with fail
  refine (HfixedMul.out _).mono ?_
  rintro e5 x5 ⟨rfl, hx⟩
  have hsz := hx.size
  try simp at hsz
  have hz5_0 : w.heap.size < x5.heap.size := by omega
  have c5_0_0 : x5.cell? ⟨w.heap.size, 0, none⟩ = some (Value.int .i64 k) := (hx.cell _ _ (by first | omega | (simp; done) | (simp; omega))).trans (by go_simp)
  have c5_0_1 : x5.cell? ⟨w.heap.size, 1, none⟩ = some (Value.int .i64 b) := (hx.cell _ _ (by first | omega | (simp; done) | (simp; omega))).trans (by go_simp)
  have c5_0_2 : x5.cell? ⟨w.heap.size, 2, none⟩ = some (Value.int .i64 f) := (hx.cell _ _ (by first | omega | (simp; done) | (simp; omega))).trans (by go_simp)
  have c5_0_3 : x5.cell? ⟨w.heap.size, 3, none⟩ = some (Value.int .i64 r) := (hx.cell _ _ (by first | omega | (simp; done) | (simp; omega))).trans (by go_simp)
  have c5_0_4 : x5.cell? ⟨w.heap.size, 4, none⟩ = some (Value.int .i64 o) := (hx.cell _ _ (by first | omega | (simp; done) | (simp; omega))).trans (by go_simp)
  have f5_0 : ∀ o, x5.frozen? ⟨w.heap.size, o, none⟩ = false := fun o => (hx.frozen _ _ (by first | omega | (simp; done) | (simp; omega))).trans (by go_simp)
  have hz5_1 : w.heap.size + 1 < x5.heap.size := by omega
  have c5_1_0 : x5.cell? ⟨w.heap.size + 1, 0, none⟩ = some (Value.int .i64 n1) := (hx.cell _ _ (by first | omega | (simp; done) | (simp; omega))).trans (by go_simp)
  have c5_1_1 : x5.cell? ⟨w.heap.size + 1, 1, none⟩ = some (Value.int .i64 d1) := (hx.cell _ _ (by first | omega | (simp; done) | (simp; omega))).trans (by go_simp)
  have f5_1 : ∀ o, x5.frozen? ⟨w.heap.size + 1, o, none⟩ = false := fun o => (hx.frozen _ _ (by first | omega | (simp; done) | (simp; omega))).trans (by go_simp)
  have hz5_2 : w.heap.size + 1 + 1 < x5.heap.size := by omega
  have c5_2_0 : x5.cell? ⟨w.heap.size + 1 + 1, 0, none⟩ = some (Value.int .i64 n2) := (hx.cell _ _ (by first | omega | (simp; done) | (simp; omega))).trans (by go_simp)
  have c5_2_1 : x5.cell? ⟨w.heap.size + 1 + 1, 1, none⟩ = some (Value.int .i64 d2) := (hx.cell _ _ (by first | omega | (simp; done) | (simp; omega))).trans (by go_simp)
  have f5_2 : ∀ o, x5.frozen? ⟨w.heap.size + 1 + 1, o, none⟩ = false := fun o => (hx.frozen _ _ (by first | omega | (simp; done) | (simp; omega))).trans (by go_simp)
  have hz5_3 : x1.heap.size < x5.heap.size := by omega
  have c5_3_0 : x5.cell? ⟨x1.heap.size, 0, none⟩ = some (Value.int .i64 xSub) := (hx.cell _ _ (by first | omega | (simp; done) | (simp; omega))).trans (by go_simp)
  have c5_3_1 : x5.cell? ⟨x1.heap.size, 1, none⟩ = some (Value.int .i64 ySub) := (hx.cell _ _ (by first | omega | (simp; done) | (simp; omega))).trans (by go_simp)
  have f5_3 : ∀ o, x5.frozen? ⟨x1.heap.size, o, none⟩ = false := fun o => (hx.frozen _ _ (by first | omega | (simp; done) | (simp; omega))).trans (by go_simp)
  have hz5_4 : x2.heap.size < x5.heap.size := by omega
  have c5_4_0 : x5.cell? ⟨x2.heap.size, 0, none⟩ = some (Value.int .i64 xSub) := (hx.cell _ _ (by first | omega | (simp; done) | (simp; omega))).trans (by go_simp)
  have c5_4_1 : x5.cell? ⟨x2.heap.size, 1, none⟩ = some (Value.int .i64 ySub) := (hx.cell _ _ (by first | omega | (simp; done) | (simp; omega))).trans (by go_simp)
  have f5_4 : ∀ o, x5.frozen? ⟨x2.heap.size, o, none⟩ = false := fun o => (hx.frozen _ _ (by first | omega | (simp; done) | (simp; omega))).trans (by go_simp)
  replace HU := Lib.hid (Up.trans (by repeat (first | exact HU.out | refine Up.setCell ?_ (by first | omega | (simp; done) | (simp; omega)) _ | refine Up.alloc ?_ _)) hx : Up w x5)
  clear c4_0_0 c4_0_1 c4_0_2 c4_0_3 c4_0_4 f4_0 c4_1_0 c4_1_1 f4_1 c4_2_0 c4_2_1 f4_2 c4_3_0 c4_3_1 f4_3 c4_4_0 c4_4_1 f4_4
  clear hx hsz
  go_wp2_with fail
  refine (Href03Mul.out _).mono ?_
  rintro e6 x6 ⟨rfl, hx⟩
  have hsz := hx.size
  try simp at hsz
  have hz6_0 : w.heap.size < x6.heap.size := by omega
  have c6_0_0 : x6.cell? ⟨w.heap.size, 0, none⟩ = some (Value.int .i64 k) := (hx.cell _ _ (by first | omega | (simp; done) | (simp; omega))).trans (by go_simp)
  have c6_0_1 : x6.cell? ⟨w.heap.size, 1, none⟩ = some (Value.int .i64 b) := (hx.cell _ _ (by first | omega | (simp; done) | (simp; omega))).trans (by go_simp)
  have c6_0_2 : x6.cell? ⟨w.heap.size, 2, none⟩ = some (Value.int .i64 f) := (hx.cell _ _ (by first | omega | (simp; done) | (simp; omega))).trans (by go_simp)
  have c6_0_3 : x6.cell? ⟨w.heap.size, 3, none⟩ = some (Value.int .i64 r) := (hx.cell _ _ (by first | omega | (simp; done) | (simp; omega))).trans (by go_simp)
  have c6_0_4 : x6.cell? ⟨w.heap.size, 4, none⟩ = some (Value.int .i64 o) := (hx.cell _ _ (by first | omega | (simp; done) | (simp; omega))).trans (by go_simp)
  have f6_0 : ∀ o, x6.frozen? ⟨w.heap.size, o, none⟩ = false := fun o => (hx.frozen _ _ (by first | omega | (simp; done) | (simp; omega))).trans (by go_simp)
  have hz6_1 : w.heap.size + 1 < x6.heap.size := by omega
  have c6_1_0 : x6.cell? ⟨w.heap.size + 1, 0, none⟩ = some (Value.int .i64 n1) := (hx.cell _ _ (by first | omega | (simp; done) | (simp; omega))).trans (by go_simp)
  have c6_1_1 : x6.cell? ⟨w.heap.size + 1, 1, none⟩ = some (Value.int .i64 d1) := (hx.cell _ _ (by first | omega | (simp; done) | (simp; omega))).trans (by go_simp)
  have f6_1 : ∀ o, x6.frozen? ⟨w.heap.size + 1, o, none⟩ = false := fun o => (hx.frozen _ _ (by first | omega | (simp; done) | (simp; omega))).trans (by go_simp)
  have hz6_2 : w.heap.size + 1 + 1 < x6.heap.size := by omega
  have c6_2_0 : x6.cell? ⟨w.heap.size + 1 + 1, 0, none⟩ = some (Value.int .i64 n2) := (hx.cell _ _ (by first | omega | (simp; done) | (simp; omega))).trans (by go_simp)
  have c6_2_1 : x6.cell? ⟨w.heap.size + 1 + 1, 1, none⟩ = some (Value.int .i64 d2) := (hx.cell _ _ (by first | omega | (simp; done) | (simp; omega))).trans (by go_simp)
  have f6_2 : ∀ o, x6.frozen? ⟨w.heap.size + 1 + 1, o, none⟩ = false := fun o => (hx.frozen _ _ (by first | omega | (simp; done) | (simp; omega))).trans (by go_simp)
  have hz6_3 : x1.heap.size < x6.heap.size := by omega
  have c6_3_0 : x6.cell? ⟨x1.heap.size, 0, none⟩ = some (Value.int .i64 xMul) := (hx.cell _ _ (by first | omega | (simp; done) | (simp; omega))).trans (by go_simp)
  have c6_3_1 : x6.cell? ⟨x1.heap.size, 1, none⟩ = some (Value.int .i64 yMul) := (hx.cell _ _ (by first | omega | (simp; done) | (simp; omega))).trans (by go_simp)
  have f6_3 : ∀ o, x6.frozen? ⟨x1.heap.size, o, none⟩ = false := fun o => (hx.frozen _ _ (by first | omega | (simp; done) | (simp; omega))).trans (by go_simp)
  have hz6_4 : x2.heap.size < x6.heap.size := by omega
  have c6_4_0 : x6.cell? ⟨x2.heap.size, 0, none⟩ = some (Value.int .i64 xSub) := (hx.cell _ _ (by first | omega | (simp; done) | (simp; omega))).trans (by go_simp)
  have c6_4_1 : x6.cell? ⟨x2.heap.size, 1, none⟩ = some (Value.int .i64 ySub) := (hx.cell _ _ (by first | omega | (simp; done) | (simp; omega))).trans (by go_simp)
  have f6_4 : ∀ o, x6.frozen? ⟨x2.heap.size, o, none⟩ = false := fun o => (hx.frozen _ _ (by first | omega | (simp; done) | (simp; omega))).trans (by go_simp)
  replace HU := Lib.hid (Up.trans (by repeat (first | exact HU.out | refine Up.setCell ?_ (by first | omega | (simp; done) | (simp; omega)) _ | refine Up.alloc ?_ _)) hx : Up w x6)
  clear c5_0_0 c5_0_1 c5_0_2 c5_0_3 c5_0_4 f5_0 c5_1_0 c5_1_1 f5_1 c5_2_0 c5_2_1 f5_2 c5_3_0 c5_3_1 f5_3 c5_4_0 c5_4_1 f5_4
  clear hx hsz
  go_wp2_with fail
  refine (HfixedDiv.out _).mono ?_
  rintro e7 x7 ⟨rfl, hx⟩
  have hsz := hx.size
  try simp at hsz
  have hz7_0 : w.heap.size < x7.heap.size := by omega
  have c7_0_0 : x7.cell? ⟨w.heap.size, 0, none⟩ = some (Value.int .i64 k) := (hx.cell _ _ (by first | omega | (simp; done) | (simp; omega))).trans (by go_simp)
  have c7_0_1 : x7.cell? ⟨w.heap.size, 1, none⟩ = some (Value.int .i64 b) := (hx.cell _ _ (by first | omega | (simp; done) | (simp; omega))).trans (by go_simp)
  have c7_0_2 : x7.cell? ⟨w.heap.size, 2, none⟩ = some (Value.int .i64 f) := (hx.cell _ _ (by first | omega | (simp; done) | (simp; omega))).trans (by go_simp)
  have c7_0_3 : x7.cell? ⟨w.heap.size, 3, none⟩ = some (Value.int .i64 r) := (hx.cell _ _ (by first | omega | (simp; done) | (simp; omega))).trans (by go_simp)
  have c7_0_4 : x7.cell? ⟨w.heap.size, 4, none⟩ = some (Value.int .i64 o) := (hx.cell _ _ (by first | omega | (simp; done) | (simp; omega))).trans (by go_simp)
  have f7_0 : ∀ o, x7.frozen? ⟨w.heap.size, o, none⟩ = false := fun o => (hx.frozen _ _ (by first | omega | (simp; done) | (simp; omega))).trans (by go_simp)
  have hz7_1 : w.heap.size + 1 < x7.heap.size := by omega
  have c7_1_0 : x7.cell? ⟨w.heap.size + 1, 0, none⟩ = some (Value.int .i64 n1) := (hx.cell _ _ (by first | omega | (simp; done) | (simp; omega))).trans (by go_simp)
  have c7_1_1 : x7.cell? ⟨w.heap.size + 1, 1, none⟩ = some (Value.int .i64 d1) := (hx.cell _ _ (by first | omega | (simp; done) | (simp; omega))).trans (by go_simp)
  have f7_1 : ∀ o, x7.frozen? ⟨w.heap.size + 1, o, none⟩ = false := fun o => (hx.frozen _ _ (by first | omega | (simp; done) | (simp; omega))).trans (by go_simp)
  have hz7_2 : w.heap.size + 1 + 1 < x7.heap.size := by omega
  have c7_2_0 : x7.cell? ⟨w.heap.size + 1 + 1, 0, none⟩ = some (Value.int .i64 n2) := (hx.cell _ _ (by first | omega | (simp; done) | (simp; omega))).trans (by go_simp)
  have c7_2_1 : x7.cell? ⟨w.heap.size + 1 + 1, 1, none⟩ = some (Value.int .i64 d2) := (hx.cell _ _ (by first | omega | (simp; done) | (simp; omega))).trans (by go_simp)
  have f7_2 : ∀ o, x7.frozen? ⟨w.heap.size + 1 + 1, o, none⟩ = false := fun o => (hx.frozen _ _ (by first | omega | (simp; done) | (simp; omega))).trans (by go_simp)
  have hz7_3 : x1.heap.size < x7.heap.size := by omega
  have c7_3_0 : x7.cell? ⟨x1.heap.size, 0, none⟩ = some (Value.int .i64 xMul) := (hx.cell _ _ (by first | omega | (simp; done) | (simp; omega))).trans (by go_simp)
  have c7_3_1 : x7.cell? ⟨x1.heap.size, 1, none⟩ = some (Value.int .i64 yMul) := (hx.cell _ _ (by first | omega | (simp; done) | (simp; omega))).trans (by go_simp)
  have f7_3 : ∀ o, x7.frozen? ⟨x1.heap.size, o, none⟩ = false := fun o => (hx.frozen _ _ (by first | omega | (simp; done) | (simp; omega))).trans (by go_simp)
  have hz7_4 : x2.heap.size < x7.heap.size := by omega
  have c7_4_0 : x7.cell? ⟨x2.heap.size, 0, none⟩ = some (Value.int .i64 xMul) := (hx.cell _ _ (by first | omega | (simp; done) | (simp; omega))).trans (by go_simp)
  have c7_4_1 : x7.cell? ⟨x2.heap.size, 1, none⟩ = some (Value.int .i64 yMul) := (hx.cell _ _ (by first | omega | (simp; done) | (simp; omega))).trans (by go_simp)
  have f7_4 : ∀ o, x7.frozen? ⟨x2.heap.size, o, none⟩ = false := fun o => (hx.frozen _ _ (by first | omega | (simp; done) | (simp; omega))).trans (by go_simp)
  replace HU := Lib.hid (Up.trans (by repeat (first | exact HU.out | refine Up.setCell ?_ (by first | omega | (simp; done) | (simp; omega)) _ | refine Up.alloc ?_ _)) hx : Up w x7)
  clear c6_0_0 c6_0_1 c6_0_2 c6_0_3 c6_0_4 f6_0 c6_1_0 c6_1_1 f6_1 c6_2_0 c6_2_1 f6_2 c6_3_0 c6_3_1 f6_3 c6_4_0 c6_4_1 f6_4
  clear hx hsz
  go_wp2_with fail
  refine (Href03Div.out _).mono ?_
  rintro e8 x8 ⟨rfl, hx⟩
  have hsz := hx.size
  try simp at hsz
  have hz8_0 : w.heap.size < x8.heap.size := by omega
  have c8_0_0 : x8.cell? ⟨w.heap.size, 0, none⟩ = some (Value.int .i64 k) := (hx.cell _ _ (by first | omega | (simp; done) | (simp; omega))).trans (by go_simp)
  have c8_0_1 : x8.cell? ⟨w.heap.size, 1, none⟩ = some (Value.int .i64 b) := (hx.cell _ _ (by first | omega | (simp; done) | (simp; omega))).trans (by go_simp)
  have c8_0_2 : x8.cell? ⟨w.heap.size, 2, none⟩ = some (Value.int .i64 f) := (hx.cell _ _ (by first | omega | (simp; done) | (simp; omega))).trans (by go_simp)
  have c8_0_3 : x8.cell? ⟨w.heap.size, 3, none⟩ = some (Value.int .i64 r) := (hx.cell _ _ (by first | omega | (simp; done) | (simp; omega))).trans (by go_simp)
  have c8_0_4 : x8.cell? ⟨w.heap.size, 4, none⟩ = some (Value.int .i64 o) := (hx.cell _ _ (by first | omega | (simp; done) | (simp; omega))).trans (by go_simp)
  have f8_0 : ∀ o, x8.frozen? ⟨w.heap.size, o, none⟩ = false := fun o => (hx.frozen _ _ (by first | omega | (simp; done) | (simp; omega))).trans (by go_simp)
  have hz8_1 : w.heap.size + 1 < x8.heap.size := by omega
  have c8_1_0 : x8.cell? ⟨w.heap.size + 1, 0, none⟩ = some (Value.int .i64 n1) := (hx.cell _ _ (by first | omega | (simp; done) | (simp; omega))).trans (by go_simp)
  have c8_1_1 : x8.cell? ⟨w.heap.size + 1, 1, none⟩ = some (Value.int .i64 d1) := (hx.cell _ _ (by first | omega | (simp; done) | (simp; omega))).trans (by go_simp)
  have f8_1 : ∀ o, x8.frozen? ⟨w.heap.size + 1, o, none⟩ = false := fun o => (hx.frozen _ _ (by first | omega | (simp; done) | (simp; omega))).trans (by go_simp)
  have hz8_2 : w.heap.size + 1 + 1 < x8.heap.size := by omega
  have c8_2_0 : x8.cell? ⟨w.heap.size + 1 + 1, 0, none⟩ = some (Value.int .i64 n2) := (hx.cell _ _ (by first | omega | (simp; done) | (simp; omega))).trans (by go_simp)
  have c8_2_1 : x8.cell? ⟨w.heap.size + 1 + 1, 1, none⟩ = some (Value.int .i64 d2) := (hx.cell _ _ (by first | omega | (simp; done) | (simp; omega))).trans (by go_simp)
  have f8_2 : ∀ o, x8.frozen? ⟨w.heap.size + 1 + 1, o, none⟩ = false := fun o => (hx.frozen _ _ (by first | omega | (simp; done) | (simp; omega))).trans (by go_simp)
  have hz8_3 : x1.heap.size < x8.heap.size := by omega
  have c8_3_0 : x8.cell? ⟨x1.heap.size, 0, none⟩ = some (Value.int .i64 xDiv) := (hx.cell _ _ (by first | omega | (simp; done) | (simp; omega))).trans (by go_simp)
  have c8_3_1 : x8.cell? ⟨x1.heap.size, 1, none⟩ = some (Value.int .i64 yDiv) := (hx.cell _ _ (by first | omega | (simp; done) | (simp; omega))).trans (by go_simp)
  have f8_3 : ∀ o, x8.frozen? ⟨x1.heap.size, o, none⟩ = false := fun o => (hx.frozen _ _ (by first | omega | (simp; done) | (simp; omega))).trans (by go_simp)
  have hz8_4 : x2.heap.size < x8.heap.size := by omega
  have c8_4_0 : x8.cell? ⟨x2.heap.size, 0, none⟩ = some (Value.int .i64 xMul) := (hx.cell _ _ (by first | omega | (simp; done) | (simp; omega))).trans (by go_simp)
  have c8_4_1 : x8.cell? ⟨x2.heap.size, 1, none⟩ = some (Value.int .i64 yMul) := (hx.cell _ _ (by first | omega | (simp; done) | (simp; omega))).trans (by go_simp)
  have f8_4 : ∀ o, x8.frozen? ⟨x2.heap.size, o, none⟩ = false := fun o => (hx.frozen _ _ (by first | omega | (simp; done) | (simp; omega))).trans (by go_simp)
  replace HU := Lib.hid (Up.trans (by repeat (first | exact HU.out | refine Up.setCell ?_ (by first | omega | (simp; done) | (simp; omega)) _ | refine Up.alloc ?_ _)) hx : Up w x8)
  clear c7_0_0 c7_0_1 c7_0_2 c7_0_3 c7_0_4 f7_0 c7_1_0 c7_1_1 f7_1 c7_2_0 c7_2_1 f7_2 c7_3_0 c7_3_1 f7_3 c7_4_0 c7_4_1 f7_4
  clear hx hsz
  go_wp2_with fail
  refine (HfixedNeg.out _).mono ?_
  rintro e9 x9 ⟨rfl, hx⟩
  have hsz := hx.size
  try simp at hsz
  have hz9_0 : w.heap.size < x9.heap.size := by omega
  have c9_0_0 : x9.cell? ⟨w.heap.size, 0, none⟩ = some (Value.int .i64 k) := (hx.cell _ _ (by first | omega | (simp; done) | (simp; omega))).trans (by go_simp)
  have c9_0_1 : x9.cell? ⟨w.heap.size, 1, none⟩ = some (Value.int .i64 b) := (hx.cell _ _ (by first | omega | (simp; done) | (simp; omega))).trans (by go_simp)
  have c9_0_2 : x9.cell? ⟨w.heap.size, 2, none⟩ = some (Value.int .i64 f) := (hx.cell _ _ (by first | omega | (simp; done) | (simp; omega))).trans (by go_simp)
  have c9_0_3 : x9.cell? ⟨w.heap.size, 3, none⟩ = some (Value.int .i64 r) := (hx.cell _ _ (by first | omega | (simp; done) | (simp; omega))).trans (by go_simp)
  have c9_0_4 : x9.cell? ⟨w.heap.size, 4, none⟩ = some (Value.int .i64 o) := (hx.cell _ _ (by first | omega | (simp; done) | (simp; omega))).trans (by go_simp)
  have f9_0 : ∀ o, x9.frozen? ⟨w.heap.size, o, none⟩ = false := fun o => (hx.frozen _ _ (by first | omega | (simp; done) | (simp; omega))).trans (by go_simp)
  have hz9_1 : w.heap.size + 1 < x9.heap.size := by omega
  have c9_1_0 : x9.cell? ⟨w.heap.size + 1, 0, none⟩ = some (Value.int .i64 n1) := (hx.cell _ _ (by first | omega | (simp; done) | (simp; omega))).trans (by go_simp)
  have c9_1_1 : x9.cell? ⟨w.heap.size + 1, 1, none⟩ = some (Value.int .i64 d1) := (hx.cell _ _ (by first | omega | (simp; done) | (simp; omega))).trans (by go_simp)
  have f9_1 : ∀ o, x9.frozen? ⟨w.heap.size + 1, o, none⟩ = false := fun o => (hx.frozen _ _ (by first | omega | (simp; done) | (simp; omega))).trans (by go_simp)
  have hz9_2 : w.heap.size + 1 + 1 < x9.heap.size := by omega
  have c9_2_0 : x9.cell? ⟨w.heap.size + 1 + 1, 0, none⟩ = some (Value.int .i64 n2) := (hx.cell _ _ (by first | omega | (simp; done) | (simp; omega))).trans (by go_simp)
  have c9_2_1 : x9.cell? ⟨w.heap.size + 1 + 1, 1, none⟩ = some (Value.int .i64 d2) := (hx.cell _ _ (by first | omega | (simp; done) | (simp; omega))).trans (by go_simp)
  have f9_2 : ∀ o, x9.frozen? ⟨w.heap.size + 1 + 1, o, none⟩ = false := fun o => (hx.frozen _ _ (by first | omega | (simp; done) | (simp; omega))).trans (by go_simp)
  have hz9_3 : x1.heap.size < x9.heap.size := by omega
  have c9_3_0 : x9.cell? ⟨x1.heap.size, 0, none⟩ = some (Value.int .i64 xDiv) := (hx.cell _ _ (by first | omega | (simp; done) | (simp; omega))).trans (by go_simp)
  have c9_3_1 : x9.cell? ⟨x1.heap.size, 1, none⟩ = some (Value.int .i64 yDiv) := (hx.cell _ _ (by first | omega | (simp; done) | (simp; omega))).trans (by go_simp)
  have f9_3 : ∀ o, x9.frozen? ⟨x1.heap.size, o, none⟩ = false := fun o => (hx.frozen _ _ (by first | omega | (simp; done) | (simp; omega))).trans (by go_simp)
  have hz9_4 : x2.heap.size < x9.heap.size := by omega
  have c9_4_0 : x9.cell? ⟨x2.heap.size, 0, none⟩ = some (Value.int .i64 xDiv) := (hx.cell _ _ (by first | omega | (simp; done) | (simp; omega))).trans (by go_simp)
  have c9_4_1 : x9.cell? ⟨x2.heap.size, 1, none⟩ = some (Value.int .i64 yDiv) := (hx.cell _ _ (by first | omega | (simp; done) | (simp; omega))).trans (by go_simp)
  have f9_4 : ∀ o, x9.frozen? ⟨x2.heap.size, o, none⟩ = false := fun o => (hx.frozen _ _ (by first | omega | (simp; done) | (simp; omega))).trans (by go_simp)
  replace HU := Lib.hid (Up.trans (by repeat (first | exact HU.out | refine Up.setCell ?_ (by first | omega | (simp; done) | (simp; omega)) _ | refine Up.alloc ?_ _)) hx : Up w x9)
  clear c8_0_0 c8_0_1 c8_0_2 c8_0_3 c8_0_4 f8_0 c8_1_0 c8_1_1 f8_1 c8_2_0 c8_2_1 f8_2 c8_3_0 c8_3_1 f8_3 c8_4_0 c8_4_1 f8_4
  clear hx hsz
  go_wp2_with fail
  refine (Href03Neg.out _).mono ?_
  rintro e10 x10 ⟨rfl, hx⟩
  have hsz := hx.size
  try simp at hsz
  have hz10_0 : w.heap.size < x10.heap.size := by omega
  have c10_0_0 : x10.cell? ⟨w.heap.size, 0, none⟩ = some (Value.int .i64 k) := (hx.cell _ _ (by first | omega | (simp; done) | (simp; omega))).trans (by go_simp)
  have c10_0_1 : x10.cell? ⟨w.heap.size, 1, none⟩ = some (Value.int .i64 b) := (hx.cell _ _ (by first | omega | (simp; done) | (simp; omega))).trans (by go_simp)
  have c10_0_2 : x10.cell? ⟨w.heap.size, 2, none⟩ = some (Value.int .i64 f) := (hx.cell _ _ (by first | omega | (simp; done) | (simp; omega))).trans (by go_simp)
  have c10_0_3 : x10.cell? ⟨w.heap.size, 3, none⟩ = some (Value.int .i64 r) := (hx.cell _ _ (by first | omega | (simp; done) | (simp; omega))).trans (by go_simp)
  have c10_0_4 : x10.cell? ⟨w.heap.size, 4, none⟩ = some (Value.int .i64 o) := (hx.cell _ _ (by first | omega | (simp; done) | (simp; omega))).trans (by go_simp)
  have f10_0 : ∀ o, x10.frozen? ⟨w.heap.size, o, none⟩ = false := fun o => (hx.frozen _ _ (by first | omega | (simp; done) | (simp; omega))).trans (by go_simp)
  have hz10_1 : w.heap.size + 1 < x10.heap.size := by omega
  have c10_1_0 : x10.cell? ⟨w.heap.size + 1, 0, none⟩ = some (Value.int .i64 n1) := (hx.cell _ _ (by first | omega | (simp; done) | (simp; omega))).trans (by go_simp)
  have c10_1_1 : x10.cell? ⟨w.heap.size + 1, 1, none⟩ = some (Value.int .i64 d1) := (hx.cell _ _ (by first | omega | (simp; done) | (simp; omega))).trans (by go_simp)
  have f10_1 : ∀ o, x10.frozen? ⟨w.heap.size + 1, o, none⟩ = false := fun o => (hx.frozen _ _ (by first | omega | (simp; done) | (simp; omega))).trans (by go_simp)
  have hz10_2 : w.heap.size + 1 + 1 < x10.heap.size := by omega
  have c10_2_0 : x10.cell? ⟨w.heap.size + 1 + 1, 0, none⟩ = some (Value.int .i64 n2) := (hx.cell _ _ (by first | omega | (simp; done) | (simp; omega))).trans (by go_simp)
  have c10_2_1 : x10.cell? ⟨w.heap.size + 1 + 1, 1, none⟩ = some (Value.int .i64 d2) := (hx.cell _ _ (by first | omega | (simp; done) | (simp; omega))).trans (by go_simp)
  have f10_2 : ∀ o, x10.frozen? ⟨w.heap.size + 1 + 1, o, none⟩ = false := fun o => (hx.frozen _ _ (by first | omega | (simp; done) | (simp; omega))).trans (by go_simp)
  have hz10_3 : x1.heap.size < x10.heap.size := by omega
  have c10_3_0 : x10.cell? ⟨x1.heap.size, 0, none⟩ = some (Value.int .i64 xNeg) := (hx.cell _ _ (by first | omega | (simp; done) | (simp; omega))).trans (by go_simp)
  have c10_3_1 : x10.cell? ⟨x1.heap.size, 1, none⟩ = some (Value.int .i64 yNeg) := (hx.cell _ _ (by first | omega | (simp; done) | (simp; omega))).trans (by go_simp)
  have f10_3 : ∀ o, x10.frozen? ⟨x1.heap.size, o, none⟩ = false := fun o => (hx.frozen _ _ (by first | omega | (simp; done) | (simp; omega))).trans (by go_simp)
  have hz10_4 : x2.heap.size < x10.heap.size := by omega
  have c10_4_0 : x10.cell? ⟨x2.heap.size, 0, none⟩ = some (Value.int .i64 xDiv) := (hx.cell _ _ (by first | omega | (simp; done) | (simp; omega))).trans (by go_simp)
  have c10_4_1 : x10.cell? ⟨x2.heap.size, 1, none⟩ = some (Value.int .i64 yDiv) := (hx.cell _ _ (by first | omega | (simp; done) | (simp; omega))).trans (by go_simp)
  have f10_4 : ∀ o, x10.frozen? ⟨x2.heap.size, o, none⟩ = false := fun o => (hx.frozen _ _ (by first | omega | (simp; done) | (simp; omega))).trans (by go_simp)
  replace HU := Lib.hid (Up.trans (by repeat (first | exact HU.out | refine Up.setCell ?_ (by first | omega | (simp; done) | (simp; omega)) _ | refine Up.alloc ?_ _)) hx : Up w x10)
  clear c9_0_0 c9_0_1 c9_0_2 c9_0_3 c9_0_4 f9_0 c9_1_0 c9_1_1 f9_1 c9_2_0 c9_2_1 f9_2 c9_3_0 c9_3_1 f9_3 c9_4_0 c9_4_1 f9_4
  clear hx hsz
  go_wp2_with fail
  refine (law03_examples _).mono ?_
  rintro e11 x11 ⟨rfl, hx⟩
  have hsz := hx.size
  try simp at hsz
  have hz11_0 : w.heap.size < x11.heap.size := by omega
  have c11_0_0 : x11.cell? ⟨w.heap.size, 0, none⟩ = some (Value.int .i64 k) := (hx.cell _ _ (by first | omega | (simp; done) | (simp; omega))).trans (by go_simp)
  have c11_0_1 : x11.cell? ⟨w.heap.size, 1, none⟩ = some (Value.int .i64 b) := (hx.cell _ _ (by first | omega | (simp; done) | (simp; omega))).trans (by go_simp)
  have c11_0_2 : x11.cell? ⟨w.heap.size, 2, none⟩ = some (Value.int .i64 f) := (hx.cell _ _ (by first | omega | (simp; done) | (simp; omega))).trans (by go_simp)
  have c11_0_3 : x11.cell? ⟨w.heap.size, 3, none⟩ = some (Value.int .i64 r) := (hx.cell _ _ (by first | omega | (simp; done) | (simp; omega))).trans (by go_simp)
  have c11_0_4 : x11.cell? ⟨w.heap.size, 4, none⟩ = some (Value.int .i64 o) := (hx.cell _ _ (by first | omega | (simp; done) | (simp; omega))).trans (by go_simp)
  have f11_0 : ∀ o, x11.frozen? ⟨w.heap.size, o, none⟩ = false := fun o => (hx.frozen _ _ (by first | omega | (simp; done) | (simp; omega))).trans (by go_simp)
  have hz11_1 : w.heap.size + 1 < x11.heap.size := by omega
  have c11_1_0 : x11.cell? ⟨w.heap.size + 1, 0, none⟩ = some (Value.int .i64 n1) := (hx.cell _ _ (by first | omega | (simp; done) | (simp; omega))).trans (by go_simp)
  have c11_1_1 : x11.cell? ⟨w.heap.size + 1, 1, none⟩ = some (Value.int .i64 d1) := (hx.cell _ _ (by first | omega | (simp; done) | (simp; omega))).trans (by go_simp)
  have f11_1 : ∀ o, x11.frozen? ⟨w.heap.size + 1, o, none⟩ = false := fun o => (hx.frozen _ _ (by first | omega | (simp; done) | (simp; omega))).trans (by go_simp)
  have hz11_2 : w.heap.size + 1 + 1 < x11.heap.size := by omega
  have c11_2_0 : x11.cell? ⟨w.heap.size + 1 + 1, 0, none⟩ = some (Value.int .i64 n2) := (hx.cell _ _ (by first | omega | (simp; done) | (simp; omega))).trans (by go_simp)
  have c11_2_1 : x11.cell? ⟨w.heap.size + 1 + 1, 1, none⟩ = some (Value.int .i64 d2) := (hx.cell _ _ (by first | omega | (simp; done) | (simp; omega))).trans (by go_simp)
  have f11_2 : ∀ o, x11.frozen? ⟨w.heap.size + 1 + 1, o, none⟩ = false := fun o => (hx.frozen _ _ (by first | omega | (simp; done) | (simp; omega))).trans (by go_simp)
  have hz11_3 : x1.heap.size < x11.heap.size := by omega
  have c11_3_0 : x11.cell? ⟨x1.heap.size, 0, none⟩ = some (Value.int .i64 xNeg) := (hx.cell _ _ (by first | omega | (simp; done) | (simp; omega))).trans (by go_simp)
  have c11_3_1 : x11.cell? ⟨x1.heap.size, 1, none⟩ = some (Value.int .i64 yNeg) := (hx.cell _ _ (by first | omega | (simp; done) | (simp; omega))).trans (by go_simp)
  have f11_3 : ∀ o, x11.frozen? ⟨x1.heap.size, o, none⟩ = false := fun o => (hx.frozen _ _ (by first | omega | (simp; done) | (simp; omega))).trans (by go_simp)
  have hz11_4 : x2.heap.size < x11.heap.size := by omega
  have c11_4_0 : x11.cell? ⟨x2.heap.size, 0, none⟩ = some (Value.int .i64 xNeg) := (hx.cell _ _ (by first | omega | (simp; done) | (simp; omega))).trans (by go_simp)
  have c11_4_1 : x11.cell? ⟨x2.heap.size, 1, none⟩ = some (Value.int .i64 yNeg) := (hx.cell _ _ (by first | omega | (simp; done) | (simp; omega))).trans (by go_simp)
  have f11_4 : ∀ o, x11.frozen? ⟨x2.heap.size, o, none⟩ = false := fun o => (hx.frozen _ _ (by first | omega | (simp; done) | (simp; omega))).trans (by go_simp)
  replace HU := Lib.hid (Up.trans (by repeat (first | exact HU.out | refine Up.setCell ?_ (by first | omega | (simp; done) | (simp; omega)) _ | refine Up.alloc ?_ _)) hx : Up w x11)
  clear c10_0_0 c10_0_1 c10_0_2 c10_0_3 c10_0_4 f10_0 c10_1_0 c10_1_1 f10_1 c10_2_0 c10_2_1 f10_2 c10_3_0 c10_3_1 f10_3 c10_4_0 c10_4_1 f10_4
  clear hx hsz
  go_wp2
  go_ret
  exact ⟨rfl, (by repeat (first | exact HU.out | refine Up.drewN _ ?_ | refine Up.setCell ?_ (by first | omega | (simp; done) | (simp; omega)) _ | refine Up.alloc ?_ _))⟩

end Go.Proofs.Ytknojjmbhbbcmaa.fixedArithmetic
