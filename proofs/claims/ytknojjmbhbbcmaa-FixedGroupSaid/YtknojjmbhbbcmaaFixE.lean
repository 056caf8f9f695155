/-
  Contracts of chapter 3: the operations, the program's side. Printed by mk03e.py.
-/
import Derived.Test.YtknojjmbhbbcmaaFixD
namespace Go.Proofs.Ytknojjmbhbbcmaa
open Go.ChangeShapes Go.WideShapes Go.ChangeAt Go.RowKit
set_option linter.unusedVariables false
set_option linter.unusedSimpArgs false

theorem two_vals (W : World) (t : TypeId) (n1 d1 n2 d2 : Int) (H : Nat) (hH : W.heap.size = H) : SlAt (W.alloc (.cells #[.int .i64 n1, .int .i64 d1, .int .i64 n2, .int .i64 d2] t)) (.slice (some ⟨H, 0, none⟩) 2 2) 2 2 (valF [(n1, d1), (n2, d2)]) := by
  subst hH
  refine ⟨⟨some ⟨W.heap.size, 0, none⟩, 2, rfl, (fun e => nomatch e), fun x hx _ => ?_⟩, by decide⟩
  cases hx
  refine ⟨rfl, by simp, fun i j hi hj => ?_⟩
  rw [cell_of_row _ _ _ _ _ _ (heap_alloc_new W _)]
  rcases (by omega : i = 0 ∨ i = 1) with rfl | rfl <;> rcases (by omega : j = 0 ∨ j = 1) with rfl | rfl <;> rfl
theorem one_val (W : World) (t : TypeId) (n1 d1 : Int) (H : Nat) (hH : W.heap.size = H) : SlAt (W.alloc (.cells #[.int .i64 n1, .int .i64 d1] t)) (.slice (some ⟨H, 0, none⟩) 1 1) 1 2 (valF [(n1, d1)]) := by
  subst hH
  refine ⟨⟨some ⟨W.heap.size, 0, none⟩, 1, rfl, (fun e => nomatch e), fun x hx _ => ?_⟩, by decide⟩
  cases hx
  refine ⟨rfl, by simp, fun i j hi hj => ?_⟩
  rw [cell_of_row _ _ _ _ _ _ (heap_alloc_new W _)]
  obtain rfl : i = 0 := by omega
  rcases (by omega : j = 0 ∨ j = 1) with rfl | rfl <;> rfl

theorem chk_zero {k b f r o : Int} {l : List (Int × Int)} (h : chkE k b f r o l = 0) : vT k b f r o = true ∧ ∀ v ∈ l, vV b v.1 v.2 = true := by
  unfold chkE at h
  split at h
  · omega
  · rename_i h1
    split at h
    · rename_i h2; exact ⟨by simpa using h1, List.all_eq_true.1 h2⟩
    · omega
theorem vV_spec {b n d : Int} (hb : 2 ≤ b) (hb2 : b ≤ 31) (h : vV b n d = true) : d = 1 ∧ -1073741824 ≤ n ∧ n ≤ 1073741823 := by
  have hp := pow_bd b hb hb2
  have := of_decide_eq_true h
  omega

def apX (c e m : Int) : Int := if c ≠ 0 ∨ e ≠ 0 then 0 else m
def apD (c e : Int) : Int := if c ≠ 0 ∨ e ≠ 0 then 0 else 1
def apE (c e : Int) : Int := if c ≠ 0 then c else e

set_option maxHeartbeats 4000000 in
theorem fixed_apply_Add (k b f r o n1 d1 n2 d2 c q e m : Int) (hc : chkE k b f r o [(n1, d1), (n2, d2)] = c) (hF : c = 0 → (∀ w, Calls Try.prog 43 #[.agg #[.int .i64 k, .int .i64 b, .int .i64 f, .int .i64 r, .int .i64 o], .int .i64 n1, .int .i64 n2] w fun e' w' => e' = .returned (.tuple #[.int .i64 q, .int .i64 e]) ∧ Up w w') ∧ -4611686018427387904 ≤ q ∧ q ≤ 4611686018427387904) (hm : fitN q b o = m) (w : World) :
    Calls Try.prog 42 #[.agg #[.func (.func 43) #[] #[]], .agg #[.int .i64 k, .int .i64 b, .int .i64 f, .int .i64 r, .int .i64 o], .agg #[.int .i64 n1, .int .i64 d1], .agg #[.int .i64 n2, .int .i64 d2]] w fun e' w' => e' = .returned (.tuple #[.agg #[.int .i64 (apX c e m), .int .i64 (apD c e)], .int .i64 (apE c e)]) ∧ Up w w' := by
  have HC := Lib.hid hc
  have HM := Lib.hid hm
  clear hc hm
  by_cases h0 : c = 0
  · obtain ⟨hF1, q1, q2⟩ := hF h0
    have HF := Lib.hid hF1
    clear hF hF1
    subst h0
    by_cases he : e = 0
    · subst he
      have hx : apX 0 0 m = m ∧ apD 0 0 = 1 ∧ apE 0 0 = 0 := by simp [apX, apD, apE]
      rw [hx.1, hx.2.1, hx.2.2]
      clear hx
      go_enter Try.func42, Try.ntmps42
      go_wp2_with fail
      refine (fixed_check _ _ _ _ _ [(n1, d1), (n2, d2)] _ _ HC.out (by simp) _ (two_vals _ _ _ _ _ _ _ (by simp))).mono ?_
      rintro e1 x1 ⟨rfl, hW⟩
      obtain ⟨hc, hf⟩ := hW.both
      have HW := Lib.hid hW
      clear hW
      go_wp2_with fail
      refine (HF.out _).mono ?_
      rintro e2 x2 ⟨rfl, hx⟩
      replace HW := Lib.hid (HW.out.trans hx)
      clear hc hf hx
      obtain ⟨hc, hf⟩ := HW.out.both
      go_wp2_with fail
      refine (fixed_narrow _ _ _ _ _ _ _ HM.out (by omega) (by omega) _).mono ?_
      rintro e3 x3 ⟨rfl, hx⟩
      replace HW := Lib.hid (HW.out.trans hx)
      clear hc hf hx
      obtain ⟨hc, hf⟩ := HW.out.both
      go_wp2
      exact bodyPost_ret (v := .tuple #[.agg #[.int .i64 m, .int .i64 1], .int .i64 0]) (by simp [results, Try.results42, go_sem, *]) rfl ⟨rfl, (by repeat (first | exact Up.trans (by repeat (first | exact Up.refl _ | refine Up.alloc ?_ _)) HW.out | refine Up.setCell ?_ (by first | omega | (simp; done) | (simp; omega)) _ | refine Up.alloc ?_ _))⟩
    · have hx : apX 0 e m = 0 ∧ apD 0 e = 0 ∧ apE 0 e = e := by simp [apX, apD, apE, he]
      rw [hx.1, hx.2.1, hx.2.2]
      have he1 : (e == 0) = false := by simpa using he
      have he2 : (e != 0) = true := by simpa using he
      clear hx
      go_enter Try.func42, Try.ntmps42
      go_wp2_with fail
      refine (fixed_check _ _ _ _ _ [(n1, d1), (n2, d2)] _ _ HC.out (by simp) _ (two_vals _ _ _ _ _ _ _ (by simp))).mono ?_
      rintro e1 x1 ⟨rfl, hW⟩
      obtain ⟨hc, hf⟩ := hW.both
      have HW := Lib.hid hW
      clear hW
      go_wp2_with fail
      refine (HF.out _).mono ?_
      rintro e2 x2 ⟨rfl, hx⟩
      replace HW := Lib.hid (HW.out.trans hx)
      clear hc hf hx
      obtain ⟨hc, hf⟩ := HW.out.both
      go_wp2
      exact bodyPost_ret (v := .tuple #[.agg #[.int .i64 0, .int .i64 0], .int .i64 e]) (by simp [results, Try.results42, go_sem, *]) rfl ⟨rfl, (by repeat (first | exact Up.trans (by repeat (first | exact Up.refl _ | refine Up.alloc ?_ _)) HW.out | refine Up.setCell ?_ (by first | omega | (simp; done) | (simp; omega)) _ | refine Up.alloc ?_ _))⟩
  · have hx : apX c e m = 0 ∧ apD c e = 0 ∧ apE c e = c := by simp [apX, apD, apE, h0]
    rw [hx.1, hx.2.1, hx.2.2]
    have he1 : (c == 0) = false := by simpa using h0
    have he2 : (c != 0) = true := by simpa using h0
    clear hx hF
    go_enter Try.func42, Try.ntmps42
    go_wp2_with fail
    refine (fixed_check _ _ _ _ _ [(n1, d1), (n2, d2)] _ _ HC.out (by simp) _ (two_vals _ _ _ _ _ _ _ (by simp))).mono ?_
    rintro e1 x1 ⟨rfl, hW⟩
    obtain ⟨hc, hf⟩ := hW.both
    have HW := Lib.hid hW
    clear hW
    go_wp2
    exact bodyPost_ret (v := .tuple #[.agg #[.int .i64 0, .int .i64 0], .int .i64 c]) (by simp [results, Try.results42, go_sem, *]) rfl ⟨rfl, (by repeat (first | exact Up.trans (by repeat (first | exact Up.refl _ | refine Up.alloc ?_ _)) HW.out | refine Up.setCell ?_ (by first | omega | (simp; done) | (simp; omega)) _ | refine Up.alloc ?_ _))⟩

set_option maxHeartbeats 4000000 in
theorem fixed_apply_Sub (k b f r o n1 d1 n2 d2 c q e m : Int) (hc : chkE k b f r o [(n1, d1), (n2, d2)] = c) (hF : c = 0 → (∀ w, Calls Try.prog 46 #[.agg #[.int .i64 k, .int .i64 b, .int .i64 f, .int .i64 r, .int .i64 o], .int .i64 n1, .int .i64 n2] w fun e' w' => e' = .returned (.tuple #[.int .i64 q, .int .i64 e]) ∧ Up w w') ∧ -4611686018427387904 ≤ q ∧ q ≤ 4611686018427387904) (hm : fitN q b o = m) (w : World) :
    Calls Try.prog 42 #[.agg #[.func (.func 46) #[] #[]], .agg #[.int .i64 k, .int .i64 b, .int .i64 f, .int .i64 r, .int .i64 o], .agg #[.int .i64 n1, .int .i64 d1], .agg #[.int .i64 n2, .int .i64 d2]] w fun e' w' => e' = .returned (.tuple #[.agg #[.int .i64 (apX c e m), .int .i64 (apD c e)], .int .i64 (apE c e)]) ∧ Up w w' := by
  have HC := Lib.hid hc
  have HM := Lib.hid hm
  clear hc hm
  by_cases h0 : c = 0
  · obtain ⟨hF1, q1, q2⟩ := hF h0
    have HF := Lib.hid hF1
    clear hF hF1
    subst h0
    by_cases he : e = 0
    · subst he
      have hx : apX 0 0 m = m ∧ apD 0 0 = 1 ∧ apE 0 0 = 0 := by simp [apX, apD, apE]
      rw [hx.1, hx.2.1, hx.2.2]
      clear hx
      go_enter Try.func42, Try.ntmps42
      go_wp2_with fail
      refine (fixed_check _ _ _ _ _ [(n1, d1), (n2, d2)] _ _ HC.out (by simp) _ (two_vals _ _ _ _ _ _ _ (by simp))).mono ?_
      rintro e1 x1 ⟨rfl, hW⟩
      obtain ⟨hc, hf⟩ := hW.both
      have HW := Lib.hid hW
      clear hW
      go_wp2_with fail
      refine (HF.out _).mono ?_
      rintro e2 x2 ⟨rfl, hx⟩
      replace HW := Lib.hid (HW.out.trans hx)
      clear hc hf hx
      obtain ⟨hc, hf⟩ := HW.out.both
      go_wp2_with fail
      refine (fixed_narrow _ _ _ _ _ _ _ HM.out (by omega) (by omega) _).mono ?_
      rintro e3 x3 ⟨rfl, hx⟩
      replace HW := Lib.hid (HW.out.trans hx)
      clear hc hf hx
      obtain ⟨hc, hf⟩ := HW.out.both
      go_wp2
      exact bodyPost_ret (v := .tuple #[.agg #[.int .i64 m, .int .i64 1], .int .i64 0]) (by simp [results, Try.results42, go_sem, *]) rfl ⟨rfl, (by repeat (first | exact Up.trans (by repeat (first | exact Up.refl _ | refine Up.alloc ?_ _)) HW.out | refine Up.setCell ?_ (by first | omega | (simp; done) | (simp; omega)) _ | refine Up.alloc ?_ _))⟩
    · have hx : apX 0 e m = 0 ∧ apD 0 e = 0 ∧ apE 0 e = e := by simp [apX, apD, apE, he]
      rw [hx.1, hx.2.1, hx.2.2]
      have he1 : (e == 0) = false := by simpa using he
      have he2 : (e != 0) = true := by simpa using he
      clear hx
      go_enter Try.func42, Try.ntmps42
      go_wp2_with fail
      refine (fixed_check _ _ _ _ _ [(n1, d1), (n2, d2)] _ _ HC.out (by simp) _ (two_vals _ _ _ _ _ _ _ (by simp))).mono ?_
      rintro e1 x1 ⟨rfl, hW⟩
      obtain ⟨hc, hf⟩ := hW.both
      have HW := Lib.hid hW
      clear hW
      go_wp2_with fail
      refine (HF.out _).mono ?_
      rintro e2 x2 ⟨rfl, hx⟩
      replace HW := Lib.hid (HW.out.trans hx)
      clear hc hf hx
      obtain ⟨hc, hf⟩ := HW.out.both
      go_wp2
      exact bodyPost_ret (v := .tuple #[.agg #[.int .i64 0, .int .i64 0], .int .i64 e]) (by simp [results, Try.results42, go_sem, *]) rfl ⟨rfl, (by repeat (first | exact Up.trans (by repeat (first | exact Up.refl _ | refine Up.alloc ?_ _)) HW.out | refine Up.setCell ?_ (by first | omega | (simp; done) | (simp; omega)) _ | refine Up.alloc ?_ _))⟩
  · have hx : apX c e m = 0 ∧ apD c e = 0 ∧ apE c e = c := by simp [apX, apD, apE, h0]
    rw [hx.1, hx.2.1, hx.2.2]
    have he1 : (c == 0) = false := by simpa using h0
    have he2 : (c != 0) = true := by simpa using h0
    clear hx hF
    go_enter Try.func42, Try.ntmps42
    go_wp2_with fail
    refine (fixed_check _ _ _ _ _ [(n1, d1), (n2, d2)] _ _ HC.out (by simp) _ (two_vals _ _ _ _ _ _ _ (by simp))).mono ?_
    rintro e1 x1 ⟨rfl, hW⟩
    obtain ⟨hc, hf⟩ := hW.both
    have HW := Lib.hid hW
    clear hW
    go_wp2
    exact bodyPost_ret (v := .tuple #[.agg #[.int .i64 0, .int .i64 0], .int .i64 c]) (by simp [results, Try.results42, go_sem, *]) rfl ⟨rfl, (by repeat (first | exact Up.trans (by repeat (first | exact Up.refl _ | refine Up.alloc ?_ _)) HW.out | refine Up.setCell ?_ (by first | omega | (simp; done) | (simp; omega)) _ | refine Up.alloc ?_ _))⟩

set_option maxHeartbeats 4000000 in
theorem fixed_apply_Mul (k b f r o n1 d1 n2 d2 c q e m : Int) (hc : chkE k b f r o [(n1, d1), (n2, d2)] = c) (hF : c = 0 → (∀ w, Calls Try.prog 44 #[.agg #[.int .i64 k, .int .i64 b, .int .i64 f, .int .i64 r, .int .i64 o], .int .i64 n1, .int .i64 n2] w fun e' w' => e' = .returned (.tuple #[.int .i64 q, .int .i64 e]) ∧ Up w w') ∧ -4611686018427387904 ≤ q ∧ q ≤ 4611686018427387904) (hm : fitN q b o = m) (w : World) :
    Calls Try.prog 42 #[.agg #[.func (.func 44) #[] #[]], .agg #[.int .i64 k, .int .i64 b, .int .i64 f, .int .i64 r, .int .i64 o], .agg #[.int .i64 n1, .int .i64 d1], .agg #[.int .i64 n2, .int .i64 d2]] w fun e' w' => e' = .returned (.tuple #[.agg #[.int .i64 (apX c e m), .int .i64 (apD c e)], .int .i64 (apE c e)]) ∧ Up w w' := by
  have HC := Lib.hid hc
  have HM := Lib.hid hm
  clear hc hm
  by_cases h0 : c = 0
  · obtain ⟨hF1, q1, q2⟩ := hF h0
    have HF := Lib.hid hF1
    clear hF hF1
    subst h0
    by_cases he : e = 0
    · subst he
      have hx : apX 0 0 m = m ∧ apD 0 0 = 1 ∧ apE 0 0 = 0 := by simp [apX, apD, apE]
      rw [hx.1, hx.2.1, hx.2.2]
      clear hx
      go_enter Try.func42, Try.ntmps42
      go_wp2_with fail
      refine (fixed_check _ _ _ _ _ [(n1, d1), (n2, d2)] _ _ HC.out (by simp) _ (two_vals _ _ _ _ _ _ _ (by simp))).mono ?_
      rintro e1 x1 ⟨rfl, hW⟩
      obtain ⟨hc, hf⟩ := hW.both
      have HW := Lib.hid hW
      clear hW
      go_wp2_with fail
      refine (HF.out _).mono ?_
      rintro e2 x2 ⟨rfl, hx⟩
      replace HW := Lib.hid (HW.out.trans hx)
      clear hc hf hx
      obtain ⟨hc, hf⟩ := HW.out.both
      go_wp2_with fail
      refine (fixed_narrow _ _ _ _ _ _ _ HM.out (by omega) (by omega) _).mono ?_
      rintro e3 x3 ⟨rfl, hx⟩
      replace HW := Lib.hid (HW.out.trans hx)
      clear hc hf hx
      obtain ⟨hc, hf⟩ := HW.out.both
      go_wp2
      exact bodyPost_ret (v := .tuple #[.agg #[.int .i64 m, .int .i64 1], .int .i64 0]) (by simp [results, Try.results42, go_sem, *]) rfl ⟨rfl, (by repeat (first | exact Up.trans (by repeat (first | exact Up.refl _ | refine Up.alloc ?_ _)) HW.out | refine Up.setCell ?_ (by first | omega | (simp; done) | (simp; omega)) _ | refine Up.alloc ?_ _))⟩
    · have hx : apX 0 e m = 0 ∧ apD 0 e = 0 ∧ apE 0 e = e := by simp [apX, apD, apE, he]
      rw [hx.1, hx.2.1, hx.2.2]
      have he1 : (e == 0) = false := by simpa using he
      have he2 : (e != 0) = true := by simpa using he
      clear hx
      go_enter Try.func42, Try.ntmps42
      go_wp2_with fail
      refine (fixed_check _ _ _ _ _ [(n1, d1), (n2, d2)] _ _ HC.out (by simp) _ (two_vals _ _ _ _ _ _ _ (by simp))).mono ?_
      rintro e1 x1 ⟨rfl, hW⟩
      obtain ⟨hc, hf⟩ := hW.both
      have HW := Lib.hid hW
      clear hW
      go_wp2_with fail
      refine (HF.out _).mono ?_
      rintro e2 x2 ⟨rfl, hx⟩
      replace HW := Lib.hid (HW.out.trans hx)
      clear hc hf hx
      obtain ⟨hc, hf⟩ := HW.out.both
      go_wp2
      exact bodyPost_ret (v := .tuple #[.agg #[.int .i64 0, .int .i64 0], .int .i64 e]) (by simp [results, Try.results42, go_sem, *]) rfl ⟨rfl, (by repeat (first | exact Up.trans (by repeat (first | exact Up.refl _ | refine Up.alloc ?_ _)) HW.out | refine Up.setCell ?_ (by first | omega | (simp; done) | (simp; omega)) _ | refine Up.alloc ?_ _))⟩
  · have hx : apX c e m = 0 ∧ apD c e = 0 ∧ apE c e = c := by simp [apX, apD, apE, h0]
    rw [hx.1, hx.2.1, hx.2.2]
    have he1 : (c == 0) = false := by simpa using h0
    have he2 : (c != 0) = true := by simpa using h0
    clear hx hF
    go_enter Try.func42, Try.ntmps42
    go_wp2_with fail
    refine (fixed_check _ _ _ _ _ [(n1, d1), (n2, d2)] _ _ HC.out (by simp) _ (two_vals _ _ _ _ _ _ _ (by simp))).mono ?_
    rintro e1 x1 ⟨rfl, hW⟩
    obtain ⟨hc, hf⟩ := hW.both
    have HW := Lib.hid hW
    clear hW
    go_wp2
    exact bodyPost_ret (v := .tuple #[.agg #[.int .i64 0, .int .i64 0], .int .i64 c]) (by simp [results, Try.results42, go_sem, *]) rfl ⟨rfl, (by repeat (first | exact Up.trans (by repeat (first | exact Up.refl _ | refine Up.alloc ?_ _)) HW.out | refine Up.setCell ?_ (by first | omega | (simp; done) | (simp; omega)) _ | refine Up.alloc ?_ _))⟩

set_option maxHeartbeats 4000000 in
theorem fixed_apply_Div (k b f r o n1 d1 n2 d2 c q e m : Int) (hc : chkE k b f r o [(n1, d1), (n2, d2)] = c) (hF : c = 0 → (∀ w, Calls Try.prog 49 #[.agg #[.int .i64 k, .int .i64 b, .int .i64 f, .int .i64 r, .int .i64 o], .int .i64 n1, .int .i64 n2] w fun e' w' => e' = .returned (.tuple #[.int .i64 q, .int .i64 e]) ∧ Up w w') ∧ -4611686018427387904 ≤ q ∧ q ≤ 4611686018427387904) (hm : fitN q b o = m) (w : World) :
    Calls Try.prog 42 #[.agg #[.func (.func 49) #[] #[]], .agg #[.int .i64 k, .int .i64 b, .int .i64 f, .int .i64 r, .int .i64 o], .agg #[.int .i64 n1, .int .i64 d1], .agg #[.int .i64 n2, .int .i64 d2]] w fun e' w' => e' = .returned (.tuple #[.agg #[.int .i64 (apX c e m), .int .i64 (apD c e)], .int .i64 (apE c e)]) ∧ Up w w' := by
  have HC := Lib.hid hc
  have HM := Lib.hid hm
  clear hc hm
  by_cases h0 : c = 0
  · obtain ⟨hF1, q1, q2⟩ := hF h0
    have HF := Lib.hid hF1
    clear hF hF1
    subst h0
    by_cases he : e = 0
    · subst he
      have hx : apX 0 0 m = m ∧ apD 0 0 = 1 ∧ apE 0 0 = 0 := by simp [apX, apD, apE]
      rw [hx.1, hx.2.1, hx.2.2]
      clear hx
      go_enter Try.func42, Try.ntmps42
      go_wp2_with fail
      refine (fixed_check _ _ _ _ _ [(n1, d1), (n2, d2)] _ _ HC.out (by simp) _ (two_vals _ _ _ _ _ _ _ (by simp))).mono ?_
      rintro e1 x1 ⟨rfl, hW⟩
      obtain ⟨hc, hf⟩ := hW.both
      have HW := Lib.hid hW
      clear hW
      go_wp2_with fail
      refine (HF.out _).mono ?_
      rintro e2 x2 ⟨rfl, hx⟩
      replace HW := Lib.hid (HW.out.trans hx)
      clear hc hf hx
      obtain ⟨hc, hf⟩ := HW.out.both
      go_wp2_with fail
      refine (fixed_narrow _ _ _ _ _ _ _ HM.out (by omega) (by omega) _).mono ?_
      rintro e3 x3 ⟨rfl, hx⟩
      replace HW := Lib.hid (HW.out.trans hx)
      clear hc hf hx
      obtain ⟨hc, hf⟩ := HW.out.both
      go_wp2
      exact bodyPost_ret (v := .tuple #[.agg #[.int .i64 m, .int .i64 1], .int .i64 0]) (by simp [results, Try.results42, go_sem, *]) rfl ⟨rfl, (by repeat (first | exact Up.trans (by repeat (first | exact Up.refl _ | refine Up.alloc ?_ _)) HW.out | refine Up.setCell ?_ (by first | omega | (simp; done) | (simp; omega)) _ | refine Up.alloc ?_ _))⟩
    · have hx : apX 0 e m = 0 ∧ apD 0 e = 0 ∧ apE 0 e = e := by simp [apX, apD, apE, he]
      rw [hx.1, hx.2.1, hx.2.2]
      have he1 : (e == 0) = false := by simpa using he
      have he2 : (e != 0) = true := by simpa using he
      clear hx
      go_enter Try.func42, Try.ntmps42
      go_wp2_with fail
      refine (fixed_check _ _ _ _ _ [(n1, d1), (n2, d2)] _ _ HC.out (by simp) _ (two_vals _ _ _ _ _ _ _ (by simp))).mono ?_
      rintro e1 x1 ⟨rfl, hW⟩
      obtain ⟨hc, hf⟩ := hW.both
      have HW := Lib.hid hW
      clear hW
      go_wp2_with fail
      refine (HF.out _).mono ?_
      rintro e2 x2 ⟨rfl, hx⟩
      replace HW := Lib.hid (HW.out.trans hx)
      clear hc hf hx
      obtain ⟨hc, hf⟩ := HW.out.both
      go_wp2
      exact bodyPost_ret (v := .tuple #[.agg #[.int .i64 0, .int .i64 0], .int .i64 e]) (by simp [results, Try.results42, go_sem, *]) rfl ⟨rfl, (by repeat (first | exact Up.trans (by repeat (first | exact Up.refl _ | refine Up.alloc ?_ _)) HW.out | refine Up.setCell ?_ (by first | omega | (simp; done) | (simp; omega)) _ | refine Up.alloc ?_ _))⟩
  · have hx : apX c e m = 0 ∧ apD c e = 0 ∧ apE c e = c := by simp [apX, apD, apE, h0]
    rw [hx.1, hx.2.1, hx.2.2]
    have he1 : (c == 0) = false := by simpa using h0
    have he2 : (c != 0) = true := by simpa using h0
    clear hx hF
    go_enter Try.func42, Try.ntmps42
    go_wp2_with fail
    refine (fixed_check _ _ _ _ _ [(n1, d1), (n2, d2)] _ _ HC.out (by simp) _ (two_vals _ _ _ _ _ _ _ (by simp))).mono ?_
    rintro e1 x1 ⟨rfl, hW⟩
    obtain ⟨hc, hf⟩ := hW.both
    have HW := Lib.hid hW
    clear hW
    go_wp2
    exact bodyPost_ret (v := .tuple #[.agg #[.int .i64 0, .int .i64 0], .int .i64 c]) (by simp [results, Try.results42, go_sem, *]) rfl ⟨rfl, (by repeat (first | exact Up.trans (by repeat (first | exact Up.refl _ | refine Up.alloc ?_ _)) HW.out | refine Up.setCell ?_ (by first | omega | (simp; done) | (simp; omega)) _ | refine Up.alloc ?_ _))⟩

set_option maxHeartbeats 4000000 in
theorem fixed_apply_Neg (k b f r o n1 d1 n2 d2 c q e m : Int) (hc : chkE k b f r o [(n1, d1), (n2, d2)] = c) (hF : c = 0 → (∀ w, Calls Try.prog 50 #[.agg #[.int .i64 k, .int .i64 b, .int .i64 f, .int .i64 r, .int .i64 o], .int .i64 n1, .int .i64 n2] w fun e' w' => e' = .returned (.tuple #[.int .i64 q, .int .i64 e]) ∧ Up w w') ∧ -4611686018427387904 ≤ q ∧ q ≤ 4611686018427387904) (hm : fitN q b o = m) (w : World) :
    Calls Try.prog 42 #[.agg #[.func (.func 50) #[] #[]], .agg #[.int .i64 k, .int .i64 b, .int .i64 f, .int .i64 r, .int .i64 o], .agg #[.int .i64 n1, .int .i64 d1], .agg #[.int .i64 n2, .int .i64 d2]] w fun e' w' => e' = .returned (.tuple #[.agg #[.int .i64 (apX c e m), .int .i64 (apD c e)], .int .i64 (apE c e)]) ∧ Up w w' := by
  have HC := Lib.hid hc
  have HM := Lib.hid hm
  clear hc hm
  by_cases h0 : c = 0
  · obtain ⟨hF1, q1, q2⟩ := hF h0
    have HF := Lib.hid hF1
    clear hF hF1
    subst h0
    by_cases he : e = 0
    · subst he
      have hx : apX 0 0 m = m ∧ apD 0 0 = 1 ∧ apE 0 0 = 0 := by simp [apX, apD, apE]
      rw [hx.1, hx.2.1, hx.2.2]
      clear hx
      go_enter Try.func42, Try.ntmps42
      go_wp2_with fail
      refine (fixed_check _ _ _ _ _ [(n1, d1), (n2, d2)] _ _ HC.out (by simp) _ (two_vals _ _ _ _ _ _ _ (by simp))).mono ?_
      rintro e1 x1 ⟨rfl, hW⟩
      obtain ⟨hc, hf⟩ := hW.both
      have HW := Lib.hid hW
      clear hW
      go_wp2_with fail
      refine (HF.out _).mono ?_
      rintro e2 x2 ⟨rfl, hx⟩
      replace HW := Lib.hid (HW.out.trans hx)
      clear hc hf hx
      obtain ⟨hc, hf⟩ := HW.out.both
      go_wp2_with fail
      refine (fixed_narrow _ _ _ _ _ _ _ HM.out (by omega) (by omega) _).mono ?_
      rintro e3 x3 ⟨rfl, hx⟩
      replace HW := Lib.hid (HW.out.trans hx)
      clear hc hf hx
      obtain ⟨hc, hf⟩ := HW.out.both
      go_wp2
      exact bodyPost_ret (v := .tuple #[.agg #[.int .i64 m, .int .i64 1], .int .i64 0]) (by simp [results, Try.results42, go_sem, *]) rfl ⟨rfl, (by repeat (first | exact Up.trans (by repeat (first | exact Up.refl _ | refine Up.alloc ?_ _)) HW.out | refine Up.setCell ?_ (by first | omega | (simp; done) | (simp; omega)) _ | refine Up.alloc ?_ _))⟩
    · have hx : apX 0 e m = 0 ∧ apD 0 e = 0 ∧ apE 0 e = e := by simp [apX, apD, apE, he]
      rw [hx.1, hx.2.1, hx.2.2]
      have he1 : (e == 0) = false := by simpa using he
      have he2 : (e != 0) = true := by simpa using he
      clear hx
      go_enter Try.func42, Try.ntmps42
      go_wp2_with fail
      refine (fixed_check _ _ _ _ _ [(n1, d1), (n2, d2)] _ _ HC.out (by simp) _ (two_vals _ _ _ _ _ _ _ (by simp))).mono ?_
      rintro e1 x1 ⟨rfl, hW⟩
      obtain ⟨hc, hf⟩ := hW.both
      have HW := Lib.hid hW
      clear hW
      go_wp2_with fail
      refine (HF.out _).mono ?_
      rintro e2 x2 ⟨rfl, hx⟩
      replace HW := Lib.hid (HW.out.trans hx)
      clear hc hf hx
      obtain ⟨hc, hf⟩ := HW.out.both
      go_wp2
      exact bodyPost_ret (v := .tuple #[.agg #[.int .i64 0, .int .i64 0], .int .i64 e]) (by simp [results, Try.results42, go_sem, *]) rfl ⟨rfl, (by repeat (first | exact Up.trans (by repeat (first | exact Up.refl _ | refine Up.alloc ?_ _)) HW.out | refine Up.setCell ?_ (by first | omega | (simp; done) | (simp; omega)) _ | refine Up.alloc ?_ _))⟩
  · have hx : apX c e m = 0 ∧ apD c e = 0 ∧ apE c e = c := by simp [apX, apD, apE, h0]
    rw [hx.1, hx.2.1, hx.2.2]
    have he1 : (c == 0) = false := by simpa using h0
    have he2 : (c != 0) = true := by simpa using h0
    clear hx hF
    go_enter Try.func42, Try.ntmps42
    go_wp2_with fail
    refine (fixed_check _ _ _ _ _ [(n1, d1), (n2, d2)] _ _ HC.out (by simp) _ (two_vals _ _ _ _ _ _ _ (by simp))).mono ?_
    rintro e1 x1 ⟨rfl, hW⟩
    obtain ⟨hc, hf⟩ := hW.both
    have HW := Lib.hid hW
    clear hW
    go_wp2
    exact bodyPost_ret (v := .tuple #[.agg #[.int .i64 0, .int .i64 0], .int .i64 c]) (by simp [results, Try.results42, go_sem, *]) rfl ⟨rfl, (by repeat (first | exact Up.trans (by repeat (first | exact Up.refl _ | refine Up.alloc ?_ _)) HW.out | refine Up.setCell ?_ (by first | omega | (simp; done) | (simp; omega)) _ | refine Up.alloc ?_ _))⟩

theorem fixed_Add1 (k b f r o n1 n2 q : Int) (hq : n1 + n2 = q) (w1 : -1073741824 ≤ n1) (w2 : n1 ≤ 1073741824) (w3 : -1073741824 ≤ n2) (w4 : n2 ≤ 1073741824) (w : World) :
    Calls Try.prog 43 #[.agg #[.int .i64 k, .int .i64 b, .int .i64 f, .int .i64 r, .int .i64 o], .int .i64 n1, .int .i64 n2] w fun e' w' => e' = .returned (.tuple #[.int .i64 q, .int .i64 0]) ∧ Up w w' := by
  subst hq
  go_enter Try.func43, Try.ntmps43
  go_wp2
  go_ret2
  exact ⟨rfl, by repeat (first | exact Up.refl _ | refine Up.alloc ?_ _)⟩

theorem fixed_Sub1 (k b f r o n1 n2 q : Int) (hq : n1 - n2 = q) (w1 : -1073741824 ≤ n1) (w2 : n1 ≤ 1073741824) (w3 : -1073741824 ≤ n2) (w4 : n2 ≤ 1073741824) (w : World) :
    Calls Try.prog 46 #[.agg #[.int .i64 k, .int .i64 b, .int .i64 f, .int .i64 r, .int .i64 o], .int .i64 n1, .int .i64 n2] w fun e' w' => e' = .returned (.tuple #[.int .i64 q, .int .i64 0]) ∧ Up w w' := by
  subst hq
  go_enter Try.func46, Try.ntmps46
  go_wp2
  go_ret2
  exact ⟨rfl, by repeat (first | exact Up.refl _ | refine Up.alloc ?_ _)⟩

theorem fixed_Neg1 (k b f r o n1 n2 q : Int) (hq : -n1 = q) (w1 : -1073741824 ≤ n1) (w2 : n1 ≤ 1073741824) (w3 : -1073741824 ≤ n2) (w4 : n2 ≤ 1073741824) (w : World) :
    Calls Try.prog 50 #[.agg #[.int .i64 k, .int .i64 b, .int .i64 f, .int .i64 r, .int .i64 o], .int .i64 n1, .int .i64 n2] w fun e' w' => e' = .returned (.tuple #[.int .i64 q, .int .i64 0]) ∧ Up w w' := by
  subst hq
  go_enter Try.func50, Try.ntmps50
  go_wp2
  go_ret2
  exact ⟨rfl, by repeat (first | exact Up.refl _ | refine Up.alloc ?_ _)⟩

theorem divEq (n d how q e : Int) (h : divR n d how = (q, e)) (w1 : -9223372036854775808 ≤ n) (w2 : n ≤ 9223372036854775807) (w3 : -9223372036854775808 ≤ d) (w4 : d ≤ 9223372036854775807) (w : World) :
    Calls Try.prog 45 #[.int .i64 n, .int .i64 d, .int .i64 how] w fun e' w' => e' = .returned (.tuple #[.int .i64 q, .int .i64 e]) ∧ Up w w' := by
  have := round_Divide n d how w1 w2 w3 w4 w
  rw [h] at this
  exact this

set_option maxHeartbeats 1000000 in
theorem fixed_Mul1 (k b f r o n1 n2 q e : Int) (hf0 : 0 ≤ f) (hf1 : f ≤ 30) (hq : divR (n1 * n2) (2 ^ f.toNat) r = (q, e)) (w1 : -1073741824 ≤ n1) (w2 : n1 ≤ 1073741824) (w3 : -1073741824 ≤ n2) (w4 : n2 ≤ 1073741824) (w : World) :
    Calls Try.prog 44 #[.agg #[.int .i64 k, .int .i64 b, .int .i64 f, .int .i64 r, .int .i64 o], .int .i64 n1, .int .i64 n2] w fun e' w' => e' = .returned (.tuple #[.int .i64 q, .int .i64 e]) ∧ Up w w' := by
  obtain ⟨p1, p2⟩ := pow30 f hf0 hf1
  have m1 := mul_bd n1 (2 ^ f.toNat) 1073741824 1073741824 (by omega) w2 (by omega) (by omega) (by omega)
  have m2 : -1152921504606846976 ≤ n1 * n2 ∧ n1 * n2 ≤ 1152921504606846976 := by
    by_cases h : 0 ≤ n2
    · have := mul_bd n1 n2 1073741824 1073741824 (by omega) w2 (by omega) h w4; omega
    · have := mul_bd n1 (-n2) 1073741824 1073741824 (by omega) w2 (by omega) (by omega) (by omega)
      rw [Int.mul_neg] at this; omega
  obtain ⟨m1, m3⟩ := m1
  obtain ⟨m2, m4⟩ := m2
  have HQ := Lib.hid hq
  clear hq
  go_enter Try.func44, Try.ntmps44
  go_wp2_with fail
  refine wp_region_ext (by kernel_rfl) (by kernel_rfl) ?_
  repeat (go_big_quiet_step ((go_at_call 45; exact Calls.ext_of (divEq _ _ _ _ _ HQ.out (by omega) (by omega) (by omega) (by omega) _))))
  refine wpQuiet_nil ?_
  intro x hx
  go_wp2
  go_ret2
  exact ⟨rfl, ((Up.refl w).alloc _).trans hx⟩

set_option maxHeartbeats 1000000 in
theorem fixed_Div1 (k b f r o n1 n2 q e : Int) (hf0 : 0 ≤ f) (hf1 : f ≤ 30) (hq : divR (n1 * 2 ^ f.toNat) (n2) r = (q, e)) (w1 : -1073741824 ≤ n1) (w2 : n1 ≤ 1073741824) (w3 : -1073741824 ≤ n2) (w4 : n2 ≤ 1073741824) (w : World) :
    Calls Try.prog 49 #[.agg #[.int .i64 k, .int .i64 b, .int .i64 f, .int .i64 r, .int .i64 o], .int .i64 n1, .int .i64 n2] w fun e' w' => e' = .returned (.tuple #[.int .i64 q, .int .i64 e]) ∧ Up w w' := by
  obtain ⟨p1, p2⟩ := pow30 f hf0 hf1
  have m1 := mul_bd n1 (2 ^ f.toNat) 1073741824 1073741824 (by omega) w2 (by omega) (by omega) (by omega)
  have m2 : -1152921504606846976 ≤ n1 * n2 ∧ n1 * n2 ≤ 1152921504606846976 := by
    by_cases h : 0 ≤ n2
    · have := mul_bd n1 n2 1073741824 1073741824 (by omega) w2 (by omega) h w4; omega
    · have := mul_bd n1 (-n2) 1073741824 1073741824 (by omega) w2 (by omega) (by omega) (by omega)
      rw [Int.mul_neg] at this; omega
  obtain ⟨m1, m3⟩ := m1
  obtain ⟨m2, m4⟩ := m2
  have HQ := Lib.hid hq
  clear hq
  go_enter Try.func49, Try.ntmps49
  go_wp2_with fail
  refine wp_region_ext (by kernel_rfl) (by kernel_rfl) ?_
  repeat (go_big_quiet_step ((go_at_call 45; exact Calls.ext_of (divEq _ _ _ _ _ HQ.out (by omega) (by omega) (by omega) (by omega) _))))
  refine wpQuiet_nil ?_
  intro x hx
  go_wp2
  go_ret2
  exact ⟨rfl, ((Up.refl w).alloc _).trans hx⟩

end Go.Proofs.Ytknojjmbhbbcmaa
