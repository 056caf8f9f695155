/-
  RoundErrs: the walk of the law.
-/
import Derived.Test.YtplgppolmnnenaaM3
import Derived.Test.YtplgppolmnnenaaOpenVal
namespace Go.Proofs.Ytplgppolmnnenaa.roundErrs
open Go.ChangeShapes Go.WideShapes Go.ChangeAt Go.RowKit
set_option linter.unusedVariables false
set_option linter.unusedSimpArgs false

theorem newF_err (n d : Int) (h : (newF n d).2.2 ≠ 0) : (newF n d).1 = 0 ∧ (newF n d).2.1 = 0 := by
  revert h
  unfold newF
  (repeat' split) <;> simp

theorem resR_err (n d k how : Int) (h : (resR n d k how).2.2 ≠ 0) : resR n d k how = (0, 0, (resR n d k how).2.2) := by
  revert h
  unfold resR
  split
  · intro; rfl
  · intro h
    obtain ⟨a, b⟩ := newF_err _ _ h
    exact Prod.ext a (Prod.ext b rfl)

theorem round_Residual_eq (n d bits how N D E : Int) (h : resR n d bits how = (N, D, E)) (w1 : -9223372036854775808 ≤ n) (w2 : n ≤ 9223372036854775807) (w : World) :
    Calls Try.prog 18 #[.agg #[.int .i64 n, .int .i64 d], .int .i64 bits, .int .i64 how] w fun e w' => e = .returned (.tuple #[.agg #[.int .i64 N, .int .i64 D], .int .i64 E]) ∧ Up w w' := by
  have := round_Residual n d bits how w1 w2 w
  rw [h] at this
  exact this

theorem ref02_Residual_eq (n d bits how N D E : Int) (h : resR n d bits how = (N, D, E)) (w1 : -9223372036854775808 ≤ n) (w2 : n ≤ 9223372036854775807) (w : World) :
    Calls Try.prog 19 #[.agg #[.int .i64 n, .int .i64 d], .int .i64 bits, .int .i64 how] w fun e w' => e = .returned (.tuple #[.agg #[.int .i64 N, .int .i64 D], .int .i64 E]) ∧ Up w w' := by
  have := ref02_Residual n d bits how w1 w2 w
  rw [h] at this
  exact this

theorem law02_error (n d bits how N D E : Int) (h : resR n d bits how = (N, D, E)) (w1 : -9223372036854775808 ≤ n) (w2 : n ≤ 9223372036854775807) (w : World) :
    Calls Try.prog 20 #[.agg #[.int .i64 n, .int .i64 d], .int .i64 bits, .int .i64 how] w fun e w' => e = .returned (.int .i64 E) ∧ Up w w' := by
  have hV := (Up.refl w).alloc (.cells #[.int .i64 n, .int .i64 d] 31)
  have H := Lib.hid h
  clear h
  go_enter Try.func20, Try.ntmps20
  go_wp2_with fail
  refine (ref02_Residual_eq _ _ _ _ _ _ _ H.out w1 w2 _).mono ?_
  rintro e x1 ⟨rfl, hx1⟩
  go_wp2_with fail
  go_ret
  exact ⟨rfl, (hV.trans hx1).alloc _⟩

set_option maxHeartbeats 2000000 in
set_option maxRecDepth 100000 in
theorem walk (W : World) {v : Value} {f how : Int} (w0 : IsVal v) (w1 : (Lit.int .u8 f).wf = true) (w2 : (Lit.int .i64 how).wf = true) :
    Calls Try.prog 7 #[v, .int .u8 f, .int .i64 how] W fun e w' => e = .returned (.bool true) ∧ Up W w' := by
  obtain ⟨n, d, rfl, n1, n2, d1, d2⟩ := w0
  obtain ⟨f1, f2⟩ := bounds_u8 w1
  clear w1 w2
  have hV := (Up.refl W).alloc (.cells #[.int .i64 n, .int .i64 d] 31)
  have k0 : 0 ≤ f % 31 := Int.emod_nonneg _ (by omega)
  have k1 : f % 31 ≤ 30 := by have := Int.emod_lt_of_pos f (show (0 : Int) < 31 by omega); omega
  obtain ⟨k, hk⟩ : ∃ k, f % 31 = k := ⟨_, rfl⟩
  rw [hk] at k0 k1
  by_cases he : (resR n d k how).2.2 ≠ 0
  · obtain ⟨E, hE⟩ : ∃ E, (resR n d k how).2.2 = E := ⟨_, rfl⟩
    have HR : Hid (resR n d k how = (0, 0, E)) := Lib.hid (by rw [resR_err n d k how he, hE])
    rw [hE] at he
    have e1 : (E == 0) = false := by simpa using he
    have e2 : (E != 0) = true := by simpa using he
    clear hE he
    go_enter Try.func7, Try.ntmps7
    go_wp2_with fail
    refine (round_Residual_eq _ _ _ _ _ _ _ HR.out n1 n2 _).mono ?_
    rintro e x1 ⟨rfl, hx1⟩
    obtain ⟨hc1, hf1⟩ := hx1.both
    have hz1 : W.heap.size < x1.heap.size := by have := hx1.size; simp at this; omega
    go_wp2_with fail
    refine (law02_error _ _ _ _ _ _ _ HR.out n1 n2 _).mono ?_
    rintro e x2 ⟨rfl, hx2⟩
    go_wp2_with fail
    go_ret
    refine ⟨rfl, ?_⟩
    repeat (first | exact hV.trans hx1 | refine Up.setCell ?_ (by simp; omega) _ | refine Up.alloc ?_ _ | refine Up.trans ?_ hx2)
  · obtain ⟨N, D, hND⟩ : ∃ N D, resR n d k how = (N, D, 0) := ⟨(resR n d k how).1, (resR n d k how).2.1, Prod.ext rfl (Prod.ext rfl (by simpa using he))⟩
    have HR := Lib.hid hND
    obtain ⟨g1, g2, g3, g4, gm, g5, g6, g7, g8, g9⟩ := resid_law n d k how k0 k1 N D hND
    have hhow : how = 1 ∨ how = 2 ∨ how = 3 ∨ how = 4 := by
      have : 1 ≤ how ∧ how ≤ 4 := by simpa [isMode] using gm
      omega
    obtain ⟨p1, p2⟩ := pow30 k k0 k1
    obtain ⟨X, hX⟩ : ∃ X, N * 2 ^ k.toNat = X := ⟨_, rfl⟩
    rw [hX] at g5 g6 g7 g8 g9
    clear he hND gm
    rcases hhow with rfl | rfl | rfl | rfl
    · obtain ⟨a1, a2⟩ := g5 rfl
      clear g5 g6 g7
      go_enter Try.func7, Try.ntmps7
      go_wp2_with fail
      refine (round_Residual_eq _ _ _ _ _ _ _ HR.out n1 n2 _).mono ?_
      rintro e x1 ⟨rfl, hx1⟩
      obtain ⟨hc1, hf1⟩ := hx1.both
      have hz1 : W.heap.size < x1.heap.size := by have := hx1.size; simp at this; omega
      go_wp2_with fail
      go_ret
      refine ⟨rfl, ?_⟩
      repeat (first | exact hV.trans hx1 | refine Up.setCell ?_ (by simp; omega) _ | refine Up.alloc ?_ _)
    · obtain ⟨a1, a2⟩ := g6 rfl
      clear g5 g6 g7
      go_enter Try.func7, Try.ntmps7
      go_wp2_with fail
      refine (round_Residual_eq _ _ _ _ _ _ _ HR.out n1 n2 _).mono ?_
      rintro e x1 ⟨rfl, hx1⟩
      obtain ⟨hc1, hf1⟩ := hx1.both
      have hz1 : W.heap.size < x1.heap.size := by have := hx1.size; simp at this; omega
      go_wp2_with fail
      go_ret
      refine ⟨rfl, ?_⟩
      repeat (first | exact hV.trans hx1 | refine Up.setCell ?_ (by simp; omega) _ | refine Up.alloc ?_ _)
    · clear g5 g6 g7
      go_enter Try.func7, Try.ntmps7
      go_wp2_with fail
      refine (round_Residual_eq _ _ _ _ _ _ _ HR.out n1 n2 _).mono ?_
      rintro e x1 ⟨rfl, hx1⟩
      obtain ⟨hc1, hf1⟩ := hx1.both
      have hz1 : W.heap.size < x1.heap.size := by have := hx1.size; simp at this; omega
      go_wp2_with fail
      go_ret
      refine ⟨rfl, ?_⟩
      repeat (first | exact hV.trans hx1 | refine Up.setCell ?_ (by simp; omega) _ | refine Up.alloc ?_ _)
    · obtain ⟨a1, a2⟩ := g7 rfl
      clear g5 g6 g7
      go_enter Try.func7, Try.ntmps7
      go_wp2_with fail
      refine (round_Residual_eq _ _ _ _ _ _ _ HR.out n1 n2 _).mono ?_
      rintro e x1 ⟨rfl, hx1⟩
      obtain ⟨hc1, hf1⟩ := hx1.both
      have hz1 : W.heap.size < x1.heap.size := by have := hx1.size; simp at this; omega
      go_wp2_with fail
      go_ret
      refine ⟨rfl, ?_⟩
      repeat (first | exact hV.trans hx1 | refine Up.setCell ?_ (by simp; omega) _ | refine Up.alloc ?_ _)
end Go.Proofs.Ytplgppolmnnenaa.roundErrs
