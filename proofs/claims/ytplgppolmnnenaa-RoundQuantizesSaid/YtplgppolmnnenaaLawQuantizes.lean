/-
  RoundQuantizes: the walk of the law.
-/
import Derived.Test.YtplgppolmnnenaaResid
import Derived.Test.YtplgppolmnnenaaOpenVal
namespace Go.Proofs.Ytplgppolmnnenaa.roundQuantizes
open Go.ChangeShapes Go.WideShapes Go.ChangeAt Go.RowKit
set_option linter.unusedVariables false

theorem walk (W : World) {v : Value} {k how : Int} (w0 : IsVal v) (w1 : (Lit.int .i64 k).wf = true) (w2 : (Lit.int .i64 how).wf = true) :
    Calls Try.prog 6 #[v, .int .i64 k, .int .i64 how] W fun e w' => e = .returned (.bool true) ∧ Up W w' := by
  obtain ⟨n, d, rfl, n1, n2, d1, d2⟩ := w0
  clear w1 w2
  have hV := (Up.refl W).alloc (.cells #[.int .i64 n, .int .i64 d] 31)
  go_enter Try.func6, Try.ntmps6
  go_wp2_with fail
  refine (round_Quantize _ _ _ _ n1 n2 _).mono ?_
  rintro e x1 ⟨rfl, hx1⟩
  obtain ⟨hc1, hf1⟩ := hx1.both
  have hz1 : W.heap.size < x1.heap.size := by have := hx1.size; simp at this; omega
  go_wp2_with fail
  refine (ref02_Quantize _ _ _ _ n1 n2 _).mono ?_
  rintro e x2 ⟨rfl, hx2⟩
  obtain ⟨hc2, hf2⟩ := hx2.both
  have hz2 : W.heap.size < x2.heap.size := by have := hx2.size; omega
  go_wp2_with fail
  refine (round_Residual _ _ _ _ n1 n2 _).mono ?_
  rintro e x3 ⟨rfl, hx3⟩
  obtain ⟨hc3, hf3⟩ := hx3.both
  have hz3 : W.heap.size < x3.heap.size := by have := hx3.size; omega
  go_wp2_with fail
  refine (ref02_Residual _ _ _ _ n1 n2 _).mono ?_
  rintro e x4 ⟨rfl, hx4⟩
  obtain ⟨hc4, hf4⟩ := hx4.both
  have hz4 : x3.heap.size < x4.heap.size := by have := hx4.size; simp at this; omega
  go_wp2_with fail
  go_ret
  refine ⟨rfl, ?_⟩
  repeat (first | exact hV.trans hx1 | refine Up.setCell ?_ (by simp; omega) _ | refine Up.alloc ?_ _ | refine Up.trans ?_ hx4 | refine Up.trans ?_ hx3 | refine Up.trans ?_ hx2)
end Go.Proofs.Ytplgppolmnnenaa.roundQuantizes
