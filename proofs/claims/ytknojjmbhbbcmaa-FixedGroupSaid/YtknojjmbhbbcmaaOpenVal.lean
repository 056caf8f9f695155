/-
  How an argument that is a fraction reads.
-/
import Derived.Test.YtknojjmbhbbcmaaRows
import Derived.Test.YtknojjmbhbbcmaaB
import Derived.Lib.SmallJoins
namespace Go.Proofs.Ytknojjmbhbbcmaa
open Go.ChangeShapes Go.WideShapes Go.ChangeAt Go.RowKit Go.Joins

/-- A value of the struct of two 64-bit integers. -/
def IsVal (v : Value) : Prop := ∃ n d : Int, v = .agg #[.int .i64 n, .int .i64 d] ∧ -9223372036854775808 ≤ n ∧ n ≤ 9223372036854775807 ∧ -9223372036854775808 ≤ d ∧ d ≤ 9223372036854775807

theorem cellsVal : Try.prog.cellsOf 25 = 2 := by kernel_rfl

theorem open_Val {H : Type} {enc : TypeId × Value → H} {w : World} {base : Nat} {spare : Nat → Bool} {held : Bool} {r : Reach} {b0 : Nat} {v : Value} {d : DataW H} {p : List MemPlace}
    (hv : Value.okWide Try.prog w r b0 25 v) (h : DataW.Trod enc Try.prog w base spare held 25 v d p) : ∃ _u : Unit, IsVal v := by
  obtain ⟨c0, c1, y0, y1, m, rfl, rfl, rfl, hy0, hy1⟩ := open_agg2 Try.underlying25 (by kernel_rfl) cellsVal hv h
  obtain ⟨a, e0, rfl, wa⟩ := DataW.trod_int Try.underlying2 hy0
  obtain ⟨b, e1, rfl, wb⟩ := DataW.trod_int Try.underlying2 hy1
  simp at e0 e1
  subst e0 e1
  have g0 := bounds_i64 wa
  have g1 := bounds_i64 wb
  exact ⟨(), a, b, rfl, g0.1, g0.2, g1.1, g1.2⟩
end Go.Proofs.Ytknojjmbhbbcmaa
