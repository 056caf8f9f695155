/-
  How an argument that is an element type reads: five integers.
-/
import Derived.Test.YtknojjmbhbbcmaaRows
import Derived.Test.YtknojjmbhbbcmaaB
import Derived.Lib.SmallJoins
namespace Go.Proofs.Ytknojjmbhbbcmaa
open Go.ChangeShapes Go.WideShapes Go.ChangeAt Go.RowKit Go.Joins Go.Deep
set_option linter.unusedVariables false

def IsTy (v : Value) : Prop := ∃ k b f r o : Int, v = .agg #[.int .i64 k, .int .i64 b, .int .i64 f, .int .i64 r, .int .i64 o]
theorem cellsTy : Try.prog.cellsOf 23 = 5 := by kernel_rfl

theorem open_Ty {H : Type} {enc : TypeId × Value → H} {w : World} {base : Nat} {spare : Nat → Bool} {held : Bool} {r : Reach} {b0 : Nat} {v : Value} {d : DataW H} {p : List MemPlace}
    (hv : Value.okWide Try.prog w r b0 23 v) (h : DataW.Trod enc Try.prog w base spare held 23 v d p) : ∃ _u : Unit, IsTy v := by
  obtain ⟨cs, rfl, hsz⟩ := okWide_struct Try.underlying23 hv
  obtain ⟨l⟩ := cs
  match l, hsz.trans cellsTy with
  | [c0, c1, c2, c3, c4], _ =>
    obtain ⟨fuel, hf⟩ := h
    obtain ⟨xs, n, _, hx, _, hlen, hg⟩ := DataW.trod_struct Try.underlying23 hf
    have one : ∀ (c : Value) (y : DataW H × List MemPlace) (m : Nat), DataW.trod enc Try.prog w base spare held m 3 [c] = some y → ∃ a, c = .int .i64 a := fun c y m hy => by
      obtain ⟨a, e0, _, _⟩ := DataW.trod_int Try.underlying3 hy
      exact ⟨a, by simpa using e0⟩
    have hl : xs.length = 5 := hlen
    obtain ⟨a0, rfl⟩ := one _ (xs[0]'(by omega)) n ((hg 0 _ rfl).trans (List.getElem?_eq_getElem (by omega)))
    obtain ⟨a1, rfl⟩ := one _ (xs[1]'(by omega)) n ((hg 1 _ rfl).trans (List.getElem?_eq_getElem (by omega)))
    obtain ⟨a2, rfl⟩ := one _ (xs[2]'(by omega)) n ((hg 2 _ rfl).trans (List.getElem?_eq_getElem (by omega)))
    obtain ⟨a3, rfl⟩ := one _ (xs[3]'(by omega)) n ((hg 3 _ rfl).trans (List.getElem?_eq_getElem (by omega)))
    obtain ⟨a4, rfl⟩ := one _ (xs[4]'(by omega)) n ((hg 4 _ rfl).trans (List.getElem?_eq_getElem (by omega)))
    exact ⟨(), a0, a1, a2, a3, a4, rfl⟩
end Go.Proofs.Ytknojjmbhbbcmaa
