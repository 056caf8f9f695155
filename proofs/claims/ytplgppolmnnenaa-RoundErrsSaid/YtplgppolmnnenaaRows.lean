/-
  No cell of these rows narrows 'for every input' (looked for: loops, veiled, ifaces, maps, wideKeys, modest, calm, conditions, laid).
  DERIVED. THE GIVEN ROWS OF THIS SEAT. 5 by the template 'for every input the law returns true; each argument reads behind the call as it read before'; 0 by the template 'total and deterministic' (their statements: YtplgppolmnnenaaTotals.lean).
  GIVEN WITH THE SEED: the statements are not yours to turn. If you find one false, say at which input.
  Laid BY PROGRAM, IN A SANDBOX (cutbox-rows.mjs): the forced cells as the released guide's own fill.sh prints them over the translation 47cd97705dc72ceb… (all of the seat's roots in one cut). By AI agents, Wed Nov 11 2026. No macro, syntax, notation, axiom, sorry.
-/
import Derived.Test.YtplgppolmnnenaaChecked
import GoSem.Claim
import GoSem.ClaimJoined
import GoSem.ClaimMapViews
import Derived.JoinedTies
import Derived.KernelRfl
namespace Go.Proofs.Ytplgppolmnnenaa
/- THE CELL 'sum', in the pinned program and in every row, IS THE sha256 OF THE DUMP (.gsa) THAT YtplgppolmnnenaaProg.lean LOADS. Nothing in Lean hashes anything: it is a label: what it is worth is what the hold of that sum in a sandbox is worth. -/
noncomputable def Try.pinned : Pinned := { name := "ytplgppolmnnenaa", sum := "47cd97705dc72cebdc858c1855ecd4181783ca56a2e0dc566b769f24d39c6099", checked := Try.checked }
namespace Rows
def none {H : Type} : Left H := { results := [], args := [] }

/-- 'brocadelaw02.RoundNarrows': WHATEVER THE INPUT: true; the input reads as it did. -/
def roundNarrowsSpec : ChangeSpec := { name := "roundNarrows", fn := fun _ => fun
  | [d1, d2, d3] => { results := [.lit (.bool true)], args := [d1, d2, d3] }
  | _ => none }
def roundNarrowsRow : OpenClaim := { program := "ytplgppolmnnenaa", sum := "47cd97705dc72cebdc858c1855ecd4181783ca56a2e0dc566b769f24d39c6099", func := "brocade/brocadelaw02.RoundNarrows", spec := "roundNarrows", apart := false }
def RoundNarrowsSaid : Prop := roundNarrowsRow.holds Try.pinned (OpenSpec.ofChange roundNarrowsSpec)

/-- ITS FALSE NEIGHBOUR: 'it returns false'. Refute it at one input. -/
def roundNarrowsWrong : ChangeSpec := { name := "roundNarrows", fn := fun _ => fun
  | [d1, d2, d3] => { results := [.lit (.bool false)], args := [d1, d2, d3] }
  | _ => none }
def RoundNarrowsWrongFalsely : Prop := roundNarrowsRow.holds Try.pinned (OpenSpec.ofChange roundNarrowsWrong)

/-- 'brocadelaw02.RoundDivides': WHATEVER THE INPUT: true; the input reads as it did. -/
def roundDividesSpec : ChangeSpec := { name := "roundDivides", fn := fun _ => fun
  | [d1, d2, d3] => { results := [.lit (.bool true)], args := [d1, d2, d3] }
  | _ => none }
def roundDividesRow : OpenClaim := { program := "ytplgppolmnnenaa", sum := "47cd97705dc72cebdc858c1855ecd4181783ca56a2e0dc566b769f24d39c6099", func := "brocade/brocadelaw02.RoundDivides", spec := "roundDivides", apart := false }
def RoundDividesSaid : Prop := roundDividesRow.holds Try.pinned (OpenSpec.ofChange roundDividesSpec)

/-- ITS FALSE NEIGHBOUR: 'it returns false'. Refute it at one input. -/
def roundDividesWrong : ChangeSpec := { name := "roundDivides", fn := fun _ => fun
  | [d1, d2, d3] => { results := [.lit (.bool false)], args := [d1, d2, d3] }
  | _ => none }
def RoundDividesWrongFalsely : Prop := roundDividesRow.holds Try.pinned (OpenSpec.ofChange roundDividesWrong)

/-- 'brocadelaw02.RoundBrackets': WHATEVER THE INPUT: true; the input reads as it did. -/
def roundBracketsSpec : ChangeSpec := { name := "roundBrackets", fn := fun _ => fun
  | [d1, d2, d3] => { results := [.lit (.bool true)], args := [d1, d2, d3] }
  | _ => none }
def roundBracketsRow : OpenClaim := { program := "ytplgppolmnnenaa", sum := "47cd97705dc72cebdc858c1855ecd4181783ca56a2e0dc566b769f24d39c6099", func := "brocade/brocadelaw02.RoundBrackets", spec := "roundBrackets", apart := false }
def RoundBracketsSaid : Prop := roundBracketsRow.holds Try.pinned (OpenSpec.ofChange roundBracketsSpec)

/-- ITS FALSE NEIGHBOUR: 'it returns false'. Refute it at one input. -/
def roundBracketsWrong : ChangeSpec := { name := "roundBrackets", fn := fun _ => fun
  | [d1, d2, d3] => { results := [.lit (.bool false)], args := [d1, d2, d3] }
  | _ => none }
def RoundBracketsWrongFalsely : Prop := roundBracketsRow.holds Try.pinned (OpenSpec.ofChange roundBracketsWrong)

/-- 'brocadelaw02.RoundQuantizes': WHATEVER THE INPUT: true; the input reads as it did. -/
def roundQuantizesSpec : ChangeSpec := { name := "roundQuantizes", fn := fun _ => fun
  | [d1, d2, d3] => { results := [.lit (.bool true)], args := [d1, d2, d3] }
  | _ => none }
def roundQuantizesRow : OpenClaim := { program := "ytplgppolmnnenaa", sum := "47cd97705dc72cebdc858c1855ecd4181783ca56a2e0dc566b769f24d39c6099", func := "brocade/brocadelaw02.RoundQuantizes", spec := "roundQuantizes", apart := false }
def RoundQuantizesSaid : Prop := roundQuantizesRow.holds Try.pinned (OpenSpec.ofChange roundQuantizesSpec)

/-- ITS FALSE NEIGHBOUR: 'it returns false'. Refute it at one input. -/
def roundQuantizesWrong : ChangeSpec := { name := "roundQuantizes", fn := fun _ => fun
  | [d1, d2, d3] => { results := [.lit (.bool false)], args := [d1, d2, d3] }
  | _ => none }
def RoundQuantizesWrongFalsely : Prop := roundQuantizesRow.holds Try.pinned (OpenSpec.ofChange roundQuantizesWrong)

/-- 'brocadelaw02.RoundErrs': WHATEVER THE INPUT: true; the input reads as it did. -/
def roundErrsSpec : ChangeSpec := { name := "roundErrs", fn := fun _ => fun
  | [d1, d2, d3] => { results := [.lit (.bool true)], args := [d1, d2, d3] }
  | _ => none }
def roundErrsRow : OpenClaim := { program := "ytplgppolmnnenaa", sum := "47cd97705dc72cebdc858c1855ecd4181783ca56a2e0dc566b769f24d39c6099", func := "brocade/brocadelaw02.RoundErrs", spec := "roundErrs", apart := false }
def RoundErrsSaid : Prop := roundErrsRow.holds Try.pinned (OpenSpec.ofChange roundErrsSpec)

/-- ITS FALSE NEIGHBOUR: 'it returns false'. Refute it at one input. -/
def roundErrsWrong : ChangeSpec := { name := "roundErrs", fn := fun _ => fun
  | [d1, d2, d3] => { results := [.lit (.bool false)], args := [d1, d2, d3] }
  | _ => none }
def RoundErrsWrongFalsely : Prop := roundErrsRow.holds Try.pinned (OpenSpec.ofChange roundErrsWrong)

/- THE SECOND FORM. 'bulk': how many values and letters a reading holds, each counted each time it is reached (what is shared counts as often as it is met; a slice's spare places count too). A statement '..UptoSaid' is the law's where the arguments, and the package variables that the reading takes, are together of bulk at most 1048576: NARROWER than '..Said'. Prove '..Said' where nothing that the law and all that it calls make is longer than what came in: it says more and counts as full. Else prove '..UptoSaid'. A law counts once. -/
mutual
def uptoBulk {H : Type} : DataW H → Nat
  | .lit (.string bytes) => bytes.length + 1
  | .lit _ => 1
  | .nil => 1
  | .ptr d => uptoBulk d + 1
  | .slice elems spare => uptoBulkAll elems + uptoBulkAll spare + 1
  | .agg parts => uptoBulkAll parts + 1
  | .iface _ d => uptoBulk d + 1
  | .map entries => uptoBulkEntries entries + 1
  | .held _ => 1
def uptoBulkAll {H : Type} : List (DataW H) → Nat
  | [] => 0
  | d :: r => uptoBulk d + uptoBulkAll r
def uptoBulkEntries {H : Type} : List (Lit × DataW H) → Nat
  | [] => 0
  | x :: r => uptoBulkEntry x + uptoBulkEntries r
def uptoBulkEntry {H : Type} : Lit × DataW H → Nat
  | (.string bytes, d) => bytes.length + uptoBulk d + 1
  | (_, d) => uptoBulk d + 1
 end
def uptoSmall : (H : Type) → List (DataW H) → Bool := fun _ ds => decide (uptoBulkAll ds ≤ 1048576)
def OpenSpec.upto (s : _root_.Go.ChangeSpec) : _root_.Go.OpenSpec := { _root_.Go.OpenSpec.ofChange s with cond := some uptoSmall }

/-- 'brocadelaw02.RoundNarrows', WHERE WHAT IT READS IS OF BULK AT MOST 1048576: true; the input reads as it did. -/
def roundNarrowsUptoRow : OpenClaim := { program := "ytplgppolmnnenaa", sum := "47cd97705dc72cebdc858c1855ecd4181783ca56a2e0dc566b769f24d39c6099", func := "brocade/brocadelaw02.RoundNarrows", spec := "roundNarrows", apart := false, narrowed := true }
def RoundNarrowsUptoSaid : Prop := roundNarrowsUptoRow.holds Try.pinned (OpenSpec.upto roundNarrowsSpec)

/-- 'brocadelaw02.RoundDivides', WHERE WHAT IT READS IS OF BULK AT MOST 1048576: true; the input reads as it did. -/
def roundDividesUptoRow : OpenClaim := { program := "ytplgppolmnnenaa", sum := "47cd97705dc72cebdc858c1855ecd4181783ca56a2e0dc566b769f24d39c6099", func := "brocade/brocadelaw02.RoundDivides", spec := "roundDivides", apart := false, narrowed := true }
def RoundDividesUptoSaid : Prop := roundDividesUptoRow.holds Try.pinned (OpenSpec.upto roundDividesSpec)

/-- 'brocadelaw02.RoundBrackets', WHERE WHAT IT READS IS OF BULK AT MOST 1048576: true; the input reads as it did. -/
def roundBracketsUptoRow : OpenClaim := { program := "ytplgppolmnnenaa", sum := "47cd97705dc72cebdc858c1855ecd4181783ca56a2e0dc566b769f24d39c6099", func := "brocade/brocadelaw02.RoundBrackets", spec := "roundBrackets", apart := false, narrowed := true }
def RoundBracketsUptoSaid : Prop := roundBracketsUptoRow.holds Try.pinned (OpenSpec.upto roundBracketsSpec)

/-- 'brocadelaw02.RoundQuantizes', WHERE WHAT IT READS IS OF BULK AT MOST 1048576: true; the input reads as it did. -/
def roundQuantizesUptoRow : OpenClaim := { program := "ytplgppolmnnenaa", sum := "47cd97705dc72cebdc858c1855ecd4181783ca56a2e0dc566b769f24d39c6099", func := "brocade/brocadelaw02.RoundQuantizes", spec := "roundQuantizes", apart := false, narrowed := true }
def RoundQuantizesUptoSaid : Prop := roundQuantizesUptoRow.holds Try.pinned (OpenSpec.upto roundQuantizesSpec)

/-- 'brocadelaw02.RoundErrs', WHERE WHAT IT READS IS OF BULK AT MOST 1048576: true; the input reads as it did. -/
def roundErrsUptoRow : OpenClaim := { program := "ytplgppolmnnenaa", sum := "47cd97705dc72cebdc858c1855ecd4181783ca56a2e0dc566b769f24d39c6099", func := "brocade/brocadelaw02.RoundErrs", spec := "roundErrs", apart := false, narrowed := true }
def RoundErrsUptoSaid : Prop := roundErrsUptoRow.holds Try.pinned (OpenSpec.upto roundErrsSpec)

end Rows
end Go.Proofs.Ytplgppolmnnenaa
