/-
  No cell of these rows narrows 'for every input' (looked for: loops, veiled, ifaces, maps, wideKeys, modest, calm, conditions, laid).
  DERIVED. THE GIVEN ROWS OF THIS SEAT. 7 by the template 'for every input the law returns true; each argument reads behind the call as it read before'; 0 by the template 'total and deterministic' (their statements: YtknojjmbhbbcmaaTotals.lean).
  GIVEN WITH THE SEED: the statements are not yours to turn. If you find one false, say at which input.
  Laid BY PROGRAM, IN A SANDBOX (cutbox-rows.mjs): the forced cells as the released guide's own fill.sh prints them over the translation c74a54f613b79520… (all of the seat's roots in one cut). By AI agents, Wed Nov 11 2026. No macro, syntax, notation, axiom, sorry.
-/
import Derived.Test.YtknojjmbhbbcmaaChecked
import GoSem.Claim
import GoSem.ClaimJoined
import GoSem.ClaimMapViews
import Derived.JoinedTies
import Derived.KernelRfl
namespace Go.Proofs.Ytknojjmbhbbcmaa
/- THE CELL 'sum', in the pinned program and in every row, IS THE sha256 OF THE DUMP (.gsa) THAT YtknojjmbhbbcmaaProg.lean LOADS. Nothing in Lean hashes anything: it is a label: what it is worth is what the hold of that sum in a sandbox is worth. -/
noncomputable def Try.pinned : Pinned := { name := "ytknojjmbhbbcmaa", sum := "c74a54f613b7952024fec6ff626e3945105d725faea30910f60f1d4af7297931", checked := Try.checked }
namespace Rows
def none {H : Type} : Left H := { results := [], args := [] }

/-- 'brocadelaw03.FixedValid': WHATEVER THE INPUT: true; the input reads as it did. -/
def fixedValidSpec : ChangeSpec := { name := "fixedValid", fn := fun _ => fun
  | [d1, d2] => { results := [.lit (.bool true)], args := [d1, d2] }
  | _ => none }
def fixedValidRow : OpenClaim := { program := "ytknojjmbhbbcmaa", sum := "c74a54f613b7952024fec6ff626e3945105d725faea30910f60f1d4af7297931", func := "brocade/brocadelaw03.FixedValid", spec := "fixedValid", unfollowed := true, recurses := true, apart := false }
def FixedValidSaid : Prop := fixedValidRow.holds Try.pinned (OpenSpec.ofChange fixedValidSpec)

/-- ITS FALSE NEIGHBOUR: 'it returns false'. Refute it at one input. -/
def fixedValidWrong : ChangeSpec := { name := "fixedValid", fn := fun _ => fun
  | [d1, d2] => { results := [.lit (.bool false)], args := [d1, d2] }
  | _ => none }
def FixedValidWrongFalsely : Prop := fixedValidRow.holds Try.pinned (OpenSpec.ofChange fixedValidWrong)

/-- 'brocadelaw03.FixedFromFrac': WHATEVER THE INPUT: true; the input reads as it did. -/
def fixedFromFracSpec : ChangeSpec := { name := "fixedFromFrac", fn := fun _ => fun
  | [d1, d2] => { results := [.lit (.bool true)], args := [d1, d2] }
  | _ => none }
def fixedFromFracRow : OpenClaim := { program := "ytknojjmbhbbcmaa", sum := "c74a54f613b7952024fec6ff626e3945105d725faea30910f60f1d4af7297931", func := "brocade/brocadelaw03.FixedFromFrac", spec := "fixedFromFrac", unfollowed := true, recurses := true, apart := false }
def FixedFromFracSaid : Prop := fixedFromFracRow.holds Try.pinned (OpenSpec.ofChange fixedFromFracSpec)

/-- ITS FALSE NEIGHBOUR: 'it returns false'. Refute it at one input. -/
def fixedFromFracWrong : ChangeSpec := { name := "fixedFromFrac", fn := fun _ => fun
  | [d1, d2] => { results := [.lit (.bool false)], args := [d1, d2] }
  | _ => none }
def FixedFromFracWrongFalsely : Prop := fixedFromFracRow.holds Try.pinned (OpenSpec.ofChange fixedFromFracWrong)

/-- 'brocadelaw03.FixedError': WHATEVER THE INPUT: true; the input reads as it did. -/
def fixedErrorSpec : ChangeSpec := { name := "fixedError", fn := fun _ => fun
  | [d1, d2] => { results := [.lit (.bool true)], args := [d1, d2] }
  | _ => none }
def fixedErrorRow : OpenClaim := { program := "ytknojjmbhbbcmaa", sum := "c74a54f613b7952024fec6ff626e3945105d725faea30910f60f1d4af7297931", func := "brocade/brocadelaw03.FixedError", spec := "fixedError", unfollowed := true, recurses := true, apart := false }
def FixedErrorSaid : Prop := fixedErrorRow.holds Try.pinned (OpenSpec.ofChange fixedErrorSpec)

/-- ITS FALSE NEIGHBOUR: 'it returns false'. Refute it at one input. -/
def fixedErrorWrong : ChangeSpec := { name := "fixedError", fn := fun _ => fun
  | [d1, d2] => { results := [.lit (.bool false)], args := [d1, d2] }
  | _ => none }
def FixedErrorWrongFalsely : Prop := fixedErrorRow.holds Try.pinned (OpenSpec.ofChange fixedErrorWrong)

/-- 'brocadelaw03.FixedMonotone': WHATEVER THE INPUT: true; the input reads as it did. -/
def fixedMonotoneSpec : ChangeSpec := { name := "fixedMonotone", fn := fun _ => fun
  | [d1, d2, d3] => { results := [.lit (.bool true)], args := [d1, d2, d3] }
  | _ => none }
def fixedMonotoneRow : OpenClaim := { program := "ytknojjmbhbbcmaa", sum := "c74a54f613b7952024fec6ff626e3945105d725faea30910f60f1d4af7297931", func := "brocade/brocadelaw03.FixedMonotone", spec := "fixedMonotone", unfollowed := true, recurses := true, apart := false }
def FixedMonotoneSaid : Prop := fixedMonotoneRow.holds Try.pinned (OpenSpec.ofChange fixedMonotoneSpec)

/-- ITS FALSE NEIGHBOUR: 'it returns false'. Refute it at one input. -/
def fixedMonotoneWrong : ChangeSpec := { name := "fixedMonotone", fn := fun _ => fun
  | [d1, d2, d3] => { results := [.lit (.bool false)], args := [d1, d2, d3] }
  | _ => none }
def FixedMonotoneWrongFalsely : Prop := fixedMonotoneRow.holds Try.pinned (OpenSpec.ofChange fixedMonotoneWrong)

/-- 'brocadelaw03.FixedGroup': WHATEVER THE INPUT: true; the input reads as it did. -/
def fixedGroupSpec : ChangeSpec := { name := "fixedGroup", fn := fun _ => fun
  | [d1, d2, d3, d4] => { results := [.lit (.bool true)], args := [d1, d2, d3, d4] }
  | _ => none }
def fixedGroupRow : OpenClaim := { program := "ytknojjmbhbbcmaa", sum := "c74a54f613b7952024fec6ff626e3945105d725faea30910f60f1d4af7297931", func := "brocade/brocadelaw03.FixedGroup", spec := "fixedGroup", unfollowed := true, recurses := true, apart := false }
def FixedGroupSaid : Prop := fixedGroupRow.holds Try.pinned (OpenSpec.ofChange fixedGroupSpec)

/-- ITS FALSE NEIGHBOUR: 'it returns false'. Refute it at one input. -/
def fixedGroupWrong : ChangeSpec := { name := "fixedGroup", fn := fun _ => fun
  | [d1, d2, d3, d4] => { results := [.lit (.bool false)], args := [d1, d2, d3, d4] }
  | _ => none }
def FixedGroupWrongFalsely : Prop := fixedGroupRow.holds Try.pinned (OpenSpec.ofChange fixedGroupWrong)

/-- 'brocadelaw03.FixedToFrac': WHATEVER THE INPUT: true; the input reads as it did. -/
def fixedToFracSpec : ChangeSpec := { name := "fixedToFrac", fn := fun _ => fun
  | [d1, d2] => { results := [.lit (.bool true)], args := [d1, d2] }
  | _ => none }
def fixedToFracRow : OpenClaim := { program := "ytknojjmbhbbcmaa", sum := "c74a54f613b7952024fec6ff626e3945105d725faea30910f60f1d4af7297931", func := "brocade/brocadelaw03.FixedToFrac", spec := "fixedToFrac", unfollowed := true, recurses := true, apart := false }
def FixedToFracSaid : Prop := fixedToFracRow.holds Try.pinned (OpenSpec.ofChange fixedToFracSpec)

/-- ITS FALSE NEIGHBOUR: 'it returns false'. Refute it at one input. -/
def fixedToFracWrong : ChangeSpec := { name := "fixedToFrac", fn := fun _ => fun
  | [d1, d2] => { results := [.lit (.bool false)], args := [d1, d2] }
  | _ => none }
def FixedToFracWrongFalsely : Prop := fixedToFracRow.holds Try.pinned (OpenSpec.ofChange fixedToFracWrong)

/-- 'brocadelaw03.FixedArithmetic': WHATEVER THE INPUT: true; the input reads as it did. -/
def fixedArithmeticSpec : ChangeSpec := { name := "fixedArithmetic", fn := fun _ => fun
  | [d1, d2, d3] => { results := [.lit (.bool true)], args := [d1, d2, d3] }
  | _ => none }
def fixedArithmeticRow : OpenClaim := { program := "ytknojjmbhbbcmaa", sum := "c74a54f613b7952024fec6ff626e3945105d725faea30910f60f1d4af7297931", func := "brocade/brocadelaw03.FixedArithmetic", spec := "fixedArithmetic", unfollowed := true, recurses := true, apart := false }
def FixedArithmeticSaid : Prop := fixedArithmeticRow.holds Try.pinned (OpenSpec.ofChange fixedArithmeticSpec)

/-- ITS FALSE NEIGHBOUR: 'it returns false'. Refute it at one input. -/
def fixedArithmeticWrong : ChangeSpec := { name := "fixedArithmetic", fn := fun _ => fun
  | [d1, d2, d3] => { results := [.lit (.bool false)], args := [d1, d2, d3] }
  | _ => none }
def FixedArithmeticWrongFalsely : Prop := fixedArithmeticRow.holds Try.pinned (OpenSpec.ofChange fixedArithmeticWrong)

/- THE SECOND FORM. 'bulk': how many values and letters a reading holds, each counted each time it is reached (what is shared counts as often as it is met; a slice's spare places count too). A statement '..UptoSaid' is the law's where the arguments, and the package variables that the reading takes, are together of bulk at most 1048576: NARROWER than '..Said'. Prove '..Said' where nothing that the law and all that it calls make is longer than what came in: it says more and counts as full. Else prove '..UptoSaid'. A law counts once. -/
mutual
def uptoBulk {H : Type} : DataW H → Nat
  | .lit (.string bytes) => bytes.length + 1
  | .lit _ => 1
  | .nil => 1
  | .ptr d => uptoBulk d + 1
  | .slice elems spare => uptoBulkAll elems + uptoBulkAll spare + 1
  | .agg parts => uptoBulkAll parts + 1
  | .iface _ d => uptoBulk d + 1
  | .map entries => uptoBulkEntries entries + 1
  | .held _ => 1
def uptoBulkAll {H : Type} : List (DataW H) → Nat
  | [] => 0
  | d :: r => uptoBulk d + uptoBulkAll r
def uptoBulkEntries {H : Type} : List (Lit × DataW H) → Nat
  | [] => 0
  | x :: r => uptoBulkEntry x + uptoBulkEntries r
def uptoBulkEntry {H : Type} : Lit × DataW H → Nat
  | (.string bytes, d) => bytes.length + uptoBulk d + 1
  | (_, d) => uptoBulk d + 1
 end
def uptoSmall : (H : Type) → List (DataW H) → Bool := fun _ ds => decide (uptoBulkAll ds ≤ 1048576)
def OpenSpec.upto (s : _root_.Go.ChangeSpec) : _root_.Go.OpenSpec := { _root_.Go.OpenSpec.ofChange s with cond := some uptoSmall }

/-- 'brocadelaw03.FixedValid', WHERE WHAT IT READS IS OF BULK AT MOST 1048576: true; the input reads as it did. -/
def fixedValidUptoRow : OpenClaim := { program := "ytknojjmbhbbcmaa", sum := "c74a54f613b7952024fec6ff626e3945105d725faea30910f60f1d4af7297931", func := "brocade/brocadelaw03.FixedValid", spec := "fixedValid", unfollowed := true, recurses := true, apart := false, narrowed := true }
def FixedValidUptoSaid : Prop := fixedValidUptoRow.holds Try.pinned (OpenSpec.upto fixedValidSpec)

/-- 'brocadelaw03.FixedFromFrac', WHERE WHAT IT READS IS OF BULK AT MOST 1048576: true; the input reads as it did. -/
def fixedFromFracUptoRow : OpenClaim := { program := "ytknojjmbhbbcmaa", sum := "c74a54f613b7952024fec6ff626e3945105d725faea30910f60f1d4af7297931", func := "brocade/brocadelaw03.FixedFromFrac", spec := "fixedFromFrac", unfollowed := true, recurses := true, apart := false, narrowed := true }
def FixedFromFracUptoSaid : Prop := fixedFromFracUptoRow.holds Try.pinned (OpenSpec.upto fixedFromFracSpec)

/-- 'brocadelaw03.FixedError', WHERE WHAT IT READS IS OF BULK AT MOST 1048576: true; the input reads as it did. -/
def fixedErrorUptoRow : OpenClaim := { program := "ytknojjmbhbbcmaa", sum := "c74a54f613b7952024fec6ff626e3945105d725faea30910f60f1d4af7297931", func := "brocade/brocadelaw03.FixedError", spec := "fixedError", unfollowed := true, recurses := true, apart := false, narrowed := true }
def FixedErrorUptoSaid : Prop := fixedErrorUptoRow.holds Try.pinned (OpenSpec.upto fixedErrorSpec)

/-- 'brocadelaw03.FixedMonotone', WHERE WHAT IT READS IS OF BULK AT MOST 1048576: true; the input reads as it did. -/
def fixedMonotoneUptoRow : OpenClaim := { program := "ytknojjmbhbbcmaa", sum := "c74a54f613b7952024fec6ff626e3945105d725faea30910f60f1d4af7297931", func := "brocade/brocadelaw03.FixedMonotone", spec := "fixedMonotone", unfollowed := true, recurses := true, apart := false, narrowed := true }
def FixedMonotoneUptoSaid : Prop := fixedMonotoneUptoRow.holds Try.pinned (OpenSpec.upto fixedMonotoneSpec)

/-- 'brocadelaw03.FixedGroup', WHERE WHAT IT READS IS OF BULK AT MOST 1048576: true; the input reads as it did. -/
def fixedGroupUptoRow : OpenClaim := { program := "ytknojjmbhbbcmaa", sum := "c74a54f613b7952024fec6ff626e3945105d725faea30910f60f1d4af7297931", func := "brocade/brocadelaw03.FixedGroup", spec := "fixedGroup", unfollowed := true, recurses := true, apart := false, narrowed := true }
def FixedGroupUptoSaid : Prop := fixedGroupUptoRow.holds Try.pinned (OpenSpec.upto fixedGroupSpec)

/-- 'brocadelaw03.FixedToFrac', WHERE WHAT IT READS IS OF BULK AT MOST 1048576: true; the input reads as it did. -/
def fixedToFracUptoRow : OpenClaim := { program := "ytknojjmbhbbcmaa", sum := "c74a54f613b7952024fec6ff626e3945105d725faea30910f60f1d4af7297931", func := "brocade/brocadelaw03.FixedToFrac", spec := "fixedToFrac", unfollowed := true, recurses := true, apart := false, narrowed := true }
def FixedToFracUptoSaid : Prop := fixedToFracUptoRow.holds Try.pinned (OpenSpec.upto fixedToFracSpec)

/-- 'brocadelaw03.FixedArithmetic', WHERE WHAT IT READS IS OF BULK AT MOST 1048576: true; the input reads as it did. -/
def fixedArithmeticUptoRow : OpenClaim := { program := "ytknojjmbhbbcmaa", sum := "c74a54f613b7952024fec6ff626e3945105d725faea30910f60f1d4af7297931", func := "brocade/brocadelaw03.FixedArithmetic", spec := "fixedArithmetic", unfollowed := true, recurses := true, apart := false, narrowed := true }
def FixedArithmeticUptoSaid : Prop := fixedArithmeticUptoRow.holds Try.pinned (OpenSpec.upto fixedArithmeticSpec)

end Rows
end Go.Proofs.Ytknojjmbhbbcmaa
