/-
  NARROWER THAN 'FOR EVERY INPUT', by the rows' own cells (each row's printed sentence says how): PeepholeUnreachable: laid · PeepholeSteps: laid · PeepholeOptimizes: laid · PeepholeComplete: laid · PeepholePreserves: laid.
  DERIVED. THE GIVEN ROWS OF THIS SEAT. 5 by the template 'for every input the law returns true; each argument reads behind the call as it read before'; 0 by the template 'total and deterministic' (their statements: YtbpojmhgifgfdaaDoorTotals.lean).
  GIVEN WITH THE SEED: the statements are not yours to turn. If you find one false, say at which input.
  Laid BY PROGRAM, IN A SANDBOX (cutbox-rows.mjs): the forced cells as the released guide's own fill.sh prints them over the translation ca81e31a1da62a73… (all of the seat's roots in one cut). By AI agents, Wed Nov 11 2026. No macro, syntax, notation, axiom, sorry.
-/
import Derived.Test.YtbpojmhgifgfdaaDoorChecked
import GoSem.Claim
import GoSem.ClaimJoined
import GoSem.ClaimMapViews
import Derived.JoinedTies
import Derived.KernelRfl
namespace Go.Proofs.YtbpojmhgifgfdaaDoor
/- THE CELL 'sum', in the pinned program and in every row, IS THE sha256 OF THE DUMP (.gsa) THAT YtbpojmhgifgfdaaDoorProg.lean LOADS. Nothing in Lean hashes anything: it is a label: what it is worth is what the hold of that sum in a sandbox is worth. -/
noncomputable def Tryd.pinned : Pinned := { name := "ytbpojmhgifgfdaadoor", sum := "ca81e31a1da62a73893b6e4debb1675e670c6fe39cca759b47ea2741a6b11c02", checked := Tryd.checked }
namespace Rows
def none {H : Type} : Left H := { results := [], args := [] }

/- WHAT THE LISTED PACKAGE-LEVEL VARIABLES READ AS WHEN THE CALL BEGINS. Each datum BY PROGRAM (the guide's laid-datum.mjs) off the statement by which the dump's own 'gosem.cut.vars' lays the variable. In a bare row this is a premise. The card (YtbpojmhgifgfdaaDoorCards.lean) ties it to the program's text. -/
def laid_brocade_isa_opcodes {H : Type} : DataW H := .agg [.agg [.lit (.string [104, 97, 108, 116]), .agg [.lit (.int .i64 0), .lit (.int .i64 0), .lit (.int .i64 0), .lit (.int .i64 0), .lit (.int .i64 0)]], .agg [.lit (.string [105, 110, 116]), .agg [.lit (.int .i64 1), .lit (.int .i64 8), .lit (.int .i64 0), .lit (.int .i64 0), .lit (.int .i64 0)]], .agg [.lit (.string [109, 111, 118, 101]), .agg [.lit (.int .i64 1), .lit (.int .i64 2), .lit (.int .i64 0), .lit (.int .i64 0), .lit (.int .i64 0)]], .agg [.lit (.string [97, 100, 100]), .agg [.lit (.int .i64 1), .lit (.int .i64 2), .lit (.int .i64 3), .lit (.int .i64 0), .lit (.int .i64 0)]], .agg [.lit (.string [109, 117, 108]), .agg [.lit (.int .i64 1), .lit (.int .i64 2), .lit (.int .i64 9), .lit (.int .i64 0), .lit (.int .i64 0)]], .agg [.lit (.string [109, 105, 110]), .agg [.lit (.int .i64 1), .lit (.int .i64 2), .lit (.int .i64 3), .lit (.int .i64 0), .lit (.int .i64 0)]], .agg [.lit (.string [109, 97, 120]), .agg [.lit (.int .i64 1), .lit (.int .i64 2), .lit (.int .i64 3), .lit (.int .i64 0), .lit (.int .i64 0)]], .agg [.lit (.string [106, 117, 109, 112]), .agg [.lit (.int .i64 7), .lit (.int .i64 0), .lit (.int .i64 0), .lit (.int .i64 0), .lit (.int .i64 0)]], .agg [.lit (.string [106, 108, 116]), .agg [.lit (.int .i64 7), .lit (.int .i64 2), .lit (.int .i64 3), .lit (.int .i64 0), .lit (.int .i64 0)]], .agg [.lit (.string [99, 111, 110, 115, 116]), .agg [.lit (.int .i64 4), .lit (.int .i64 14), .lit (.int .i64 0), .lit (.int .i64 0), .lit (.int .i64 0)]], .agg [.lit (.string [108, 111, 97, 100]), .agg [.lit (.int .i64 4), .lit (.int .i64 2), .lit (.int .i64 10), .lit (.int .i64 11), .lit (.int .i64 0)]], .agg [.lit (.string [115, 116, 111, 114, 101]), .agg [.lit (.int .i64 4), .lit (.int .i64 2), .lit (.int .i64 10), .lit (.int .i64 11), .lit (.int .i64 0)]], .agg [.lit (.string [111, 112]), .agg [.lit (.int .i64 15), .lit (.int .i64 4), .lit (.int .i64 5), .lit (.int .i64 6), .lit (.int .i64 17)]], .agg [.lit (.string [99, 97, 115, 116]), .agg [.lit (.int .i64 4), .lit (.int .i64 5), .lit (.int .i64 12), .lit (.int .i64 17), .lit (.int .i64 0)]], .agg [.lit (.string [116, 101, 115, 116]), .agg [.lit (.int .i64 16), .lit (.int .i64 7), .lit (.int .i64 5), .lit (.int .i64 6), .lit (.int .i64 17)]], .agg [.lit (.string [116, 111, 105, 110, 116]), .agg [.lit (.int .i64 1), .lit (.int .i64 5), .lit (.int .i64 13), .lit (.int .i64 0), .lit (.int .i64 0)]], .agg [.lit (.string [102, 114, 111, 109, 105, 110, 116]), .agg [.lit (.int .i64 4), .lit (.int .i64 2), .lit (.int .i64 0), .lit (.int .i64 0), .lit (.int .i64 0)]]]

/-- 'brocadelaw50.PeepholeUnreachable': WHATEVER THE INPUT: true; the input reads as it did. -/
def peepholeUnreachableSpec : ChangeSpec := { name := "peepholeUnreachable", fn := fun _ => fun
  | [d] => { results := [.lit (.bool true)], args := [d] }
  | _ => none }
def peepholeUnreachableRow : OpenClaim := { program := "ytbpojmhgifgfdaadoor", sum := "ca81e31a1da62a73893b6e4debb1675e670c6fe39cca759b47ea2741a6b11c02", func := "brocade/brocadelaw50.PeepholeUnreachable", spec := "peepholeUnreachable", named := ["brocade/isa.opcodes"], apart := false, laid := [("brocade/isa.opcodes", laid_brocade_isa_opcodes)] }
def PeepholeUnreachableSaid : Prop := peepholeUnreachableRow.holds Tryd.pinned (OpenSpec.ofChange peepholeUnreachableSpec)

/-- ITS FALSE NEIGHBOUR: 'it returns false'. Refute it at one input. -/
def peepholeUnreachableWrong : ChangeSpec := { name := "peepholeUnreachable", fn := fun _ => fun
  | [d] => { results := [.lit (.bool false)], args := [d] }
  | _ => none }
def PeepholeUnreachableWrongFalsely : Prop := peepholeUnreachableRow.holds Tryd.pinned (OpenSpec.ofChange peepholeUnreachableWrong)

/-- 'brocadelaw50.PeepholeSteps': WHATEVER THE INPUT: true; the input reads as it did. -/
def peepholeStepsSpec : ChangeSpec := { name := "peepholeSteps", fn := fun _ => fun
  | [d] => { results := [.lit (.bool true)], args := [d] }
  | _ => none }
def peepholeStepsRow : OpenClaim := { program := "ytbpojmhgifgfdaadoor", sum := "ca81e31a1da62a73893b6e4debb1675e670c6fe39cca759b47ea2741a6b11c02", func := "brocade/brocadelaw50.PeepholeSteps", spec := "peepholeSteps", named := ["brocade/isa.opcodes"], apart := false, laid := [("brocade/isa.opcodes", laid_brocade_isa_opcodes)] }
def PeepholeStepsSaid : Prop := peepholeStepsRow.holds Tryd.pinned (OpenSpec.ofChange peepholeStepsSpec)

/-- ITS FALSE NEIGHBOUR: 'it returns false'. Refute it at one input. -/
def peepholeStepsWrong : ChangeSpec := { name := "peepholeSteps", fn := fun _ => fun
  | [d] => { results := [.lit (.bool false)], args := [d] }
  | _ => none }
def PeepholeStepsWrongFalsely : Prop := peepholeStepsRow.holds Tryd.pinned (OpenSpec.ofChange peepholeStepsWrong)

/-- 'brocadelaw50.PeepholeOptimizes': WHATEVER THE INPUT: true; the input reads as it did. -/
def peepholeOptimizesSpec : ChangeSpec := { name := "peepholeOptimizes", fn := fun _ => fun
  | [d] => { results := [.lit (.bool true)], args := [d] }
  | _ => none }
def peepholeOptimizesRow : OpenClaim := { program := "ytbpojmhgifgfdaadoor", sum := "ca81e31a1da62a73893b6e4debb1675e670c6fe39cca759b47ea2741a6b11c02", func := "brocade/brocadelaw50.PeepholeOptimizes", spec := "peepholeOptimizes", named := ["brocade/isa.opcodes"], apart := false, laid := [("brocade/isa.opcodes", laid_brocade_isa_opcodes)] }
def PeepholeOptimizesSaid : Prop := peepholeOptimizesRow.holds Tryd.pinned (OpenSpec.ofChange peepholeOptimizesSpec)

/-- ITS FALSE NEIGHBOUR: 'it returns false'. Refute it at one input. -/
def peepholeOptimizesWrong : ChangeSpec := { name := "peepholeOptimizes", fn := fun _ => fun
  | [d] => { results := [.lit (.bool false)], args := [d] }
  | _ => none }
def PeepholeOptimizesWrongFalsely : Prop := peepholeOptimizesRow.holds Tryd.pinned (OpenSpec.ofChange peepholeOptimizesWrong)

/-- 'brocadelaw50.PeepholeComplete': WHATEVER THE INPUT: true; the input reads as it did. -/
def peepholeCompleteSpec : ChangeSpec := { name := "peepholeComplete", fn := fun _ => fun
  | [d] => { results := [.lit (.bool true)], args := [d] }
  | _ => none }
def peepholeCompleteRow : OpenClaim := { program := "ytbpojmhgifgfdaadoor", sum := "ca81e31a1da62a73893b6e4debb1675e670c6fe39cca759b47ea2741a6b11c02", func := "brocade/brocadelaw50.PeepholeComplete", spec := "peepholeComplete", named := ["brocade/isa.opcodes"], apart := false, laid := [("brocade/isa.opcodes", laid_brocade_isa_opcodes)] }
def PeepholeCompleteSaid : Prop := peepholeCompleteRow.holds Tryd.pinned (OpenSpec.ofChange peepholeCompleteSpec)

/-- ITS FALSE NEIGHBOUR: 'it returns false'. Refute it at one input. -/
def peepholeCompleteWrong : ChangeSpec := { name := "peepholeComplete", fn := fun _ => fun
  | [d] => { results := [.lit (.bool false)], args := [d] }
  | _ => none }
def PeepholeCompleteWrongFalsely : Prop := peepholeCompleteRow.holds Tryd.pinned (OpenSpec.ofChange peepholeCompleteWrong)

/-- 'brocadelaw50.PeepholePreserves': WHATEVER THE INPUT: true; the input reads as it did. -/
def peepholePreservesSpec : ChangeSpec := { name := "peepholePreserves", fn := fun _ => fun
  | [d1, d2, d3] => { results := [.lit (.bool true)], args := [d1, d2, d3] }
  | _ => none }
def peepholePreservesRow : OpenClaim := { program := "ytbpojmhgifgfdaadoor", sum := "ca81e31a1da62a73893b6e4debb1675e670c6fe39cca759b47ea2741a6b11c02", func := "brocade/brocadelaw50.PeepholePreserves", spec := "peepholePreserves", named := ["brocade/isa.opcodes"], apart := false, laid := [("brocade/isa.opcodes", laid_brocade_isa_opcodes)] }
def PeepholePreservesSaid : Prop := peepholePreservesRow.holds Tryd.pinned (OpenSpec.ofChange peepholePreservesSpec)

/-- ITS FALSE NEIGHBOUR: 'it returns false'. Refute it at one input. -/
def peepholePreservesWrong : ChangeSpec := { name := "peepholePreserves", fn := fun _ => fun
  | [d1, d2, d3] => { results := [.lit (.bool false)], args := [d1, d2, d3] }
  | _ => none }
def PeepholePreservesWrongFalsely : Prop := peepholePreservesRow.holds Tryd.pinned (OpenSpec.ofChange peepholePreservesWrong)

/- THE SECOND FORM. 'bulk': how many values and letters a reading holds, each counted each time it is reached (what is shared counts as often as it is met; a slice's spare places count too). A statement '..UptoSaid' is the law's where the arguments, and the package variables that the reading takes, are together of bulk at most 1048576: NARROWER than '..Said'. Prove '..Said' where nothing that the law and all that it calls make is longer than what came in: it says more and counts as full. Else prove '..UptoSaid'. A law counts once. -/
mutual
def uptoBulk {H : Type} : DataW H → Nat
  | .lit (.string bytes) => bytes.length + 1
  | .lit _ => 1
  | .nil => 1
  | .ptr d => uptoBulk d + 1
  | .slice elems spare => uptoBulkAll elems + uptoBulkAll spare + 1
  | .agg parts => uptoBulkAll parts + 1
  | .iface _ d => uptoBulk d + 1
  | .map entries => uptoBulkEntries entries + 1
  | .held _ => 1
def uptoBulkAll {H : Type} : List (DataW H) → Nat
  | [] => 0
  | d :: r => uptoBulk d + uptoBulkAll r
def uptoBulkEntries {H : Type} : List (Lit × DataW H) → Nat
  | [] => 0
  | x :: r => uptoBulkEntry x + uptoBulkEntries r
def uptoBulkEntry {H : Type} : Lit × DataW H → Nat
  | (.string bytes, d) => bytes.length + uptoBulk d + 1
  | (_, d) => uptoBulk d + 1
 end
def uptoSmall : (H : Type) → List (DataW H) → Bool := fun _ ds => decide (uptoBulkAll ds ≤ 1048576)
def OpenSpec.upto (s : _root_.Go.ChangeSpec) : _root_.Go.OpenSpec := { _root_.Go.OpenSpec.ofChange s with cond := some uptoSmall }

/-- 'brocadelaw50.PeepholeUnreachable', WHERE WHAT IT READS IS OF BULK AT MOST 1048576: true; the input reads as it did. -/
def peepholeUnreachableUptoRow : OpenClaim := { program := "ytbpojmhgifgfdaadoor", sum := "ca81e31a1da62a73893b6e4debb1675e670c6fe39cca759b47ea2741a6b11c02", func := "brocade/brocadelaw50.PeepholeUnreachable", spec := "peepholeUnreachable", named := ["brocade/isa.opcodes"], apart := false, laid := [("brocade/isa.opcodes", laid_brocade_isa_opcodes)], narrowed := true }
def PeepholeUnreachableUptoSaid : Prop := peepholeUnreachableUptoRow.holds Tryd.pinned (OpenSpec.upto peepholeUnreachableSpec)

/-- 'brocadelaw50.PeepholeSteps', WHERE WHAT IT READS IS OF BULK AT MOST 1048576: true; the input reads as it did. -/
def peepholeStepsUptoRow : OpenClaim := { program := "ytbpojmhgifgfdaadoor", sum := "ca81e31a1da62a73893b6e4debb1675e670c6fe39cca759b47ea2741a6b11c02", func := "brocade/brocadelaw50.PeepholeSteps", spec := "peepholeSteps", named := ["brocade/isa.opcodes"], apart := false, laid := [("brocade/isa.opcodes", laid_brocade_isa_opcodes)], narrowed := true }
def PeepholeStepsUptoSaid : Prop := peepholeStepsUptoRow.holds Tryd.pinned (OpenSpec.upto peepholeStepsSpec)

/-- 'brocadelaw50.PeepholeOptimizes', WHERE WHAT IT READS IS OF BULK AT MOST 1048576: true; the input reads as it did. -/
def peepholeOptimizesUptoRow : OpenClaim := { program := "ytbpojmhgifgfdaadoor", sum := "ca81e31a1da62a73893b6e4debb1675e670c6fe39cca759b47ea2741a6b11c02", func := "brocade/brocadelaw50.PeepholeOptimizes", spec := "peepholeOptimizes", named := ["brocade/isa.opcodes"], apart := false, laid := [("brocade/isa.opcodes", laid_brocade_isa_opcodes)], narrowed := true }
def PeepholeOptimizesUptoSaid : Prop := peepholeOptimizesUptoRow.holds Tryd.pinned (OpenSpec.upto peepholeOptimizesSpec)

/-- 'brocadelaw50.PeepholeComplete', WHERE WHAT IT READS IS OF BULK AT MOST 1048576: true; the input reads as it did. -/
def peepholeCompleteUptoRow : OpenClaim := { program := "ytbpojmhgifgfdaadoor", sum := "ca81e31a1da62a73893b6e4debb1675e670c6fe39cca759b47ea2741a6b11c02", func := "brocade/brocadelaw50.PeepholeComplete", spec := "peepholeComplete", named := ["brocade/isa.opcodes"], apart := false, laid := [("brocade/isa.opcodes", laid_brocade_isa_opcodes)], narrowed := true }
def PeepholeCompleteUptoSaid : Prop := peepholeCompleteUptoRow.holds Tryd.pinned (OpenSpec.upto peepholeCompleteSpec)

/-- 'brocadelaw50.PeepholePreserves', WHERE WHAT IT READS IS OF BULK AT MOST 1048576: true; the input reads as it did. -/
def peepholePreservesUptoRow : OpenClaim := { program := "ytbpojmhgifgfdaadoor", sum := "ca81e31a1da62a73893b6e4debb1675e670c6fe39cca759b47ea2741a6b11c02", func := "brocade/brocadelaw50.PeepholePreserves", spec := "peepholePreserves", named := ["brocade/isa.opcodes"], apart := false, laid := [("brocade/isa.opcodes", laid_brocade_isa_opcodes)], narrowed := true }
def PeepholePreservesUptoSaid : Prop := peepholePreservesUptoRow.holds Tryd.pinned (OpenSpec.upto peepholePreservesSpec)

end Rows
end Go.Proofs.YtbpojmhgifgfdaaDoor
