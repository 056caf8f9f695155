/-
  NARROWER THAN 'FOR EVERY INPUT', by the rows' own cells (each row's printed sentence says how): DepgraphEdges: loops · DepgraphReachable: loops · DepgraphLevels: loops · DepgraphRemovesDead: loops · DepgraphSorts: loops · DepgraphBetween: loops.
  DERIVED. THE GIVEN ROWS OF THIS SEAT. 6 by the template 'for every input the law returns true; each argument reads behind the call as it read before'; 0 by the template 'total and deterministic' (their statements: YtpccaifhcmcegaaTotals.lean).
  GIVEN WITH THE SEED: the statements are not yours to turn. If you find one false, say at which input.
  Laid BY PROGRAM, IN A SANDBOX (cutbox-rows.mjs): the forced cells as the released guide's own fill.sh prints them over the translation 2b51510b53254ac4… (all of the seat's roots in one cut). By AI agents, Wed Nov 11 2026. No macro, syntax, notation, axiom, sorry.
-/
import Derived.Test.YtpccaifhcmcegaaChecked
import GoSem.Claim
import GoSem.ClaimJoined
import GoSem.ClaimMapViews
import Derived.JoinedTies
import Derived.KernelRfl
namespace Go.Proofs.Ytpccaifhcmcegaa
/- THE CELL 'sum', in the pinned program and in every row, IS THE sha256 OF THE DUMP (.gsa) THAT YtpccaifhcmcegaaProg.lean LOADS. Nothing in Lean hashes anything: it is a label: what it is worth is what the hold of that sum in a sandbox is worth. -/
noncomputable def Try.pinned : Pinned := { name := "ytpccaifhcmcegaa", sum := "2b51510b53254ac4ec87351f56d45f6c14c9c42c4917d9d5104c36e8e628afa0", checked := Try.checked }
namespace Rows
def none {H : Type} : Left H := { results := [], args := [] }

/-- 'brocadelaw20.DepgraphEdges': WHATEVER THE INPUT: true; the input reads as it did. -/
def depgraphEdgesSpec : ChangeSpec := { name := "depgraphEdges", fn := fun _ => fun
  | [d1, d2] => { results := [.lit (.bool true)], args := [d1, d2] }
  | _ => none }
def depgraphEdgesRow : OpenClaim := { program := "ytpccaifhcmcegaa", sum := "2b51510b53254ac4ec87351f56d45f6c14c9c42c4917d9d5104c36e8e628afa0", func := "brocade/brocadelaw20.DepgraphEdges", spec := "depgraphEdges", unfollowed := true, recurses := true, loops := true, apart := false }
def DepgraphEdgesSaid : Prop := depgraphEdgesRow.holds Try.pinned (OpenSpec.ofChange depgraphEdgesSpec)

/-- ITS FALSE NEIGHBOUR: 'it returns false'. Refute it at one input. -/
def depgraphEdgesWrong : ChangeSpec := { name := "depgraphEdges", fn := fun _ => fun
  | [d1, d2] => { results := [.lit (.bool false)], args := [d1, d2] }
  | _ => none }
def DepgraphEdgesWrongFalsely : Prop := depgraphEdgesRow.holds Try.pinned (OpenSpec.ofChange depgraphEdgesWrong)

/-- 'brocadelaw20.DepgraphReachable': WHATEVER THE INPUT: true; the input reads as it did. -/
def depgraphReachableSpec : ChangeSpec := { name := "depgraphReachable", fn := fun _ => fun
  | [d1, d2] => { results := [.lit (.bool true)], args := [d1, d2] }
  | _ => none }
def depgraphReachableRow : OpenClaim := { program := "ytpccaifhcmcegaa", sum := "2b51510b53254ac4ec87351f56d45f6c14c9c42c4917d9d5104c36e8e628afa0", func := "brocade/brocadelaw20.DepgraphReachable", spec := "depgraphReachable", unfollowed := true, recurses := true, loops := true, apart := false }
def DepgraphReachableSaid : Prop := depgraphReachableRow.holds Try.pinned (OpenSpec.ofChange depgraphReachableSpec)

/-- ITS FALSE NEIGHBOUR: 'it returns false'. Refute it at one input. -/
def depgraphReachableWrong : ChangeSpec := { name := "depgraphReachable", fn := fun _ => fun
  | [d1, d2] => { results := [.lit (.bool false)], args := [d1, d2] }
  | _ => none }
def DepgraphReachableWrongFalsely : Prop := depgraphReachableRow.holds Try.pinned (OpenSpec.ofChange depgraphReachableWrong)

/-- 'brocadelaw20.DepgraphLevels': WHATEVER THE INPUT: true; the input reads as it did. -/
def depgraphLevelsSpec : ChangeSpec := { name := "depgraphLevels", fn := fun _ => fun
  | [d] => { results := [.lit (.bool true)], args := [d] }
  | _ => none }
def depgraphLevelsRow : OpenClaim := { program := "ytpccaifhcmcegaa", sum := "2b51510b53254ac4ec87351f56d45f6c14c9c42c4917d9d5104c36e8e628afa0", func := "brocade/brocadelaw20.DepgraphLevels", spec := "depgraphLevels", unfollowed := true, recurses := true, loops := true, apart := false }
def DepgraphLevelsSaid : Prop := depgraphLevelsRow.holds Try.pinned (OpenSpec.ofChange depgraphLevelsSpec)

/-- ITS FALSE NEIGHBOUR: 'it returns false'. Refute it at one input. -/
def depgraphLevelsWrong : ChangeSpec := { name := "depgraphLevels", fn := fun _ => fun
  | [d] => { results := [.lit (.bool false)], args := [d] }
  | _ => none }
def DepgraphLevelsWrongFalsely : Prop := depgraphLevelsRow.holds Try.pinned (OpenSpec.ofChange depgraphLevelsWrong)

/-- 'brocadelaw20.DepgraphRemovesDead': WHATEVER THE INPUT: true; the input reads as it did. -/
def depgraphRemovesDeadSpec : ChangeSpec := { name := "depgraphRemovesDead", fn := fun _ => fun
  | [d] => { results := [.lit (.bool true)], args := [d] }
  | _ => none }
def depgraphRemovesDeadRow : OpenClaim := { program := "ytpccaifhcmcegaa", sum := "2b51510b53254ac4ec87351f56d45f6c14c9c42c4917d9d5104c36e8e628afa0", func := "brocade/brocadelaw20.DepgraphRemovesDead", spec := "depgraphRemovesDead", unfollowed := true, recurses := true, loops := true, apart := false }
def DepgraphRemovesDeadSaid : Prop := depgraphRemovesDeadRow.holds Try.pinned (OpenSpec.ofChange depgraphRemovesDeadSpec)

/-- ITS FALSE NEIGHBOUR: 'it returns false'. Refute it at one input. -/
def depgraphRemovesDeadWrong : ChangeSpec := { name := "depgraphRemovesDead", fn := fun _ => fun
  | [d] => { results := [.lit (.bool false)], args := [d] }
  | _ => none }
def DepgraphRemovesDeadWrongFalsely : Prop := depgraphRemovesDeadRow.holds Try.pinned (OpenSpec.ofChange depgraphRemovesDeadWrong)

/-- 'brocadelaw20.DepgraphSorts': WHATEVER THE INPUT: true; the input reads as it did. -/
def depgraphSortsSpec : ChangeSpec := { name := "depgraphSorts", fn := fun _ => fun
  | [d] => { results := [.lit (.bool true)], args := [d] }
  | _ => none }
def depgraphSortsRow : OpenClaim := { program := "ytpccaifhcmcegaa", sum := "2b51510b53254ac4ec87351f56d45f6c14c9c42c4917d9d5104c36e8e628afa0", func := "brocade/brocadelaw20.DepgraphSorts", spec := "depgraphSorts", unfollowed := true, recurses := true, loops := true, apart := false }
def DepgraphSortsSaid : Prop := depgraphSortsRow.holds Try.pinned (OpenSpec.ofChange depgraphSortsSpec)

/-- ITS FALSE NEIGHBOUR: 'it returns false'. Refute it at one input. -/
def depgraphSortsWrong : ChangeSpec := { name := "depgraphSorts", fn := fun _ => fun
  | [d] => { results := [.lit (.bool false)], args := [d] }
  | _ => none }
def DepgraphSortsWrongFalsely : Prop := depgraphSortsRow.holds Try.pinned (OpenSpec.ofChange depgraphSortsWrong)

/-- 'brocadelaw20.DepgraphBetween': WHATEVER THE INPUT: true; the input reads as it did. -/
def depgraphBetweenSpec : ChangeSpec := { name := "depgraphBetween", fn := fun _ => fun
  | [d1, d2, d3] => { results := [.lit (.bool true)], args := [d1, d2, d3] }
  | _ => none }
def depgraphBetweenRow : OpenClaim := { program := "ytpccaifhcmcegaa", sum := "2b51510b53254ac4ec87351f56d45f6c14c9c42c4917d9d5104c36e8e628afa0", func := "brocade/brocadelaw20.DepgraphBetween", spec := "depgraphBetween", unfollowed := true, recurses := true, loops := true, apart := false }
def DepgraphBetweenSaid : Prop := depgraphBetweenRow.holds Try.pinned (OpenSpec.ofChange depgraphBetweenSpec)

/-- ITS FALSE NEIGHBOUR: 'it returns false'. Refute it at one input. -/
def depgraphBetweenWrong : ChangeSpec := { name := "depgraphBetween", fn := fun _ => fun
  | [d1, d2, d3] => { results := [.lit (.bool false)], args := [d1, d2, d3] }
  | _ => none }
def DepgraphBetweenWrongFalsely : Prop := depgraphBetweenRow.holds Try.pinned (OpenSpec.ofChange depgraphBetweenWrong)

/- THE SECOND FORM. 'bulk': how many values and letters a reading holds, each counted each time it is reached (what is shared counts as often as it is met; a slice's spare places count too). A statement '..UptoSaid' is the law's where the arguments, and the package variables that the reading takes, are together of bulk at most 1048576: NARROWER than '..Said'. Prove '..Said' where nothing that the law and all that it calls make is longer than what came in: it says more and counts as full. Else prove '..UptoSaid'. A law counts once. -/
mutual
def uptoBulk {H : Type} : DataW H → Nat
  | .lit (.string bytes) => bytes.length + 1
  | .lit _ => 1
  | .nil => 1
  | .ptr d => uptoBulk d + 1
  | .slice elems spare => uptoBulkAll elems + uptoBulkAll spare + 1
  | .agg parts => uptoBulkAll parts + 1
  | .iface _ d => uptoBulk d + 1
  | .map entries => uptoBulkEntries entries + 1
  | .held _ => 1
def uptoBulkAll {H : Type} : List (DataW H) → Nat
  | [] => 0
  | d :: r => uptoBulk d + uptoBulkAll r
def uptoBulkEntries {H : Type} : List (Lit × DataW H) → Nat
  | [] => 0
  | x :: r => uptoBulkEntry x + uptoBulkEntries r
def uptoBulkEntry {H : Type} : Lit × DataW H → Nat
  | (.string bytes, d) => bytes.length + uptoBulk d + 1
  | (_, d) => uptoBulk d + 1
 end
def uptoSmall : (H : Type) → List (DataW H) → Bool := fun _ ds => decide (uptoBulkAll ds ≤ 1048576)
def OpenSpec.upto (s : _root_.Go.ChangeSpec) : _root_.Go.OpenSpec := { _root_.Go.OpenSpec.ofChange s with cond := some uptoSmall }

/-- 'brocadelaw20.DepgraphEdges', WHERE WHAT IT READS IS OF BULK AT MOST 1048576: true; the input reads as it did. -/
def depgraphEdgesUptoRow : OpenClaim := { program := "ytpccaifhcmcegaa", sum := "2b51510b53254ac4ec87351f56d45f6c14c9c42c4917d9d5104c36e8e628afa0", func := "brocade/brocadelaw20.DepgraphEdges", spec := "depgraphEdges", unfollowed := true, recurses := true, loops := true, apart := false, narrowed := true }
def DepgraphEdgesUptoSaid : Prop := depgraphEdgesUptoRow.holds Try.pinned (OpenSpec.upto depgraphEdgesSpec)

/-- 'brocadelaw20.DepgraphReachable', WHERE WHAT IT READS IS OF BULK AT MOST 1048576: true; the input reads as it did. -/
def depgraphReachableUptoRow : OpenClaim := { program := "ytpccaifhcmcegaa", sum := "2b51510b53254ac4ec87351f56d45f6c14c9c42c4917d9d5104c36e8e628afa0", func := "brocade/brocadelaw20.DepgraphReachable", spec := "depgraphReachable", unfollowed := true, recurses := true, loops := true, apart := false, narrowed := true }
def DepgraphReachableUptoSaid : Prop := depgraphReachableUptoRow.holds Try.pinned (OpenSpec.upto depgraphReachableSpec)

/-- 'brocadelaw20.DepgraphLevels', WHERE WHAT IT READS IS OF BULK AT MOST 1048576: true; the input reads as it did. -/
def depgraphLevelsUptoRow : OpenClaim := { program := "ytpccaifhcmcegaa", sum := "2b51510b53254ac4ec87351f56d45f6c14c9c42c4917d9d5104c36e8e628afa0", func := "brocade/brocadelaw20.DepgraphLevels", spec := "depgraphLevels", unfollowed := true, recurses := true, loops := true, apart := false, narrowed := true }
def DepgraphLevelsUptoSaid : Prop := depgraphLevelsUptoRow.holds Try.pinned (OpenSpec.upto depgraphLevelsSpec)

/-- 'brocadelaw20.DepgraphRemovesDead', WHERE WHAT IT READS IS OF BULK AT MOST 1048576: true; the input reads as it did. -/
def depgraphRemovesDeadUptoRow : OpenClaim := { program := "ytpccaifhcmcegaa", sum := "2b51510b53254ac4ec87351f56d45f6c14c9c42c4917d9d5104c36e8e628afa0", func := "brocade/brocadelaw20.DepgraphRemovesDead", spec := "depgraphRemovesDead", unfollowed := true, recurses := true, loops := true, apart := false, narrowed := true }
def DepgraphRemovesDeadUptoSaid : Prop := depgraphRemovesDeadUptoRow.holds Try.pinned (OpenSpec.upto depgraphRemovesDeadSpec)

/-- 'brocadelaw20.DepgraphSorts', WHERE WHAT IT READS IS OF BULK AT MOST 1048576: true; the input reads as it did. -/
def depgraphSortsUptoRow : OpenClaim := { program := "ytpccaifhcmcegaa", sum := "2b51510b53254ac4ec87351f56d45f6c14c9c42c4917d9d5104c36e8e628afa0", func := "brocade/brocadelaw20.DepgraphSorts", spec := "depgraphSorts", unfollowed := true, recurses := true, loops := true, apart := false, narrowed := true }
def DepgraphSortsUptoSaid : Prop := depgraphSortsUptoRow.holds Try.pinned (OpenSpec.upto depgraphSortsSpec)

/-- 'brocadelaw20.DepgraphBetween', WHERE WHAT IT READS IS OF BULK AT MOST 1048576: true; the input reads as it did. -/
def depgraphBetweenUptoRow : OpenClaim := { program := "ytpccaifhcmcegaa", sum := "2b51510b53254ac4ec87351f56d45f6c14c9c42c4917d9d5104c36e8e628afa0", func := "brocade/brocadelaw20.DepgraphBetween", spec := "depgraphBetween", unfollowed := true, recurses := true, loops := true, apart := false, narrowed := true }
def DepgraphBetweenUptoSaid : Prop := depgraphBetweenUptoRow.holds Try.pinned (OpenSpec.upto depgraphBetweenSpec)

end Rows
end Go.Proofs.Ytpccaifhcmcegaa
