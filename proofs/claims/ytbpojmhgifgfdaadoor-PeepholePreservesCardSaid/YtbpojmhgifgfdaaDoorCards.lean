/-
  DERIVED. GIVEN WITH THE SEED: THE CARDS: each row of YtbpojmhgifgfdaaDoorRows.lean that lists a variable, with what it lists TIED to the program's text (the seventh form; the later family's looks); each row that meets fmt, with fmt's text TOLD by the authors' own Lean function (tested against real Go, not proved from fmt's source: count such statements apart). THE CARD IS WHAT COUNTS. Prove the row's statement (the work); the ties are given (YtbpojmhgifgfdaaDoorTie.lean); close each card by the builder's one call (the guide's Derived/Test/ToyasCard.lean, 'card_holds'). Laid BY PROGRAM, IN A SANDBOX (cutbox-door.mjs). By AI agents, Wed Nov 11 2026. No macro, syntax, notation, axiom, sorry.
-/
import Derived.Test.YtbpojmhgifgfdaaDoorRows
import GoSem.ClaimSeven
namespace Go.Proofs.YtbpojmhgifgfdaaDoor
namespace Rows

/-- THE TIED CARD OF 'brocadelaw50.PeepholeUnreachable'. -/
def peepholeUnreachableCard : Claim7 := { stood := { row := peepholeUnreachableRow, standIns := [], harness := (true, "ccdbeab931ee6151705c0a959ad686eceddccb298ee0596dce1a20e859a3800c"), looks := false }, kinds := [], alts := [], laidByText := true, laidKinds := [.data], laidTests := true, laidLooks := .later }
def PeepholeUnreachableCardSaid : Prop := Claim7.holds Tryd.pinned (.plain (OpenSpec.ofChange peepholeUnreachableSpec)) peepholeUnreachableCard

/-- THE TIED CARD OF 'brocadelaw50.PeepholeSteps'. -/
def peepholeStepsCard : Claim7 := { stood := { row := peepholeStepsRow, standIns := [], harness := (true, "ccdbeab931ee6151705c0a959ad686eceddccb298ee0596dce1a20e859a3800c"), looks := false }, kinds := [], alts := [], laidByText := true, laidKinds := [.data], laidTests := true, laidLooks := .later }
def PeepholeStepsCardSaid : Prop := Claim7.holds Tryd.pinned (.plain (OpenSpec.ofChange peepholeStepsSpec)) peepholeStepsCard

/-- THE TIED CARD OF 'brocadelaw50.PeepholeOptimizes'. -/
def peepholeOptimizesCard : Claim7 := { stood := { row := peepholeOptimizesRow, standIns := [], harness := (true, "ccdbeab931ee6151705c0a959ad686eceddccb298ee0596dce1a20e859a3800c"), looks := false }, kinds := [], alts := [], laidByText := true, laidKinds := [.data], laidTests := true, laidLooks := .later }
def PeepholeOptimizesCardSaid : Prop := Claim7.holds Tryd.pinned (.plain (OpenSpec.ofChange peepholeOptimizesSpec)) peepholeOptimizesCard

/-- THE TIED CARD OF 'brocadelaw50.PeepholeComplete'. -/
def peepholeCompleteCard : Claim7 := { stood := { row := peepholeCompleteRow, standIns := [], harness := (true, "ccdbeab931ee6151705c0a959ad686eceddccb298ee0596dce1a20e859a3800c"), looks := false }, kinds := [], alts := [], laidByText := true, laidKinds := [.data], laidTests := true, laidLooks := .later }
def PeepholeCompleteCardSaid : Prop := Claim7.holds Tryd.pinned (.plain (OpenSpec.ofChange peepholeCompleteSpec)) peepholeCompleteCard

/-- THE TIED CARD OF 'brocadelaw50.PeepholePreserves'. -/
def peepholePreservesCard : Claim7 := { stood := { row := peepholePreservesRow, standIns := [], harness := (true, "ccdbeab931ee6151705c0a959ad686eceddccb298ee0596dce1a20e859a3800c"), looks := false }, kinds := [], alts := [], laidByText := true, laidKinds := [.data], laidTests := true, laidLooks := .later }
def PeepholePreservesCardSaid : Prop := Claim7.holds Tryd.pinned (.plain (OpenSpec.ofChange peepholePreservesSpec)) peepholePreservesCard

/-- THE SECOND FORM's CARD OF 'brocadelaw50.PeepholeUnreachable'. -/
def peepholeUnreachableUptoCard : Claim7 := { stood := { row := peepholeUnreachableUptoRow, standIns := [], harness := (true, "ccdbeab931ee6151705c0a959ad686eceddccb298ee0596dce1a20e859a3800c"), looks := false }, kinds := [], alts := [], laidByText := true, laidKinds := [.data], laidTests := true, laidLooks := .later }
def PeepholeUnreachableUptoCardSaid : Prop := Claim7.holds Tryd.pinned (.plain (OpenSpec.upto peepholeUnreachableSpec)) peepholeUnreachableUptoCard

/-- THE SECOND FORM's CARD OF 'brocadelaw50.PeepholeSteps'. -/
def peepholeStepsUptoCard : Claim7 := { stood := { row := peepholeStepsUptoRow, standIns := [], harness := (true, "ccdbeab931ee6151705c0a959ad686eceddccb298ee0596dce1a20e859a3800c"), looks := false }, kinds := [], alts := [], laidByText := true, laidKinds := [.data], laidTests := true, laidLooks := .later }
def PeepholeStepsUptoCardSaid : Prop := Claim7.holds Tryd.pinned (.plain (OpenSpec.upto peepholeStepsSpec)) peepholeStepsUptoCard

/-- THE SECOND FORM's CARD OF 'brocadelaw50.PeepholeOptimizes'. -/
def peepholeOptimizesUptoCard : Claim7 := { stood := { row := peepholeOptimizesUptoRow, standIns := [], harness := (true, "ccdbeab931ee6151705c0a959ad686eceddccb298ee0596dce1a20e859a3800c"), looks := false }, kinds := [], alts := [], laidByText := true, laidKinds := [.data], laidTests := true, laidLooks := .later }
def PeepholeOptimizesUptoCardSaid : Prop := Claim7.holds Tryd.pinned (.plain (OpenSpec.upto peepholeOptimizesSpec)) peepholeOptimizesUptoCard

/-- THE SECOND FORM's CARD OF 'brocadelaw50.PeepholeComplete'. -/
def peepholeCompleteUptoCard : Claim7 := { stood := { row := peepholeCompleteUptoRow, standIns := [], harness := (true, "ccdbeab931ee6151705c0a959ad686eceddccb298ee0596dce1a20e859a3800c"), looks := false }, kinds := [], alts := [], laidByText := true, laidKinds := [.data], laidTests := true, laidLooks := .later }
def PeepholeCompleteUptoCardSaid : Prop := Claim7.holds Tryd.pinned (.plain (OpenSpec.upto peepholeCompleteSpec)) peepholeCompleteUptoCard

/-- THE SECOND FORM's CARD OF 'brocadelaw50.PeepholePreserves'. -/
def peepholePreservesUptoCard : Claim7 := { stood := { row := peepholePreservesUptoRow, standIns := [], harness := (true, "ccdbeab931ee6151705c0a959ad686eceddccb298ee0596dce1a20e859a3800c"), looks := false }, kinds := [], alts := [], laidByText := true, laidKinds := [.data], laidTests := true, laidLooks := .later }
def PeepholePreservesUptoCardSaid : Prop := Claim7.holds Tryd.pinned (.plain (OpenSpec.upto peepholePreservesSpec)) peepholePreservesUptoCard
end Rows
end Go.Proofs.YtbpojmhgifgfdaaDoor
