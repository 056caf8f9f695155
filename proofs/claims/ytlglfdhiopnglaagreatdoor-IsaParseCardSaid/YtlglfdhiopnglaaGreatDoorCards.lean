/-
  DERIVED. GIVEN WITH THE SEED: THE CARDS: each row of YtlglfdhiopnglaaGreatDoorRows.lean that lists a variable, with what it lists TIED to the program's text (the seventh form; the later family's looks); each row that meets fmt, with fmt's text TOLD by the authors' own Lean function (tested against real Go, not proved from fmt's source: count such statements apart). THE CARD IS WHAT COUNTS. Prove the row's statement (the work); the ties are given (YtlglfdhiopnglaaGreatDoorTie.lean); close each card by the builder's one call (the guide's Derived/Test/ToyasCard.lean, 'card_holds'). Laid BY PROGRAM, IN A SANDBOX (cutbox-door.mjs). By AI agents, Wed Nov 11 2026. No macro, syntax, notation, axiom, sorry.
-/
import Derived.Test.YtlglfdhiopnglaaGreatDoorRows
import GoSem.ClaimSeven
namespace Go.Proofs.YtlglfdhiopnglaaGreatDoor
namespace Rows

/-- THE TIED CARD OF 'brocadelaw47.IsaValidate'. -/
def isaValidateCard : Claim7 := { stood := { row := isaValidateRow, standIns := [], harness := (true, "2b2bd5faf420501383af92126c0d09597f38bc4e884151449d1121000621ba6b"), looks := true }, kinds := [], alts := [], laidByText := true, laidKinds := [.data, .data, .data, .data, .sentinel, .sentinel, .data, .pinned], laidTests := true, laidLooks := .later }
def IsaValidateCardSaid : Prop := Claim7.holds Tryz.pinned (.plain (OpenSpec.ofChange isaValidateSpec)) isaValidateCard

/-- THE TIED CARD OF 'brocadelaw47.IsaFormat'. -/
def isaFormatCard : Claim7 := { stood := { row := isaFormatRow, standIns := [], harness := (true, "2b2bd5faf420501383af92126c0d09597f38bc4e884151449d1121000621ba6b"), looks := true }, kinds := [], alts := [], laidByText := true, laidKinds := [.data, .data, .data, .data, .sentinel, .sentinel, .data, .pinned], laidTests := true, laidLooks := .later }
def IsaFormatCardSaid : Prop := Claim7.holds Tryz.pinned (.plain (OpenSpec.ofChange isaFormatSpec)) isaFormatCard

/-- THE TIED CARD OF 'brocadelaw47.IsaParse'. -/
def isaParseCard : Claim7 := { stood := { row := isaParseRow, standIns := [], harness := (true, "2b2bd5faf420501383af92126c0d09597f38bc4e884151449d1121000621ba6b"), looks := true }, kinds := [], alts := [], laidByText := true, laidKinds := [.data, .data, .data, .data, .sentinel, .sentinel, .data, .pinned], laidTests := true, laidLooks := .later }
def IsaParseCardSaid : Prop := Claim7.holds Tryz.pinned (.plain (OpenSpec.ofChange isaParseSpec)) isaParseCard

/-- THE TIED CARD OF 'brocadelaw47.IsaRoundTrip'. -/
def isaRoundTripCard : Claim7 := { stood := { row := isaRoundTripRow, standIns := [], harness := (true, "2b2bd5faf420501383af92126c0d09597f38bc4e884151449d1121000621ba6b"), looks := true }, kinds := [], alts := [], laidByText := true, laidKinds := [.data, .data, .data, .data, .sentinel, .sentinel, .data, .pinned], laidTests := true, laidLooks := .later }
def IsaRoundTripCardSaid : Prop := Claim7.holds Tryz.pinned (.plain (OpenSpec.ofChange isaRoundTripSpec)) isaRoundTripCard

/-- THE TIED CARD OF 'brocadelaw47.IsaTargets'. -/
def isaTargetsCard : Claim7 := { stood := { row := isaTargetsRow, standIns := [], harness := (true, "2b2bd5faf420501383af92126c0d09597f38bc4e884151449d1121000621ba6b"), looks := true }, kinds := [], alts := [], laidByText := true, laidKinds := [.data, .data, .data, .data, .sentinel, .sentinel, .data, .pinned], laidTests := true, laidLooks := .later }
def IsaTargetsCardSaid : Prop := Claim7.holds Tryz.pinned (.plain (OpenSpec.ofChange isaTargetsSpec)) isaTargetsCard

/-- THE TIED CARD OF 'brocadelaw47.IsaRelocation'. -/
def isaRelocationCard : Claim7 := { stood := { row := isaRelocationRow, standIns := [], harness := (true, "2b2bd5faf420501383af92126c0d09597f38bc4e884151449d1121000621ba6b"), looks := true }, kinds := [], alts := [], laidByText := true, laidKinds := [.data, .data, .data, .data, .sentinel, .sentinel, .data, .pinned], laidTests := true, laidLooks := .later }
def IsaRelocationCardSaid : Prop := Claim7.holds Tryz.pinned (.plain (OpenSpec.ofChange isaRelocationSpec)) isaRelocationCard

/-- THE SECOND FORM's CARD OF 'brocadelaw47.IsaValidate'. -/
def isaValidateUptoCard : Claim7 := { stood := { row := isaValidateUptoRow, standIns := [], harness := (true, "2b2bd5faf420501383af92126c0d09597f38bc4e884151449d1121000621ba6b"), looks := true }, kinds := [], alts := [], laidByText := true, laidKinds := [.data, .data, .data, .data, .sentinel, .sentinel, .data, .pinned], laidTests := true, laidLooks := .later }
def IsaValidateUptoCardSaid : Prop := Claim7.holds Tryz.pinned (.plain (OpenSpec.upto isaValidateSpec)) isaValidateUptoCard

/-- THE SECOND FORM's CARD OF 'brocadelaw47.IsaFormat'. -/
def isaFormatUptoCard : Claim7 := { stood := { row := isaFormatUptoRow, standIns := [], harness := (true, "2b2bd5faf420501383af92126c0d09597f38bc4e884151449d1121000621ba6b"), looks := true }, kinds := [], alts := [], laidByText := true, laidKinds := [.data, .data, .data, .data, .sentinel, .sentinel, .data, .pinned], laidTests := true, laidLooks := .later }
def IsaFormatUptoCardSaid : Prop := Claim7.holds Tryz.pinned (.plain (OpenSpec.upto isaFormatSpec)) isaFormatUptoCard

/-- THE SECOND FORM's CARD OF 'brocadelaw47.IsaParse'. -/
def isaParseUptoCard : Claim7 := { stood := { row := isaParseUptoRow, standIns := [], harness := (true, "2b2bd5faf420501383af92126c0d09597f38bc4e884151449d1121000621ba6b"), looks := true }, kinds := [], alts := [], laidByText := true, laidKinds := [.data, .data, .data, .data, .sentinel, .sentinel, .data, .pinned], laidTests := true, laidLooks := .later }
def IsaParseUptoCardSaid : Prop := Claim7.holds Tryz.pinned (.plain (OpenSpec.upto isaParseSpec)) isaParseUptoCard

/-- THE SECOND FORM's CARD OF 'brocadelaw47.IsaRoundTrip'. -/
def isaRoundTripUptoCard : Claim7 := { stood := { row := isaRoundTripUptoRow, standIns := [], harness := (true, "2b2bd5faf420501383af92126c0d09597f38bc4e884151449d1121000621ba6b"), looks := true }, kinds := [], alts := [], laidByText := true, laidKinds := [.data, .data, .data, .data, .sentinel, .sentinel, .data, .pinned], laidTests := true, laidLooks := .later }
def IsaRoundTripUptoCardSaid : Prop := Claim7.holds Tryz.pinned (.plain (OpenSpec.upto isaRoundTripSpec)) isaRoundTripUptoCard

/-- THE SECOND FORM's CARD OF 'brocadelaw47.IsaTargets'. -/
def isaTargetsUptoCard : Claim7 := { stood := { row := isaTargetsUptoRow, standIns := [], harness := (true, "2b2bd5faf420501383af92126c0d09597f38bc4e884151449d1121000621ba6b"), looks := true }, kinds := [], alts := [], laidByText := true, laidKinds := [.data, .data, .data, .data, .sentinel, .sentinel, .data, .pinned], laidTests := true, laidLooks := .later }
def IsaTargetsUptoCardSaid : Prop := Claim7.holds Tryz.pinned (.plain (OpenSpec.upto isaTargetsSpec)) isaTargetsUptoCard

/-- THE SECOND FORM's CARD OF 'brocadelaw47.IsaRelocation'. -/
def isaRelocationUptoCard : Claim7 := { stood := { row := isaRelocationUptoRow, standIns := [], harness := (true, "2b2bd5faf420501383af92126c0d09597f38bc4e884151449d1121000621ba6b"), looks := true }, kinds := [], alts := [], laidByText := true, laidKinds := [.data, .data, .data, .data, .sentinel, .sentinel, .data, .pinned], laidTests := true, laidLooks := .later }
def IsaRelocationUptoCardSaid : Prop := Claim7.holds Tryz.pinned (.plain (OpenSpec.upto isaRelocationSpec)) isaRelocationUptoCard
end Rows
end Go.Proofs.YtlglfdhiopnglaaGreatDoor
