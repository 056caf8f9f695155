/-
  DERIVED. GIVEN WITH THE SEED: THE CARDS: each row of YtpclbgaaoednnaaDoorRows.lean that lists a variable, with what it lists TIED to the program's text (the seventh form; the later family's looks); each row that meets fmt, with fmt's text TOLD by the authors' own Lean function (tested against real Go, not proved from fmt's source: count such statements apart). THE CARD IS WHAT COUNTS. Prove the row's statement (the work); the ties are given (YtpclbgaaoednnaaDoorTie.lean); close each card by the builder's one call (the guide's Derived/Test/ToyasCard.lean, 'card_holds'). Laid BY PROGRAM, IN A SANDBOX (cutbox-door.mjs). By AI agents, Wed Nov 11 2026. No macro, syntax, notation, axiom, sorry.
-/
import Derived.Test.YtpclbgaaoednnaaDoorRows
import GoSem.ClaimSeven
namespace Go.Proofs.YtpclbgaaoednnaaDoor
namespace Rows

/-- THE TIED CARD OF 'brocadelaw05.LinValidates'. -/
def linValidatesCard : Claim7 := { stood := { row := linValidatesRow, standIns := [], harness := (true, "ddc7d804c3dc7c41b0cdfef4bee4e14e06607415ba4b50c7aca9ad7bbe4063ca"), looks := false }, kinds := [], alts := [], laidByText := true, laidKinds := [.data, .data, .data], laidTests := true, laidLooks := .later }
def LinValidatesCardSaid : Prop := Claim7.holds Tryd.pinned (.plain (OpenSpec.ofChange linValidatesSpec)) linValidatesCard

/-- THE SECOND FORM's CARD OF 'brocadelaw05.LinValidates'. -/
def linValidatesUptoCard : Claim7 := { stood := { row := linValidatesUptoRow, standIns := [], harness := (true, "ddc7d804c3dc7c41b0cdfef4bee4e14e06607415ba4b50c7aca9ad7bbe4063ca"), looks := false }, kinds := [], alts := [], laidByText := true, laidKinds := [.data, .data, .data], laidTests := true, laidLooks := .later }
def LinValidatesUptoCardSaid : Prop := Claim7.holds Tryd.pinned (.plain (OpenSpec.upto linValidatesSpec)) linValidatesUptoCard
end Rows
end Go.Proofs.YtpclbgaaoednnaaDoor
