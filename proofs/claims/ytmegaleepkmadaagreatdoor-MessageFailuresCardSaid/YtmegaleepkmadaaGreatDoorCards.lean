/-
  DERIVED. GIVEN WITH THE SEED: THE CARDS: each row of YtmegaleepkmadaaGreatDoorRows.lean that lists a variable, with what it lists TIED to the program's text (the seventh form; the later family's looks); each row that meets fmt, with fmt's text TOLD by the authors' own Lean function (tested against real Go, not proved from fmt's source: count such statements apart). THE CARD IS WHAT COUNTS. Prove the row's statement (the work); the ties are given (YtmegaleepkmadaaGreatDoorTie.lean); close each card by the builder's one call (the guide's Derived/Test/ToyasCard.lean, 'card_holds'). Laid BY PROGRAM, IN A SANDBOX (cutbox-door.mjs). By AI agents, Wed Nov 11 2026. No macro, syntax, notation, axiom, sorry.
-/
import Derived.Test.YtmegaleepkmadaaGreatDoorRows
import GoSem.ClaimSeven
namespace Go.Proofs.YtmegaleepkmadaaGreatDoor
namespace Rows

/-- THE TIED CARD OF 'watchwordlaw18.MessageFailures'. -/
def messageFailuresCard : Claim7 := { stood := { row := messageFailuresRow, standIns := [], harness := (true, "8aae9bf0138d02be5ae0c2ce378c049f8389950e7ae17f2d66ced1749d6da986"), looks := true }, kinds := [], alts := [], laidByText := true, laidKinds := [.data, .data, .data, .data, .data, .data, .pinned], laidTests := true, laidLooks := .later }
def MessageFailuresCardSaid : Prop := Claim7.holds Tryz.pinned (.plain (OpenSpec.ofChange messageFailuresSpec)) messageFailuresCard

/-- THE SECOND FORM's CARD OF 'watchwordlaw18.MessageFailures'. -/
def messageFailuresUptoCard : Claim7 := { stood := { row := messageFailuresUptoRow, standIns := [], harness := (true, "8aae9bf0138d02be5ae0c2ce378c049f8389950e7ae17f2d66ced1749d6da986"), looks := true }, kinds := [], alts := [], laidByText := true, laidKinds := [.data, .data, .data, .data, .data, .data, .pinned], laidTests := true, laidLooks := .later }
def MessageFailuresUptoCardSaid : Prop := Claim7.holds Tryz.pinned (.plain (OpenSpec.upto messageFailuresSpec)) messageFailuresUptoCard
end Rows
end Go.Proofs.YtmegaleepkmadaaGreatDoor
