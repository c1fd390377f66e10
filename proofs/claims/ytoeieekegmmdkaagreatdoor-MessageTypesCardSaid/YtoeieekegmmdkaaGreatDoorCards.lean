/-
  DERIVED. GIVEN WITH THE SEED: THE CARDS: each row of YtoeieekegmmdkaaGreatDoorRows.lean that lists a variable, with what it lists TIED to the program's text (the seventh form; the later family's looks); each row that meets fmt, with fmt's text TOLD by the authors' own Lean function (tested against real Go, not proved from fmt's source: count such statements apart). THE CARD IS WHAT COUNTS. Prove the row's statement (the work); the ties are given (YtoeieekegmmdkaaGreatDoorTie.lean); close each card by the builder's one call (the guide's Derived/Test/ToyasCard.lean, 'card_holds'). Laid BY PROGRAM, IN A SANDBOX (cutbox-door.mjs). By AI agents, Wed Nov 11 2026. No macro, syntax, notation, axiom, sorry.
-/
import Derived.Test.YtoeieekegmmdkaaGreatDoorRows
import GoSem.ClaimSeven
namespace Go.Proofs.YtoeieekegmmdkaaGreatDoor
namespace Rows

/-- THE TIED CARD OF 'watchwordlaw18.MessageTypes'. -/
def messageTypesCard : Claim7 := { stood := { row := messageTypesRow, standIns := [], harness := (true, "a2730b8c019e7445a8a4cd961c269b6af93510bab3208a4edd74e8cc3519e4bb"), looks := true }, kinds := [], alts := [], laidByText := true, laidKinds := [.data, .data, .data, .data, .data, .data, .pinned], laidTests := true, laidLooks := .later }
def MessageTypesCardSaid : Prop := Claim7.holds Tryz.pinned (.plain (OpenSpec.ofChange messageTypesSpec)) messageTypesCard

/-- THE SECOND FORM's CARD OF 'watchwordlaw18.MessageTypes'. -/
def messageTypesUptoCard : Claim7 := { stood := { row := messageTypesUptoRow, standIns := [], harness := (true, "a2730b8c019e7445a8a4cd961c269b6af93510bab3208a4edd74e8cc3519e4bb"), looks := true }, kinds := [], alts := [], laidByText := true, laidKinds := [.data, .data, .data, .data, .data, .data, .pinned], laidTests := true, laidLooks := .later }
def MessageTypesUptoCardSaid : Prop := Claim7.holds Tryz.pinned (.plain (OpenSpec.upto messageTypesSpec)) messageTypesUptoCard
end Rows
end Go.Proofs.YtoeieekegmmdkaaGreatDoor
