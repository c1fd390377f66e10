/-
  DERIVED. GIVEN WITH THE SEED: THE CARDS: each row of YtcjehhejgimmdaaGreatDoorRows.lean that lists a variable, with what it lists TIED to the program's text (the seventh form; the later family's looks); each row that meets fmt, with fmt's text TOLD by the authors' own Lean function (tested against real Go, not proved from fmt's source: count such statements apart). THE CARD IS WHAT COUNTS. Prove the row's statement (the work); the ties are given (YtcjehhejgimmdaaGreatDoorTie.lean); close each card by the builder's one call (the guide's Derived/Test/ToyasCard.lean, 'card_holds'). Laid BY PROGRAM, IN A SANDBOX (cutbox-door.mjs). By AI agents, Wed Nov 11 2026. No macro, syntax, notation, axiom, sorry.
-/
import Derived.Test.YtcjehhejgimmdaaGreatDoorRows
import GoSem.ClaimSeven
namespace Go.Proofs.YtcjehhejgimmdaaGreatDoor
namespace Rows

/-- THE TIED CARD OF 'watchwordlaw18.MessageParts'. -/
def messagePartsCard : Claim7 := { stood := { row := messagePartsRow, standIns := [], harness := (true, "f902cb4e27c1d06f2007c84bc7e4de53dfd9e4bc1f1c6562269a50773cc12dc3"), looks := true }, kinds := [], alts := [], laidByText := true, laidKinds := [.data, .data, .data, .data, .data, .data, .pinned], laidTests := true, laidLooks := .later }
def MessagePartsCardSaid : Prop := Claim7.holds Tryz.pinned (.plain (OpenSpec.ofChange messagePartsSpec)) messagePartsCard

/-- THE SECOND FORM's CARD OF 'watchwordlaw18.MessageParts'. -/
def messagePartsUptoCard : Claim7 := { stood := { row := messagePartsUptoRow, standIns := [], harness := (true, "f902cb4e27c1d06f2007c84bc7e4de53dfd9e4bc1f1c6562269a50773cc12dc3"), looks := true }, kinds := [], alts := [], laidByText := true, laidKinds := [.data, .data, .data, .data, .data, .data, .pinned], laidTests := true, laidLooks := .later }
def MessagePartsUptoCardSaid : Prop := Claim7.holds Tryz.pinned (.plain (OpenSpec.upto messagePartsSpec)) messagePartsUptoCard
end Rows
end Go.Proofs.YtcjehhejgimmdaaGreatDoor
