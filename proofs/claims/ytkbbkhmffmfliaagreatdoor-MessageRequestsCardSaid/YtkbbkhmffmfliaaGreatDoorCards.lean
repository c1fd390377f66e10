/-
  DERIVED. GIVEN WITH THE SEED: THE CARDS: each row of YtkbbkhmffmfliaaGreatDoorRows.lean that lists a variable, with what it lists TIED to the program's text (the seventh form; the later family's looks); each row that meets fmt, with fmt's text TOLD by the authors' own Lean function (tested against real Go, not proved from fmt's source: count such statements apart). THE CARD IS WHAT COUNTS. Prove the row's statement (the work); the ties are given (YtkbbkhmffmfliaaGreatDoorTie.lean); close each card by the builder's one call (the guide's Derived/Test/ToyasCard.lean, 'card_holds'). Laid BY PROGRAM, IN A SANDBOX (cutbox-door.mjs). By AI agents, Wed Nov 11 2026. No macro, syntax, notation, axiom, sorry.
-/
import Derived.Test.YtkbbkhmffmfliaaGreatDoorRows
import GoSem.ClaimSeven
namespace Go.Proofs.YtkbbkhmffmfliaaGreatDoor
namespace Rows

/-- THE TIED CARD OF 'watchwordlaw18.MessageRequests'. -/
def messageRequestsCard : Claim7 := { stood := { row := messageRequestsRow, standIns := [], harness := (true, "64610a229bdec5262ec7273162caa42f4ca07e55d22916e2d273972c7ca1a27c"), looks := true }, kinds := [], alts := [], laidByText := true, laidKinds := [.data, .data, .data, .data, .data, .data, .pinned], laidTests := true, laidLooks := .later }
def MessageRequestsCardSaid : Prop := Claim7.holds Tryz.pinned (.plain (OpenSpec.ofChange messageRequestsSpec)) messageRequestsCard

/-- THE SECOND FORM's CARD OF 'watchwordlaw18.MessageRequests'. -/
def messageRequestsUptoCard : Claim7 := { stood := { row := messageRequestsUptoRow, standIns := [], harness := (true, "64610a229bdec5262ec7273162caa42f4ca07e55d22916e2d273972c7ca1a27c"), looks := true }, kinds := [], alts := [], laidByText := true, laidKinds := [.data, .data, .data, .data, .data, .data, .pinned], laidTests := true, laidLooks := .later }
def MessageRequestsUptoCardSaid : Prop := Claim7.holds Tryz.pinned (.plain (OpenSpec.upto messageRequestsSpec)) messageRequestsUptoCard
end Rows
end Go.Proofs.YtkbbkhmffmfliaaGreatDoor
