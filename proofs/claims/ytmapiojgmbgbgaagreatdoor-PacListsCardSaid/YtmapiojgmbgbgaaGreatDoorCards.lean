/-
  DERIVED. GIVEN WITH THE SEED: THE CARDS: each row of YtmapiojgmbgbgaaGreatDoorRows.lean that lists a variable, with what it lists TIED to the program's text (the seventh form; the later family's looks); each row that meets fmt, with fmt's text TOLD by the authors' own Lean function (tested against real Go, not proved from fmt's source: count such statements apart). THE CARD IS WHAT COUNTS. Prove the row's statement (the work); the ties are given (YtmapiojgmbgbgaaGreatDoorTie.lean); close each card by the builder's one call (the guide's Derived/Test/ToyasCard.lean, 'card_holds'). Laid BY PROGRAM, IN A SANDBOX (cutbox-door.mjs). By AI agents, Wed Nov 11 2026. No macro, syntax, notation, axiom, sorry.
-/
import Derived.Test.YtmapiojgmbgbgaaGreatDoorRows
import GoSem.ClaimSeven
namespace Go.Proofs.YtmapiojgmbgbgaaGreatDoor
namespace Rows

/-- THE TIED CARD OF 'watchwordlaw22.PacSigns'. -/
def pacSignsCard : Claim7 := { stood := { row := pacSignsRow, standIns := [], harness := (true, "bc89476d1e2746ad22586520b4b9e2d69b94cd3feb5fdc7cb3aae73e18214992"), looks := true }, kinds := [], alts := [], laidByText := true, laidKinds := [.data, .data, .data, .data, .pinned], laidTests := true, laidLooks := .later }
def PacSignsCardSaid : Prop := Claim7.holds Tryz.pinned (.plain (OpenSpec.ofChange pacSignsSpec)) pacSignsCard

/-- THE TIED CARD OF 'watchwordlaw22.PacEncodes'. -/
def pacEncodesCard : Claim7 := { stood := { row := pacEncodesRow, standIns := [], harness := (true, "bc89476d1e2746ad22586520b4b9e2d69b94cd3feb5fdc7cb3aae73e18214992"), looks := true }, kinds := [], alts := [], laidByText := true, laidKinds := [.data, .data, .data, .pinned], laidTests := true, laidLooks := .later }
def PacEncodesCardSaid : Prop := Claim7.holds Tryz.pinned (.plain (OpenSpec.ofChange pacEncodesSpec)) pacEncodesCard

/-- THE TIED CARD OF 'watchwordlaw22.PacLong'. -/
def pacLongCard : Claim7 := { stood := { row := pacLongRow, standIns := [], harness := (true, "bc89476d1e2746ad22586520b4b9e2d69b94cd3feb5fdc7cb3aae73e18214992"), looks := true }, kinds := [], alts := [], laidByText := true, laidKinds := [.data, .data, .data, .data, .pinned], laidTests := true, laidLooks := .later }
def PacLongCardSaid : Prop := Claim7.holds Tryz.pinned (.plain (OpenSpec.ofChange pacLongSpec)) pacLongCard

/-- THE TIED CARD OF 'watchwordlaw22.PacLists'. -/
def pacListsCard : Claim7 := { stood := { row := pacListsRow, standIns := [], harness := (true, "bc89476d1e2746ad22586520b4b9e2d69b94cd3feb5fdc7cb3aae73e18214992"), looks := true }, kinds := [], alts := [], laidByText := true, laidKinds := [.data, .data, .data, .pinned], laidTests := true, laidLooks := .later }
def PacListsCardSaid : Prop := Claim7.holds Tryz.pinned (.plain (OpenSpec.ofChange pacListsSpec)) pacListsCard

/-- THE TIED CARD OF 'watchwordlaw22.PacCopies'. -/
def pacCopiesCard : Claim7 := { stood := { row := pacCopiesRow, standIns := [], harness := (true, "bc89476d1e2746ad22586520b4b9e2d69b94cd3feb5fdc7cb3aae73e18214992"), looks := true }, kinds := [], alts := [], laidByText := true, laidKinds := [.data, .data, .data, .pinned], laidTests := true, laidLooks := .later }
def PacCopiesCardSaid : Prop := Claim7.holds Tryz.pinned (.plain (OpenSpec.ofChange pacCopiesSpec)) pacCopiesCard

/-- THE TIED CARD OF 'watchwordlaw22.PacHolds'. -/
def pacHoldsCard : Claim7 := { stood := { row := pacHoldsRow, standIns := [], harness := (true, "bc89476d1e2746ad22586520b4b9e2d69b94cd3feb5fdc7cb3aae73e18214992"), looks := true }, kinds := [], alts := [], laidByText := true, laidKinds := [.data, .data, .data, .pinned], laidTests := true, laidLooks := .later }
def PacHoldsCardSaid : Prop := Claim7.holds Tryz.pinned (.plain (OpenSpec.ofChange pacHoldsSpec)) pacHoldsCard

/-- THE SECOND FORM's CARD OF 'watchwordlaw22.PacSigns'. -/
def pacSignsUptoCard : Claim7 := { stood := { row := pacSignsUptoRow, standIns := [], harness := (true, "bc89476d1e2746ad22586520b4b9e2d69b94cd3feb5fdc7cb3aae73e18214992"), looks := true }, kinds := [], alts := [], laidByText := true, laidKinds := [.data, .data, .data, .data, .pinned], laidTests := true, laidLooks := .later }
def PacSignsUptoCardSaid : Prop := Claim7.holds Tryz.pinned (.plain (OpenSpec.upto pacSignsSpec)) pacSignsUptoCard

/-- THE SECOND FORM's CARD OF 'watchwordlaw22.PacEncodes'. -/
def pacEncodesUptoCard : Claim7 := { stood := { row := pacEncodesUptoRow, standIns := [], harness := (true, "bc89476d1e2746ad22586520b4b9e2d69b94cd3feb5fdc7cb3aae73e18214992"), looks := true }, kinds := [], alts := [], laidByText := true, laidKinds := [.data, .data, .data, .pinned], laidTests := true, laidLooks := .later }
def PacEncodesUptoCardSaid : Prop := Claim7.holds Tryz.pinned (.plain (OpenSpec.upto pacEncodesSpec)) pacEncodesUptoCard

/-- THE SECOND FORM's CARD OF 'watchwordlaw22.PacLong'. -/
def pacLongUptoCard : Claim7 := { stood := { row := pacLongUptoRow, standIns := [], harness := (true, "bc89476d1e2746ad22586520b4b9e2d69b94cd3feb5fdc7cb3aae73e18214992"), looks := true }, kinds := [], alts := [], laidByText := true, laidKinds := [.data, .data, .data, .data, .pinned], laidTests := true, laidLooks := .later }
def PacLongUptoCardSaid : Prop := Claim7.holds Tryz.pinned (.plain (OpenSpec.upto pacLongSpec)) pacLongUptoCard

/-- THE SECOND FORM's CARD OF 'watchwordlaw22.PacLists'. -/
def pacListsUptoCard : Claim7 := { stood := { row := pacListsUptoRow, standIns := [], harness := (true, "bc89476d1e2746ad22586520b4b9e2d69b94cd3feb5fdc7cb3aae73e18214992"), looks := true }, kinds := [], alts := [], laidByText := true, laidKinds := [.data, .data, .data, .pinned], laidTests := true, laidLooks := .later }
def PacListsUptoCardSaid : Prop := Claim7.holds Tryz.pinned (.plain (OpenSpec.upto pacListsSpec)) pacListsUptoCard

/-- THE SECOND FORM's CARD OF 'watchwordlaw22.PacCopies'. -/
def pacCopiesUptoCard : Claim7 := { stood := { row := pacCopiesUptoRow, standIns := [], harness := (true, "bc89476d1e2746ad22586520b4b9e2d69b94cd3feb5fdc7cb3aae73e18214992"), looks := true }, kinds := [], alts := [], laidByText := true, laidKinds := [.data, .data, .data, .pinned], laidTests := true, laidLooks := .later }
def PacCopiesUptoCardSaid : Prop := Claim7.holds Tryz.pinned (.plain (OpenSpec.upto pacCopiesSpec)) pacCopiesUptoCard

/-- THE SECOND FORM's CARD OF 'watchwordlaw22.PacHolds'. -/
def pacHoldsUptoCard : Claim7 := { stood := { row := pacHoldsUptoRow, standIns := [], harness := (true, "bc89476d1e2746ad22586520b4b9e2d69b94cd3feb5fdc7cb3aae73e18214992"), looks := true }, kinds := [], alts := [], laidByText := true, laidKinds := [.data, .data, .data, .pinned], laidTests := true, laidLooks := .later }
def PacHoldsUptoCardSaid : Prop := Claim7.holds Tryz.pinned (.plain (OpenSpec.upto pacHoldsSpec)) pacHoldsUptoCard
end Rows
end Go.Proofs.YtmapiojgmbgbgaaGreatDoor
