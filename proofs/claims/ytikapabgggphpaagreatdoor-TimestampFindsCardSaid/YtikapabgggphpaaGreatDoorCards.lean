/-
  DERIVED. GIVEN WITH THE SEED: THE CARDS: each row of YtikapabgggphpaaGreatDoorRows.lean that lists a variable, with what it lists TIED to the program's text (the seventh form; the later family's looks); each row that meets fmt, with fmt's text TOLD by the authors' own Lean function (tested against real Go, not proved from fmt's source: count such statements apart). THE CARD IS WHAT COUNTS. Prove the row's statement (the work); the ties are given (YtikapabgggphpaaGreatDoorTie.lean); close each card by the builder's one call (the guide's Derived/Test/ToyasCard.lean, 'card_holds'). Laid BY PROGRAM, IN A SANDBOX (cutbox-door.mjs). By AI agents, Wed Nov 11 2026. No macro, syntax, notation, axiom, sorry.
-/
import Derived.Test.YtikapabgggphpaaGreatDoorRows
import GoSem.ClaimSeven
namespace Go.Proofs.YtikapabgggphpaaGreatDoor
namespace Rows

/-- THE TIED CARD OF 'watchwordlaw32.TimestampMakes'. -/
def timestampMakesCard : Claim7 := { stood := { row := timestampMakesRow, standIns := [], harness := (true, "e70595731897e8fc80258d57a298c51f56c2357f4be369984342f57238b8b87e"), looks := true }, kinds := [], alts := [], laidByText := true, laidKinds := [.data, .data, .data, .data], laidTests := true, laidLooks := .later }
def TimestampMakesCardSaid : Prop := Claim7.holds Tryz.pinned (.plain (OpenSpec.ofChange timestampMakesSpec)) timestampMakesCard

/-- THE TIED CARD OF 'watchwordlaw32.TimestampChecks'. -/
def timestampChecksCard : Claim7 := { stood := { row := timestampChecksRow, standIns := [], harness := (true, "e70595731897e8fc80258d57a298c51f56c2357f4be369984342f57238b8b87e"), looks := true }, kinds := [], alts := [], laidByText := true, laidKinds := [.data, .data, .data, .data], laidTests := true, laidLooks := .later }
def TimestampChecksCardSaid : Prop := Claim7.holds Tryz.pinned (.plain (OpenSpec.ofChange timestampChecksSpec)) timestampChecksCard

/-- THE TIED CARD OF 'watchwordlaw32.TimestampPlains'. -/
def timestampPlainsCard : Claim7 := { stood := { row := timestampPlainsRow, standIns := [], harness := (true, "e70595731897e8fc80258d57a298c51f56c2357f4be369984342f57238b8b87e"), looks := true }, kinds := [], alts := [], laidByText := true, laidKinds := [.data, .data, .data, .data], laidTests := true, laidLooks := .later }
def TimestampPlainsCardSaid : Prop := Claim7.holds Tryz.pinned (.plain (OpenSpec.ofChange timestampPlainsSpec)) timestampPlainsCard

/-- THE TIED CARD OF 'watchwordlaw32.TimestampFinds'. -/
def timestampFindsCard : Claim7 := { stood := { row := timestampFindsRow, standIns := [], harness := (true, "e70595731897e8fc80258d57a298c51f56c2357f4be369984342f57238b8b87e"), looks := true }, kinds := [], alts := [], laidByText := true, laidKinds := [.data, .data, .data, .data], laidTests := true, laidLooks := .later }
def TimestampFindsCardSaid : Prop := Claim7.holds Tryz.pinned (.plain (OpenSpec.ofChange timestampFindsSpec)) timestampFindsCard

/-- THE TIED CARD OF 'watchwordlaw32.TimestampHolds'. -/
def timestampHoldsCard : Claim7 := { stood := { row := timestampHoldsRow, standIns := [], harness := (true, "e70595731897e8fc80258d57a298c51f56c2357f4be369984342f57238b8b87e"), looks := true }, kinds := [], alts := [], laidByText := true, laidKinds := [.data, .data], laidTests := true, laidLooks := .later }
def TimestampHoldsCardSaid : Prop := Claim7.holds Tryz.pinned (.plain (OpenSpec.ofChange timestampHoldsSpec)) timestampHoldsCard

/-- THE TIED CARD OF 'watchwordlaw32.TimestampLoops'. -/
def timestampLoopsCard : Claim7 := { stood := { row := timestampLoopsRow, standIns := [], harness := (true, "e70595731897e8fc80258d57a298c51f56c2357f4be369984342f57238b8b87e"), looks := true }, kinds := [], alts := [], laidByText := true, laidKinds := [.data, .data], laidTests := true, laidLooks := .later }
def TimestampLoopsCardSaid : Prop := Claim7.holds Tryz.pinned (.plain (OpenSpec.ofChange timestampLoopsSpec)) timestampLoopsCard

/-- THE SECOND FORM's CARD OF 'watchwordlaw32.TimestampMakes'. -/
def timestampMakesUptoCard : Claim7 := { stood := { row := timestampMakesUptoRow, standIns := [], harness := (true, "e70595731897e8fc80258d57a298c51f56c2357f4be369984342f57238b8b87e"), looks := true }, kinds := [], alts := [], laidByText := true, laidKinds := [.data, .data, .data, .data], laidTests := true, laidLooks := .later }
def TimestampMakesUptoCardSaid : Prop := Claim7.holds Tryz.pinned (.plain (OpenSpec.upto timestampMakesSpec)) timestampMakesUptoCard

/-- THE SECOND FORM's CARD OF 'watchwordlaw32.TimestampChecks'. -/
def timestampChecksUptoCard : Claim7 := { stood := { row := timestampChecksUptoRow, standIns := [], harness := (true, "e70595731897e8fc80258d57a298c51f56c2357f4be369984342f57238b8b87e"), looks := true }, kinds := [], alts := [], laidByText := true, laidKinds := [.data, .data, .data, .data], laidTests := true, laidLooks := .later }
def TimestampChecksUptoCardSaid : Prop := Claim7.holds Tryz.pinned (.plain (OpenSpec.upto timestampChecksSpec)) timestampChecksUptoCard

/-- THE SECOND FORM's CARD OF 'watchwordlaw32.TimestampPlains'. -/
def timestampPlainsUptoCard : Claim7 := { stood := { row := timestampPlainsUptoRow, standIns := [], harness := (true, "e70595731897e8fc80258d57a298c51f56c2357f4be369984342f57238b8b87e"), looks := true }, kinds := [], alts := [], laidByText := true, laidKinds := [.data, .data, .data, .data], laidTests := true, laidLooks := .later }
def TimestampPlainsUptoCardSaid : Prop := Claim7.holds Tryz.pinned (.plain (OpenSpec.upto timestampPlainsSpec)) timestampPlainsUptoCard

/-- THE SECOND FORM's CARD OF 'watchwordlaw32.TimestampFinds'. -/
def timestampFindsUptoCard : Claim7 := { stood := { row := timestampFindsUptoRow, standIns := [], harness := (true, "e70595731897e8fc80258d57a298c51f56c2357f4be369984342f57238b8b87e"), looks := true }, kinds := [], alts := [], laidByText := true, laidKinds := [.data, .data, .data, .data], laidTests := true, laidLooks := .later }
def TimestampFindsUptoCardSaid : Prop := Claim7.holds Tryz.pinned (.plain (OpenSpec.upto timestampFindsSpec)) timestampFindsUptoCard

/-- THE SECOND FORM's CARD OF 'watchwordlaw32.TimestampHolds'. -/
def timestampHoldsUptoCard : Claim7 := { stood := { row := timestampHoldsUptoRow, standIns := [], harness := (true, "e70595731897e8fc80258d57a298c51f56c2357f4be369984342f57238b8b87e"), looks := true }, kinds := [], alts := [], laidByText := true, laidKinds := [.data, .data], laidTests := true, laidLooks := .later }
def TimestampHoldsUptoCardSaid : Prop := Claim7.holds Tryz.pinned (.plain (OpenSpec.upto timestampHoldsSpec)) timestampHoldsUptoCard

/-- THE SECOND FORM's CARD OF 'watchwordlaw32.TimestampLoops'. -/
def timestampLoopsUptoCard : Claim7 := { stood := { row := timestampLoopsUptoRow, standIns := [], harness := (true, "e70595731897e8fc80258d57a298c51f56c2357f4be369984342f57238b8b87e"), looks := true }, kinds := [], alts := [], laidByText := true, laidKinds := [.data, .data], laidTests := true, laidLooks := .later }
def TimestampLoopsUptoCardSaid : Prop := Claim7.holds Tryz.pinned (.plain (OpenSpec.upto timestampLoopsSpec)) timestampLoopsUptoCard
end Rows
end Go.Proofs.YtikapabgggphpaaGreatDoor
