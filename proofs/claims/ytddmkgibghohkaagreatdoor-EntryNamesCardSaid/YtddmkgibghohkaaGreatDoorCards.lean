/-
  DERIVED. GIVEN WITH THE SEED: THE CARDS: each row of YtddmkgibghohkaaGreatDoorRows.lean that lists a variable, with what it lists TIED to the program's text (the seventh form; the later family's looks); each row that meets fmt, with fmt's text TOLD by the authors' own Lean function (tested against real Go, not proved from fmt's source: count such statements apart). THE CARD IS WHAT COUNTS. Prove the row's statement (the work); the ties are given (YtddmkgibghohkaaGreatDoorTie.lean); close each card by the builder's one call (the guide's Derived/Test/ToyasCard.lean, 'card_holds'). Laid BY PROGRAM, IN A SANDBOX (cutbox-door.mjs). By AI agents, Wed Nov 11 2026. No macro, syntax, notation, axiom, sorry.
-/
import Derived.Test.YtddmkgibghohkaaGreatDoorRows
import GoSem.ClaimSeven
namespace Go.Proofs.YtddmkgibghohkaaGreatDoor
namespace Rows

/-- THE TIED CARD OF 'watchwordlaw24.EntryChanges'. -/
def entryChangesCard : Claim7 := { stood := { row := entryChangesRow, standIns := [], harness := (true, "3111e5af5826d823679542792685bda3a6b42493069990e8f179c95ca47f34d6"), looks := true }, kinds := [], alts := [], laidByText := true, laidKinds := [.data, .data, .data, .pinned], laidTests := true, laidLooks := .later }
def EntryChangesCardSaid : Prop := Claim7.holds Tryz.pinned (.plain (OpenSpec.ofChange entryChangesSpec)) entryChangesCard

/-- THE TIED CARD OF 'watchwordlaw24.EntryFinds'. -/
def entryFindsCard : Claim7 := { stood := { row := entryFindsRow, standIns := [], harness := (true, "3111e5af5826d823679542792685bda3a6b42493069990e8f179c95ca47f34d6"), looks := true }, kinds := [], alts := [], laidByText := true, laidKinds := [.data, .data, .data, .pinned], laidTests := true, laidLooks := .later }
def EntryFindsCardSaid : Prop := Claim7.holds Tryz.pinned (.plain (OpenSpec.ofChange entryFindsSpec)) entryFindsCard

/-- THE TIED CARD OF 'watchwordlaw24.EntryNames'. -/
def entryNamesCard : Claim7 := { stood := { row := entryNamesRow, standIns := [], harness := (true, "3111e5af5826d823679542792685bda3a6b42493069990e8f179c95ca47f34d6"), looks := true }, kinds := [], alts := [], laidByText := true, laidKinds := [.data, .data, .data, .pinned], laidTests := true, laidLooks := .later }
def EntryNamesCardSaid : Prop := Claim7.holds Tryz.pinned (.plain (OpenSpec.ofChange entryNamesSpec)) entryNamesCard

/-- THE TIED CARD OF 'watchwordlaw24.EntryCopies'. -/
def entryCopiesCard : Claim7 := { stood := { row := entryCopiesRow, standIns := [], harness := (true, "3111e5af5826d823679542792685bda3a6b42493069990e8f179c95ca47f34d6"), looks := true }, kinds := [], alts := [], laidByText := true, laidKinds := [.data, .data, .data, .pinned], laidTests := true, laidLooks := .later }
def EntryCopiesCardSaid : Prop := Claim7.holds Tryz.pinned (.plain (OpenSpec.ofChange entryCopiesSpec)) entryCopiesCard

/-- THE TIED CARD OF 'watchwordlaw24.EntryOffers'. -/
def entryOffersCard : Claim7 := { stood := { row := entryOffersRow, standIns := [], harness := (true, "3111e5af5826d823679542792685bda3a6b42493069990e8f179c95ca47f34d6"), looks := true }, kinds := [], alts := [], laidByText := true, laidKinds := [.data, .data, .data, .pinned], laidTests := true, laidLooks := .later }
def EntryOffersCardSaid : Prop := Claim7.holds Tryz.pinned (.plain (OpenSpec.ofChange entryOffersSpec)) entryOffersCard

/-- THE TIED CARD OF 'watchwordlaw24.EntryEncodes'. -/
def entryEncodesCard : Claim7 := { stood := { row := entryEncodesRow, standIns := [], harness := (true, "3111e5af5826d823679542792685bda3a6b42493069990e8f179c95ca47f34d6"), looks := true }, kinds := [], alts := [], laidByText := true, laidKinds := [.data, .data, .data, .pinned], laidTests := true, laidLooks := .later }
def EntryEncodesCardSaid : Prop := Claim7.holds Tryz.pinned (.plain (OpenSpec.ofChange entryEncodesSpec)) entryEncodesCard

/-- THE TIED CARD OF 'watchwordlaw24.EntryHolds'. -/
def entryHoldsCard : Claim7 := { stood := { row := entryHoldsRow, standIns := [], harness := (true, "3111e5af5826d823679542792685bda3a6b42493069990e8f179c95ca47f34d6"), looks := true }, kinds := [], alts := [], laidByText := true, laidKinds := [.data, .data, .data, .pinned], laidTests := true, laidLooks := .later }
def EntryHoldsCardSaid : Prop := Claim7.holds Tryz.pinned (.plain (OpenSpec.ofChange entryHoldsSpec)) entryHoldsCard

/-- THE SECOND FORM's CARD OF 'watchwordlaw24.EntryChanges'. -/
def entryChangesUptoCard : Claim7 := { stood := { row := entryChangesUptoRow, standIns := [], harness := (true, "3111e5af5826d823679542792685bda3a6b42493069990e8f179c95ca47f34d6"), looks := true }, kinds := [], alts := [], laidByText := true, laidKinds := [.data, .data, .data, .pinned], laidTests := true, laidLooks := .later }
def EntryChangesUptoCardSaid : Prop := Claim7.holds Tryz.pinned (.plain (OpenSpec.upto entryChangesSpec)) entryChangesUptoCard

/-- THE SECOND FORM's CARD OF 'watchwordlaw24.EntryFinds'. -/
def entryFindsUptoCard : Claim7 := { stood := { row := entryFindsUptoRow, standIns := [], harness := (true, "3111e5af5826d823679542792685bda3a6b42493069990e8f179c95ca47f34d6"), looks := true }, kinds := [], alts := [], laidByText := true, laidKinds := [.data, .data, .data, .pinned], laidTests := true, laidLooks := .later }
def EntryFindsUptoCardSaid : Prop := Claim7.holds Tryz.pinned (.plain (OpenSpec.upto entryFindsSpec)) entryFindsUptoCard

/-- THE SECOND FORM's CARD OF 'watchwordlaw24.EntryNames'. -/
def entryNamesUptoCard : Claim7 := { stood := { row := entryNamesUptoRow, standIns := [], harness := (true, "3111e5af5826d823679542792685bda3a6b42493069990e8f179c95ca47f34d6"), looks := true }, kinds := [], alts := [], laidByText := true, laidKinds := [.data, .data, .data, .pinned], laidTests := true, laidLooks := .later }
def EntryNamesUptoCardSaid : Prop := Claim7.holds Tryz.pinned (.plain (OpenSpec.upto entryNamesSpec)) entryNamesUptoCard

/-- THE SECOND FORM's CARD OF 'watchwordlaw24.EntryCopies'. -/
def entryCopiesUptoCard : Claim7 := { stood := { row := entryCopiesUptoRow, standIns := [], harness := (true, "3111e5af5826d823679542792685bda3a6b42493069990e8f179c95ca47f34d6"), looks := true }, kinds := [], alts := [], laidByText := true, laidKinds := [.data, .data, .data, .pinned], laidTests := true, laidLooks := .later }
def EntryCopiesUptoCardSaid : Prop := Claim7.holds Tryz.pinned (.plain (OpenSpec.upto entryCopiesSpec)) entryCopiesUptoCard

/-- THE SECOND FORM's CARD OF 'watchwordlaw24.EntryOffers'. -/
def entryOffersUptoCard : Claim7 := { stood := { row := entryOffersUptoRow, standIns := [], harness := (true, "3111e5af5826d823679542792685bda3a6b42493069990e8f179c95ca47f34d6"), looks := true }, kinds := [], alts := [], laidByText := true, laidKinds := [.data, .data, .data, .pinned], laidTests := true, laidLooks := .later }
def EntryOffersUptoCardSaid : Prop := Claim7.holds Tryz.pinned (.plain (OpenSpec.upto entryOffersSpec)) entryOffersUptoCard

/-- THE SECOND FORM's CARD OF 'watchwordlaw24.EntryEncodes'. -/
def entryEncodesUptoCard : Claim7 := { stood := { row := entryEncodesUptoRow, standIns := [], harness := (true, "3111e5af5826d823679542792685bda3a6b42493069990e8f179c95ca47f34d6"), looks := true }, kinds := [], alts := [], laidByText := true, laidKinds := [.data, .data, .data, .pinned], laidTests := true, laidLooks := .later }
def EntryEncodesUptoCardSaid : Prop := Claim7.holds Tryz.pinned (.plain (OpenSpec.upto entryEncodesSpec)) entryEncodesUptoCard

/-- THE SECOND FORM's CARD OF 'watchwordlaw24.EntryHolds'. -/
def entryHoldsUptoCard : Claim7 := { stood := { row := entryHoldsUptoRow, standIns := [], harness := (true, "3111e5af5826d823679542792685bda3a6b42493069990e8f179c95ca47f34d6"), looks := true }, kinds := [], alts := [], laidByText := true, laidKinds := [.data, .data, .data, .pinned], laidTests := true, laidLooks := .later }
def EntryHoldsUptoCardSaid : Prop := Claim7.holds Tryz.pinned (.plain (OpenSpec.upto entryHoldsSpec)) entryHoldsUptoCard
end Rows
end Go.Proofs.YtddmkgibghohkaaGreatDoor
