/-
  DERIVED. GIVEN WITH THE SEED: THE CARDS: each row of YthbcodbcndiapaaGreatDoorRows.lean that lists a variable, with what it lists TIED to the program's text (the seventh form; the later family's looks); each row that meets fmt, with fmt's text TOLD by the authors' own Lean function (tested against real Go, not proved from fmt's source: count such statements apart). THE CARD IS WHAT COUNTS. Prove the row's statement (the work); the ties are given (YthbcodbcndiapaaGreatDoorTie.lean); close each card by the builder's one call (the guide's Derived/Test/ToyasCard.lean, 'card_holds'). Laid BY PROGRAM, IN A SANDBOX (cutbox-door.mjs). By AI agents, Wed Nov 11 2026. No macro, syntax, notation, axiom, sorry.
-/
import Derived.Test.YthbcodbcndiapaaGreatDoorRows
import GoSem.ClaimSeven
namespace Go.Proofs.YthbcodbcndiapaaGreatDoor
namespace Rows

/-- THE TIED CARD OF 'watchwordlaw17.AuthenticatorEncodes'. -/
def authenticatorEncodesCard : Claim7 := { stood := { row := authenticatorEncodesRow, standIns := [], harness := (true, "a9f11d9bee9d1592c4c29d9f16718837a47514253b716eddcfb5da8b3c4ead90"), looks := true }, kinds := [], alts := [], laidByText := true, laidKinds := [.data, .data, .data, .pinned], laidTests := true, laidLooks := .later }
def AuthenticatorEncodesCardSaid : Prop := Claim7.holds Tryz.pinned (.plain (OpenSpec.ofChange authenticatorEncodesSpec)) authenticatorEncodesCard

/-- THE TIED CARD OF 'watchwordlaw17.AuthenticatorSeals'. -/
def authenticatorSealsCard : Claim7 := { stood := { row := authenticatorSealsRow, standIns := [], harness := (true, "a9f11d9bee9d1592c4c29d9f16718837a47514253b716eddcfb5da8b3c4ead90"), looks := true }, kinds := [], alts := [], laidByText := true, laidKinds := [.data, .data, .data, .data, .data, .pinned], laidTests := true, laidLooks := .later }
def AuthenticatorSealsCardSaid : Prop := Claim7.holds Tryz.pinned (.plain (OpenSpec.ofChange authenticatorSealsSpec)) authenticatorSealsCard

/-- THE TIED CARD OF 'watchwordlaw17.AuthenticatorChecks'. -/
def authenticatorChecksCard : Claim7 := { stood := { row := authenticatorChecksRow, standIns := [], harness := (true, "a9f11d9bee9d1592c4c29d9f16718837a47514253b716eddcfb5da8b3c4ead90"), looks := true }, kinds := [], alts := [], laidByText := true, laidKinds := [.data, .data, .data, .pinned], laidTests := true, laidLooks := .later }
def AuthenticatorChecksCardSaid : Prop := Claim7.holds Tryz.pinned (.plain (OpenSpec.ofChange authenticatorChecksSpec)) authenticatorChecksCard

/-- THE TIED CARD OF 'watchwordlaw17.AuthenticatorHolds'. -/
def authenticatorHoldsCard : Claim7 := { stood := { row := authenticatorHoldsRow, standIns := [], harness := (true, "a9f11d9bee9d1592c4c29d9f16718837a47514253b716eddcfb5da8b3c4ead90"), looks := true }, kinds := [], alts := [], laidByText := true, laidKinds := [.data, .data, .data, .pinned], laidTests := true, laidLooks := .later }
def AuthenticatorHoldsCardSaid : Prop := Claim7.holds Tryz.pinned (.plain (OpenSpec.ofChange authenticatorHoldsSpec)) authenticatorHoldsCard

/-- THE TIED CARD OF 'watchwordlaw17.AuthenticatorCopies'. -/
def authenticatorCopiesCard : Claim7 := { stood := { row := authenticatorCopiesRow, standIns := [], harness := (true, "a9f11d9bee9d1592c4c29d9f16718837a47514253b716eddcfb5da8b3c4ead90"), looks := true }, kinds := [], alts := [], laidByText := true, laidKinds := [.data, .data, .data, .pinned], laidTests := true, laidLooks := .later }
def AuthenticatorCopiesCardSaid : Prop := Claim7.holds Tryz.pinned (.plain (OpenSpec.ofChange authenticatorCopiesSpec)) authenticatorCopiesCard

/-- THE SECOND FORM's CARD OF 'watchwordlaw17.AuthenticatorEncodes'. -/
def authenticatorEncodesUptoCard : Claim7 := { stood := { row := authenticatorEncodesUptoRow, standIns := [], harness := (true, "a9f11d9bee9d1592c4c29d9f16718837a47514253b716eddcfb5da8b3c4ead90"), looks := true }, kinds := [], alts := [], laidByText := true, laidKinds := [.data, .data, .data, .pinned], laidTests := true, laidLooks := .later }
def AuthenticatorEncodesUptoCardSaid : Prop := Claim7.holds Tryz.pinned (.plain (OpenSpec.upto authenticatorEncodesSpec)) authenticatorEncodesUptoCard

/-- THE SECOND FORM's CARD OF 'watchwordlaw17.AuthenticatorSeals'. -/
def authenticatorSealsUptoCard : Claim7 := { stood := { row := authenticatorSealsUptoRow, standIns := [], harness := (true, "a9f11d9bee9d1592c4c29d9f16718837a47514253b716eddcfb5da8b3c4ead90"), looks := true }, kinds := [], alts := [], laidByText := true, laidKinds := [.data, .data, .data, .data, .data, .pinned], laidTests := true, laidLooks := .later }
def AuthenticatorSealsUptoCardSaid : Prop := Claim7.holds Tryz.pinned (.plain (OpenSpec.upto authenticatorSealsSpec)) authenticatorSealsUptoCard

/-- THE SECOND FORM's CARD OF 'watchwordlaw17.AuthenticatorChecks'. -/
def authenticatorChecksUptoCard : Claim7 := { stood := { row := authenticatorChecksUptoRow, standIns := [], harness := (true, "a9f11d9bee9d1592c4c29d9f16718837a47514253b716eddcfb5da8b3c4ead90"), looks := true }, kinds := [], alts := [], laidByText := true, laidKinds := [.data, .data, .data, .pinned], laidTests := true, laidLooks := .later }
def AuthenticatorChecksUptoCardSaid : Prop := Claim7.holds Tryz.pinned (.plain (OpenSpec.upto authenticatorChecksSpec)) authenticatorChecksUptoCard

/-- THE SECOND FORM's CARD OF 'watchwordlaw17.AuthenticatorHolds'. -/
def authenticatorHoldsUptoCard : Claim7 := { stood := { row := authenticatorHoldsUptoRow, standIns := [], harness := (true, "a9f11d9bee9d1592c4c29d9f16718837a47514253b716eddcfb5da8b3c4ead90"), looks := true }, kinds := [], alts := [], laidByText := true, laidKinds := [.data, .data, .data, .pinned], laidTests := true, laidLooks := .later }
def AuthenticatorHoldsUptoCardSaid : Prop := Claim7.holds Tryz.pinned (.plain (OpenSpec.upto authenticatorHoldsSpec)) authenticatorHoldsUptoCard

/-- THE SECOND FORM's CARD OF 'watchwordlaw17.AuthenticatorCopies'. -/
def authenticatorCopiesUptoCard : Claim7 := { stood := { row := authenticatorCopiesUptoRow, standIns := [], harness := (true, "a9f11d9bee9d1592c4c29d9f16718837a47514253b716eddcfb5da8b3c4ead90"), looks := true }, kinds := [], alts := [], laidByText := true, laidKinds := [.data, .data, .data, .pinned], laidTests := true, laidLooks := .later }
def AuthenticatorCopiesUptoCardSaid : Prop := Claim7.holds Tryz.pinned (.plain (OpenSpec.upto authenticatorCopiesSpec)) authenticatorCopiesUptoCard
end Rows
end Go.Proofs.YthbcodbcndiapaaGreatDoor
