/-
  DERIVED. GIVEN WITH THE SEED: THE CARDS: each row of YtobelmipjanibaaDoorRows.lean that lists a variable, with what it lists TIED to the program's text (the seventh form; the later family's looks); each row that meets fmt, with fmt's text TOLD by the authors' own Lean function (tested against real Go, not proved from fmt's source: count such statements apart). THE CARD IS WHAT COUNTS. Prove the row's statement (the work); the ties are given (YtobelmipjanibaaDoorTie.lean); close each card by the builder's one call (the guide's Derived/Test/ToyasCard.lean, 'card_holds'). Laid BY PROGRAM, IN A SANDBOX (cutbox-door.mjs). By AI agents, Wed Nov 11 2026. No macro, syntax, notation, axiom, sorry.
-/
import Derived.Test.YtobelmipjanibaaDoorRows
import GoSem.ClaimSeven
namespace Go.Proofs.YtobelmipjanibaaDoor
namespace Rows

/-- THE TIED CARD OF 'waterwheellaw08.ShowNames'. -/
def showNamesCard : Claim7 := { stood := { row := showNamesRow, standIns := [], harness := (true, "7358c35bf478ee8734085705332b0d9e9c5d7809e63ad07ba94692f03149014f"), looks := false }, kinds := [], alts := [], laidByText := true, laidKinds := [.data, .data, .data], laidTests := true, laidLooks := .later }
def ShowNamesCardSaid : Prop := Claim7.holds Tryd.pinned (.plain (OpenSpec.ofChange showNamesSpec)) showNamesCard

/-- THE TIED CARD OF 'waterwheellaw08.ShowCalls'. -/
def showCallsCard : Claim7 := { stood := { row := showCallsRow, standIns := [], harness := (true, "7358c35bf478ee8734085705332b0d9e9c5d7809e63ad07ba94692f03149014f"), looks := false }, kinds := [], alts := [], laidByText := true, laidKinds := [.data, .data, .data], laidTests := true, laidLooks := .later }
def ShowCallsCardSaid : Prop := Claim7.holds Tryd.pinned (.plain (OpenSpec.ofChange showCallsSpec)) showCallsCard

/-- THE TIED CARD OF 'waterwheellaw08.ShowBack'. -/
def showBackCard : Claim7 := { stood := { row := showBackRow, standIns := [], harness := (true, "7358c35bf478ee8734085705332b0d9e9c5d7809e63ad07ba94692f03149014f"), looks := false }, kinds := [], alts := [], laidByText := true, laidKinds := [.data, .data, .data], laidTests := true, laidLooks := .later }
def ShowBackCardSaid : Prop := Claim7.holds Tryd.pinned (.plain (OpenSpec.ofChange showBackSpec)) showBackCard

/-- THE TIED CARD OF 'waterwheellaw08.ShowApart'. -/
def showApartCard : Claim7 := { stood := { row := showApartRow, standIns := [], harness := (true, "7358c35bf478ee8734085705332b0d9e9c5d7809e63ad07ba94692f03149014f"), looks := false }, kinds := [], alts := [], laidByText := true, laidKinds := [.data, .data, .data], laidTests := true, laidLooks := .later }
def ShowApartCardSaid : Prop := Claim7.holds Tryd.pinned (.plain (OpenSpec.ofChange showApartSpec)) showApartCard

/-- THE SECOND FORM's CARD OF 'waterwheellaw08.ShowNames'. -/
def showNamesUptoCard : Claim7 := { stood := { row := showNamesUptoRow, standIns := [], harness := (true, "7358c35bf478ee8734085705332b0d9e9c5d7809e63ad07ba94692f03149014f"), looks := false }, kinds := [], alts := [], laidByText := true, laidKinds := [.data, .data, .data], laidTests := true, laidLooks := .later }
def ShowNamesUptoCardSaid : Prop := Claim7.holds Tryd.pinned (.plain (OpenSpec.upto showNamesSpec)) showNamesUptoCard

/-- THE SECOND FORM's CARD OF 'waterwheellaw08.ShowCalls'. -/
def showCallsUptoCard : Claim7 := { stood := { row := showCallsUptoRow, standIns := [], harness := (true, "7358c35bf478ee8734085705332b0d9e9c5d7809e63ad07ba94692f03149014f"), looks := false }, kinds := [], alts := [], laidByText := true, laidKinds := [.data, .data, .data], laidTests := true, laidLooks := .later }
def ShowCallsUptoCardSaid : Prop := Claim7.holds Tryd.pinned (.plain (OpenSpec.upto showCallsSpec)) showCallsUptoCard

/-- THE SECOND FORM's CARD OF 'waterwheellaw08.ShowBack'. -/
def showBackUptoCard : Claim7 := { stood := { row := showBackUptoRow, standIns := [], harness := (true, "7358c35bf478ee8734085705332b0d9e9c5d7809e63ad07ba94692f03149014f"), looks := false }, kinds := [], alts := [], laidByText := true, laidKinds := [.data, .data, .data], laidTests := true, laidLooks := .later }
def ShowBackUptoCardSaid : Prop := Claim7.holds Tryd.pinned (.plain (OpenSpec.upto showBackSpec)) showBackUptoCard

/-- THE SECOND FORM's CARD OF 'waterwheellaw08.ShowApart'. -/
def showApartUptoCard : Claim7 := { stood := { row := showApartUptoRow, standIns := [], harness := (true, "7358c35bf478ee8734085705332b0d9e9c5d7809e63ad07ba94692f03149014f"), looks := false }, kinds := [], alts := [], laidByText := true, laidKinds := [.data, .data, .data], laidTests := true, laidLooks := .later }
def ShowApartUptoCardSaid : Prop := Claim7.holds Tryd.pinned (.plain (OpenSpec.upto showApartSpec)) showApartUptoCard
end Rows
end Go.Proofs.YtobelmipjanibaaDoor
