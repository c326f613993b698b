/-
  DERIVED. GIVEN WITH THE SEED: THE CARDS: each row of YtgjeomcflapmpaaDoorRows.lean that lists a variable, with what it lists TIED to the program's text (the seventh form; the later family's looks); each row that meets fmt, with fmt's text TOLD by the authors' own Lean function (tested against real Go, not proved from fmt's source: count such statements apart). THE CARD IS WHAT COUNTS. Prove the row's statement (the work); the ties are given (YtgjeomcflapmpaaDoorTie.lean); close each card by the builder's one call (the guide's Derived/Test/ToyasCard.lean, 'card_holds'). Laid BY PROGRAM, IN A SANDBOX (cutbox-door.mjs). By AI agents, Wed Nov 11 2026. No macro, syntax, notation, axiom, sorry.
-/
import Derived.Test.YtgjeomcflapmpaaDoorRows
import GoSem.ClaimSeven
namespace Go.Proofs.YtgjeomcflapmpaaDoor
namespace Rows

/-- THE TIED CARD OF 'waterwheellaw05.LexBack'. -/
def lexBackCard : Claim7 := { stood := { row := lexBackRow, standIns := [], harness := (true, "8a5fa481d4d924235676b9bc2d8cd8a787f31bafb4a144e69501cbc218871c50"), looks := false }, kinds := [], alts := [], laidByText := true, laidKinds := [.data, .data, .data], laidTests := true, laidLooks := .later }
def LexBackCardSaid : Prop := Claim7.holds Tryd.pinned (.plain (OpenSpec.ofChange lexBackSpec)) lexBackCard

/-- THE TIED CARD OF 'waterwheellaw05.LexCalls'. -/
def lexCallsCard : Claim7 := { stood := { row := lexCallsRow, standIns := [], harness := (true, "8a5fa481d4d924235676b9bc2d8cd8a787f31bafb4a144e69501cbc218871c50"), looks := false }, kinds := [], alts := [], laidByText := true, laidKinds := [.data, .data, .data], laidTests := true, laidLooks := .later }
def LexCallsCardSaid : Prop := Claim7.holds Tryd.pinned (.plain (OpenSpec.ofChange lexCallsSpec)) lexCallsCard

/-- THE SECOND FORM's CARD OF 'waterwheellaw05.LexBack'. -/
def lexBackUptoCard : Claim7 := { stood := { row := lexBackUptoRow, standIns := [], harness := (true, "8a5fa481d4d924235676b9bc2d8cd8a787f31bafb4a144e69501cbc218871c50"), looks := false }, kinds := [], alts := [], laidByText := true, laidKinds := [.data, .data, .data], laidTests := true, laidLooks := .later }
def LexBackUptoCardSaid : Prop := Claim7.holds Tryd.pinned (.plain (OpenSpec.upto lexBackSpec)) lexBackUptoCard

/-- THE SECOND FORM's CARD OF 'waterwheellaw05.LexCalls'. -/
def lexCallsUptoCard : Claim7 := { stood := { row := lexCallsUptoRow, standIns := [], harness := (true, "8a5fa481d4d924235676b9bc2d8cd8a787f31bafb4a144e69501cbc218871c50"), looks := false }, kinds := [], alts := [], laidByText := true, laidKinds := [.data, .data, .data], laidTests := true, laidLooks := .later }
def LexCallsUptoCardSaid : Prop := Claim7.holds Tryd.pinned (.plain (OpenSpec.upto lexCallsSpec)) lexCallsUptoCard
end Rows
end Go.Proofs.YtgjeomcflapmpaaDoor
