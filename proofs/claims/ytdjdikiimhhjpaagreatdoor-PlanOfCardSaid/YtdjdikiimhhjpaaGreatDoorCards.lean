/-
  DERIVED. GIVEN WITH THE SEED: THE CARDS: each row of YtdjdikiimhhjpaaGreatDoorRows.lean that lists a variable, with what it lists TIED to the program's text (the seventh form; the later family's looks); each row that meets fmt, with fmt's text TOLD by the authors' own Lean function (tested against real Go, not proved from fmt's source: count such statements apart). THE CARD IS WHAT COUNTS. Prove the row's statement (the work); the ties are given (YtdjdikiimhhjpaaGreatDoorTie.lean); close each card by the builder's one call (the guide's Derived/Test/ToyasCard.lean, 'card_holds'). Laid BY PROGRAM, IN A SANDBOX (cutbox-door.mjs). By AI agents, Wed Nov 11 2026. No macro, syntax, notation, axiom, sorry.
-/
import Derived.Test.YtdjdikiimhhjpaaGreatDoorRows
import GoSem.ClaimSeven
namespace Go.Proofs.YtdjdikiimhhjpaaGreatDoor
namespace Rows

/-- THE TIED CARD OF 'waterwheellaw17.PlanOf'. -/
def planOfCard : Claim7 := { stood := { row := planOfRow, standIns := [], harness := (true, "83a7c41423eda72cd02cd4400278fcc538af38942a9e148b863416f22c3def43"), looks := false }, kinds := [], alts := [], laidByText := true, laidKinds := [.data, .data, .data], laidTests := true, laidLooks := .later }
def PlanOfCardSaid : Prop := Claim7.holds Tryz.pinned (.plain (OpenSpec.ofChange planOfSpec)) planOfCard

/-- THE SECOND FORM's CARD OF 'waterwheellaw17.PlanOf'. -/
def planOfUptoCard : Claim7 := { stood := { row := planOfUptoRow, standIns := [], harness := (true, "83a7c41423eda72cd02cd4400278fcc538af38942a9e148b863416f22c3def43"), looks := false }, kinds := [], alts := [], laidByText := true, laidKinds := [.data, .data, .data], laidTests := true, laidLooks := .later }
def PlanOfUptoCardSaid : Prop := Claim7.holds Tryz.pinned (.plain (OpenSpec.upto planOfSpec)) planOfUptoCard
end Rows
end Go.Proofs.YtdjdikiimhhjpaaGreatDoor
