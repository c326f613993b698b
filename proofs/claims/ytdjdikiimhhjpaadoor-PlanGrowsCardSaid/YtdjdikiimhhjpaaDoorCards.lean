/-
  DERIVED. GIVEN WITH THE SEED: THE CARDS: each row of YtdjdikiimhhjpaaDoorRows.lean that lists a variable, with what it lists TIED to the program's text (the seventh form; the later family's looks); each row that meets fmt, with fmt's text TOLD by the authors' own Lean function (tested against real Go, not proved from fmt's source: count such statements apart). THE CARD IS WHAT COUNTS. Prove the row's statement (the work); the ties are given (YtdjdikiimhhjpaaDoorTie.lean); close each card by the builder's one call (the guide's Derived/Test/ToyasCard.lean, 'card_holds'). Laid BY PROGRAM, IN A SANDBOX (cutbox-door.mjs). By AI agents, Wed Nov 11 2026. No macro, syntax, notation, axiom, sorry.
-/
import Derived.Test.YtdjdikiimhhjpaaDoorRows
import GoSem.ClaimSeven
namespace Go.Proofs.YtdjdikiimhhjpaaDoor
namespace Rows

/-- THE TIED CARD OF 'waterwheellaw17.PlanGrows'. -/
def planGrowsCard : Claim7 := { stood := { row := planGrowsRow, standIns := [], harness := (true, "9b71b775a760a7f213362eff94f13803845fd4adc01d2068255e4681067d2bd7"), looks := false }, kinds := [], alts := [], laidByText := true, laidKinds := [.data, .data, .data], laidTests := true, laidLooks := .later }
def PlanGrowsCardSaid : Prop := Claim7.holds Tryd.pinned (.plain (OpenSpec.ofChange planGrowsSpec)) planGrowsCard

/-- THE TIED CARD OF 'waterwheellaw17.PlanBack'. -/
def planBackCard : Claim7 := { stood := { row := planBackRow, standIns := [], harness := (true, "9b71b775a760a7f213362eff94f13803845fd4adc01d2068255e4681067d2bd7"), looks := false }, kinds := [], alts := [], laidByText := true, laidKinds := [.data, .data, .data], laidTests := true, laidLooks := .later }
def PlanBackCardSaid : Prop := Claim7.holds Tryd.pinned (.plain (OpenSpec.ofChange planBackSpec)) planBackCard

/-- THE TIED CARD OF 'waterwheellaw17.PlanNames'. -/
def planNamesCard : Claim7 := { stood := { row := planNamesRow, standIns := [], harness := (true, "9b71b775a760a7f213362eff94f13803845fd4adc01d2068255e4681067d2bd7"), looks := false }, kinds := [], alts := [], laidByText := true, laidKinds := [.data, .data, .data], laidTests := true, laidLooks := .later }
def PlanNamesCardSaid : Prop := Claim7.holds Tryd.pinned (.plain (OpenSpec.ofChange planNamesSpec)) planNamesCard

/-- THE SECOND FORM's CARD OF 'waterwheellaw17.PlanGrows'. -/
def planGrowsUptoCard : Claim7 := { stood := { row := planGrowsUptoRow, standIns := [], harness := (true, "9b71b775a760a7f213362eff94f13803845fd4adc01d2068255e4681067d2bd7"), looks := false }, kinds := [], alts := [], laidByText := true, laidKinds := [.data, .data, .data], laidTests := true, laidLooks := .later }
def PlanGrowsUptoCardSaid : Prop := Claim7.holds Tryd.pinned (.plain (OpenSpec.upto planGrowsSpec)) planGrowsUptoCard

/-- THE SECOND FORM's CARD OF 'waterwheellaw17.PlanBack'. -/
def planBackUptoCard : Claim7 := { stood := { row := planBackUptoRow, standIns := [], harness := (true, "9b71b775a760a7f213362eff94f13803845fd4adc01d2068255e4681067d2bd7"), looks := false }, kinds := [], alts := [], laidByText := true, laidKinds := [.data, .data, .data], laidTests := true, laidLooks := .later }
def PlanBackUptoCardSaid : Prop := Claim7.holds Tryd.pinned (.plain (OpenSpec.upto planBackSpec)) planBackUptoCard

/-- THE SECOND FORM's CARD OF 'waterwheellaw17.PlanNames'. -/
def planNamesUptoCard : Claim7 := { stood := { row := planNamesUptoRow, standIns := [], harness := (true, "9b71b775a760a7f213362eff94f13803845fd4adc01d2068255e4681067d2bd7"), looks := false }, kinds := [], alts := [], laidByText := true, laidKinds := [.data, .data, .data], laidTests := true, laidLooks := .later }
def PlanNamesUptoCardSaid : Prop := Claim7.holds Tryd.pinned (.plain (OpenSpec.upto planNamesSpec)) planNamesUptoCard
end Rows
end Go.Proofs.YtdjdikiimhhjpaaDoor
