/-
  DERIVED. GIVEN WITH THE SEED: THE CARDS: each row of YtgmdlnobajmjfaaDoorRows.lean that lists a variable, with what it lists TIED to the program's text (the seventh form; the later family's looks); each row that meets fmt, with fmt's text TOLD by the authors' own Lean function (tested against real Go, not proved from fmt's source: count such statements apart). THE CARD IS WHAT COUNTS. Prove the row's statement (the work); the ties are given (YtgmdlnobajmjfaaDoorTie.lean); close each card by the builder's one call (the guide's Derived/Test/ToyasCard.lean, 'card_holds'). Laid BY PROGRAM, IN A SANDBOX (cutbox-door.mjs). By AI agents, Wed Nov 11 2026. No macro, syntax, notation, axiom, sorry.
-/
import Derived.Test.YtgmdlnobajmjfaaDoorRows
import GoSem.ClaimSeven
namespace Go.Proofs.YtgmdlnobajmjfaaDoor
namespace Rows

/-- THE TIED CARD OF 'waterwheellaw04.SampleVectors'. -/
def sampleVectorsCard : Claim7 := { stood := { row := sampleVectorsRow, standIns := [], harness := (true, "a956798bf42d3c13868be3e4ed07253ca52b9431aed681a22cf8808aa5cbc6f7"), looks := false }, kinds := [], alts := [], laidByText := true, laidKinds := [.data, .data, .data], laidTests := true, laidLooks := .later }
def SampleVectorsCardSaid : Prop := Claim7.holds Tryd.pinned (.plain (OpenSpec.ofChange sampleVectorsSpec)) sampleVectorsCard

/-- THE TIED CARD OF 'waterwheellaw04.SampleTells'. -/
def sampleTellsCard : Claim7 := { stood := { row := sampleTellsRow, standIns := [], harness := (true, "a956798bf42d3c13868be3e4ed07253ca52b9431aed681a22cf8808aa5cbc6f7"), looks := false }, kinds := [], alts := [], laidByText := true, laidKinds := [.data, .data, .data], laidTests := true, laidLooks := .later }
def SampleTellsCardSaid : Prop := Claim7.holds Tryd.pinned (.plain (OpenSpec.ofChange sampleTellsSpec)) sampleTellsCard

/-- THE SECOND FORM's CARD OF 'waterwheellaw04.SampleVectors'. -/
def sampleVectorsUptoCard : Claim7 := { stood := { row := sampleVectorsUptoRow, standIns := [], harness := (true, "a956798bf42d3c13868be3e4ed07253ca52b9431aed681a22cf8808aa5cbc6f7"), looks := false }, kinds := [], alts := [], laidByText := true, laidKinds := [.data, .data, .data], laidTests := true, laidLooks := .later }
def SampleVectorsUptoCardSaid : Prop := Claim7.holds Tryd.pinned (.plain (OpenSpec.upto sampleVectorsSpec)) sampleVectorsUptoCard

/-- THE SECOND FORM's CARD OF 'waterwheellaw04.SampleTells'. -/
def sampleTellsUptoCard : Claim7 := { stood := { row := sampleTellsUptoRow, standIns := [], harness := (true, "a956798bf42d3c13868be3e4ed07253ca52b9431aed681a22cf8808aa5cbc6f7"), looks := false }, kinds := [], alts := [], laidByText := true, laidKinds := [.data, .data, .data], laidTests := true, laidLooks := .later }
def SampleTellsUptoCardSaid : Prop := Claim7.holds Tryd.pinned (.plain (OpenSpec.upto sampleTellsSpec)) sampleTellsUptoCard
end Rows
end Go.Proofs.YtgmdlnobajmjfaaDoor
