/-
  DERIVED. GIVEN WITH THE SEED: THE CARDS: each row of YtopgbgnmjogeeaaGreatDoorRows.lean that lists a variable, with what it lists TIED to the program's text (the seventh form; the later family's looks); each row that meets fmt, with fmt's text TOLD by the authors' own Lean function (tested against real Go, not proved from fmt's source: count such statements apart). THE CARD IS WHAT COUNTS. Prove the row's statement (the work); the ties are given (YtopgbgnmjogeeaaGreatDoorTie.lean); close each card by the builder's one call (the guide's Derived/Test/ToyasCard.lean, 'card_holds'). Laid BY PROGRAM, IN A SANDBOX (cutbox-door.mjs). By AI agents, Wed Nov 11 2026. No macro, syntax, notation, axiom, sorry.
-/
import Derived.Test.YtopgbgnmjogeeaaGreatDoorRows
import GoSem.ClaimSeven
namespace Go.Proofs.YtopgbgnmjogeeaaGreatDoor
namespace Rows

/-- THE TIED CARD OF 'synchronylaw36.CnfOf'. -/
def cnfOfCard : Claim7 := { stood := { row := cnfOfRow, standIns := [], harness := (true, "8ae6adcfbcae13a88e8347355fe437268045a46a7e9e6e847fe479540f83d3b6"), looks := true }, kinds := [], alts := [], laidByText := true, laidKinds := [.data, .data, .data, .data, .sentinel, .sentinel, .pinned], laidTests := true, laidLooks := .later }
def CnfOfCardSaid : Prop := Claim7.holds Tryz.pinned (.plain (OpenSpec.ofChange cnfOfSpec)) cnfOfCard

/-- THE TIED CARD OF 'synchronylaw36.CnfTexts'. -/
def cnfTextsCard : Claim7 := { stood := { row := cnfTextsRow, standIns := [], harness := (true, "8ae6adcfbcae13a88e8347355fe437268045a46a7e9e6e847fe479540f83d3b6"), looks := true }, kinds := [], alts := [], laidByText := true, laidKinds := [.data, .data, .data, .data, .sentinel, .sentinel, .pinned], laidTests := true, laidLooks := .later }
def CnfTextsCardSaid : Prop := Claim7.holds Tryz.pinned (.plain (OpenSpec.ofChange cnfTextsSpec)) cnfTextsCard

/-- THE TIED CARD OF 'synchronylaw36.CnfParses'. -/
def cnfParsesCard : Claim7 := { stood := { row := cnfParsesRow, standIns := [], harness := (true, "8ae6adcfbcae13a88e8347355fe437268045a46a7e9e6e847fe479540f83d3b6"), looks := true }, kinds := [], alts := [], laidByText := true, laidKinds := [.data, .data, .data, .data, .sentinel, .sentinel, .pinned], laidTests := true, laidLooks := .later }
def CnfParsesCardSaid : Prop := Claim7.holds Tryz.pinned (.plain (OpenSpec.ofChange cnfParsesSpec)) cnfParsesCard

/-- THE TIED CARD OF 'synchronylaw36.CnfModels'. -/
def cnfModelsCard : Claim7 := { stood := { row := cnfModelsRow, standIns := [], harness := (true, "8ae6adcfbcae13a88e8347355fe437268045a46a7e9e6e847fe479540f83d3b6"), looks := true }, kinds := [], alts := [], laidByText := true, laidKinds := [.data, .data, .data, .data, .sentinel, .sentinel, .pinned], laidTests := true, laidLooks := .later }
def CnfModelsCardSaid : Prop := Claim7.holds Tryz.pinned (.plain (OpenSpec.ofChange cnfModelsSpec)) cnfModelsCard

/-- THE TIED CARD OF 'synchronylaw36.CnfRoots'. -/
def cnfRootsCard : Claim7 := { stood := { row := cnfRootsRow, standIns := [], harness := (true, "8ae6adcfbcae13a88e8347355fe437268045a46a7e9e6e847fe479540f83d3b6"), looks := true }, kinds := [], alts := [], laidByText := true, laidKinds := [.data, .data, .data, .data, .sentinel, .sentinel, .pinned], laidTests := true, laidLooks := .later }
def CnfRootsCardSaid : Prop := Claim7.holds Tryz.pinned (.plain (OpenSpec.ofChange cnfRootsSpec)) cnfRootsCard

/-- THE SECOND FORM's CARD OF 'synchronylaw36.CnfOf'. -/
def cnfOfUptoCard : Claim7 := { stood := { row := cnfOfUptoRow, standIns := [], harness := (true, "8ae6adcfbcae13a88e8347355fe437268045a46a7e9e6e847fe479540f83d3b6"), looks := true }, kinds := [], alts := [], laidByText := true, laidKinds := [.data, .data, .data, .data, .sentinel, .sentinel, .pinned], laidTests := true, laidLooks := .later }
def CnfOfUptoCardSaid : Prop := Claim7.holds Tryz.pinned (.plain (OpenSpec.upto cnfOfSpec)) cnfOfUptoCard

/-- THE SECOND FORM's CARD OF 'synchronylaw36.CnfTexts'. -/
def cnfTextsUptoCard : Claim7 := { stood := { row := cnfTextsUptoRow, standIns := [], harness := (true, "8ae6adcfbcae13a88e8347355fe437268045a46a7e9e6e847fe479540f83d3b6"), looks := true }, kinds := [], alts := [], laidByText := true, laidKinds := [.data, .data, .data, .data, .sentinel, .sentinel, .pinned], laidTests := true, laidLooks := .later }
def CnfTextsUptoCardSaid : Prop := Claim7.holds Tryz.pinned (.plain (OpenSpec.upto cnfTextsSpec)) cnfTextsUptoCard

/-- THE SECOND FORM's CARD OF 'synchronylaw36.CnfParses'. -/
def cnfParsesUptoCard : Claim7 := { stood := { row := cnfParsesUptoRow, standIns := [], harness := (true, "8ae6adcfbcae13a88e8347355fe437268045a46a7e9e6e847fe479540f83d3b6"), looks := true }, kinds := [], alts := [], laidByText := true, laidKinds := [.data, .data, .data, .data, .sentinel, .sentinel, .pinned], laidTests := true, laidLooks := .later }
def CnfParsesUptoCardSaid : Prop := Claim7.holds Tryz.pinned (.plain (OpenSpec.upto cnfParsesSpec)) cnfParsesUptoCard

/-- THE SECOND FORM's CARD OF 'synchronylaw36.CnfModels'. -/
def cnfModelsUptoCard : Claim7 := { stood := { row := cnfModelsUptoRow, standIns := [], harness := (true, "8ae6adcfbcae13a88e8347355fe437268045a46a7e9e6e847fe479540f83d3b6"), looks := true }, kinds := [], alts := [], laidByText := true, laidKinds := [.data, .data, .data, .data, .sentinel, .sentinel, .pinned], laidTests := true, laidLooks := .later }
def CnfModelsUptoCardSaid : Prop := Claim7.holds Tryz.pinned (.plain (OpenSpec.upto cnfModelsSpec)) cnfModelsUptoCard

/-- THE SECOND FORM's CARD OF 'synchronylaw36.CnfRoots'. -/
def cnfRootsUptoCard : Claim7 := { stood := { row := cnfRootsUptoRow, standIns := [], harness := (true, "8ae6adcfbcae13a88e8347355fe437268045a46a7e9e6e847fe479540f83d3b6"), looks := true }, kinds := [], alts := [], laidByText := true, laidKinds := [.data, .data, .data, .data, .sentinel, .sentinel, .pinned], laidTests := true, laidLooks := .later }
def CnfRootsUptoCardSaid : Prop := Claim7.holds Tryz.pinned (.plain (OpenSpec.upto cnfRootsSpec)) cnfRootsUptoCard
end Rows
end Go.Proofs.YtopgbgnmjogeeaaGreatDoor
