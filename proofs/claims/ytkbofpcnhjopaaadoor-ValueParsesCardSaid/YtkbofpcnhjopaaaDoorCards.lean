/-
  DERIVED. GIVEN WITH THE SEED: THE CARDS: each row of YtkbofpcnhjopaaaDoorRows.lean that lists a variable, with what it lists TIED to the program's text (the seventh form; the later family's looks); each row that meets fmt, with fmt's text TOLD by the authors' own Lean function (tested against real Go, not proved from fmt's source: count such statements apart). THE CARD IS WHAT COUNTS. Prove the row's statement (the work); the ties are given (YtkbofpcnhjopaaaDoorTie.lean); close each card by the builder's one call (the guide's Derived/Test/ToyasCard.lean, 'card_holds'). Laid BY PROGRAM, IN A SANDBOX (cutbox-door.mjs). By AI agents, Wed Nov 11 2026. No macro, syntax, notation, axiom, sorry.
-/
import Derived.Test.YtkbofpcnhjopaaaDoorRows
import GoSem.ClaimSeven
namespace Go.Proofs.YtkbofpcnhjopaaaDoor
namespace Rows

/-- THE TIED CARD OF 'synchronylaw05.ValueTexts'. -/
def valueTextsCard : Claim7 := { stood := { row := valueTextsRow, standIns := [], harness := (true, "875f53f9b5d04a9294d19609df0091be4a47eefe875ab9a0847eedf17314403e"), looks := true }, kinds := [], alts := [], laidByText := true, laidKinds := [.data, .data, .data, .sentinel, .sentinel], laidTests := true, laidLooks := .later }
def ValueTextsCardSaid : Prop := Claim7.holds Tryd.pinned (.plain (OpenSpec.ofChange valueTextsSpec)) valueTextsCard

/-- THE TIED CARD OF 'synchronylaw05.ValueParses'. -/
def valueParsesCard : Claim7 := { stood := { row := valueParsesRow, standIns := [], harness := (true, "875f53f9b5d04a9294d19609df0091be4a47eefe875ab9a0847eedf17314403e"), looks := true }, kinds := [], alts := [], laidByText := true, laidKinds := [.data, .data, .data, .sentinel, .sentinel], laidTests := true, laidLooks := .later }
def ValueParsesCardSaid : Prop := Claim7.holds Tryd.pinned (.plain (OpenSpec.ofChange valueParsesSpec)) valueParsesCard

/-- THE TIED CARD OF 'synchronylaw05.ValueResults'. -/
def valueResultsCard : Claim7 := { stood := { row := valueResultsRow, standIns := [], harness := (true, "875f53f9b5d04a9294d19609df0091be4a47eefe875ab9a0847eedf17314403e"), looks := true }, kinds := [], alts := [], laidByText := true, laidKinds := [.data, .data, .data, .sentinel, .sentinel], laidTests := true, laidLooks := .later }
def ValueResultsCardSaid : Prop := Claim7.holds Tryd.pinned (.plain (OpenSpec.ofChange valueResultsSpec)) valueResultsCard

/-- THE TIED CARD OF 'synchronylaw05.ValueApplies'. -/
def valueAppliesCard : Claim7 := { stood := { row := valueAppliesRow, standIns := [], harness := (true, "875f53f9b5d04a9294d19609df0091be4a47eefe875ab9a0847eedf17314403e"), looks := true }, kinds := [], alts := [], laidByText := true, laidKinds := [.data, .data, .data, .sentinel, .sentinel], laidTests := true, laidLooks := .later }
def ValueAppliesCardSaid : Prop := Claim7.holds Tryd.pinned (.plain (OpenSpec.ofChange valueAppliesSpec)) valueAppliesCard

/-- THE TIED CARD OF 'synchronylaw05.ValueTyped'. -/
def valueTypedCard : Claim7 := { stood := { row := valueTypedRow, standIns := [], harness := (true, "875f53f9b5d04a9294d19609df0091be4a47eefe875ab9a0847eedf17314403e"), looks := true }, kinds := [], alts := [], laidByText := true, laidKinds := [.data, .data, .data, .sentinel, .sentinel], laidTests := true, laidLooks := .later }
def ValueTypedCardSaid : Prop := Claim7.holds Tryd.pinned (.plain (OpenSpec.ofChange valueTypedSpec)) valueTypedCard

/-- THE TIED CARD OF 'synchronylaw05.ValueLifts'. -/
def valueLiftsCard : Claim7 := { stood := { row := valueLiftsRow, standIns := [], harness := (true, "875f53f9b5d04a9294d19609df0091be4a47eefe875ab9a0847eedf17314403e"), looks := true }, kinds := [], alts := [], laidByText := true, laidKinds := [.data, .data, .data, .sentinel, .sentinel], laidTests := true, laidLooks := .later }
def ValueLiftsCardSaid : Prop := Claim7.holds Tryd.pinned (.plain (OpenSpec.ofChange valueLiftsSpec)) valueLiftsCard

/-- THE TIED CARD OF 'synchronylaw05.ValueWords'. -/
def valueWordsCard : Claim7 := { stood := { row := valueWordsRow, standIns := [], harness := (true, "875f53f9b5d04a9294d19609df0091be4a47eefe875ab9a0847eedf17314403e"), looks := true }, kinds := [], alts := [], laidByText := true, laidKinds := [.data, .data, .data, .sentinel, .sentinel], laidTests := true, laidLooks := .later }
def ValueWordsCardSaid : Prop := Claim7.holds Tryd.pinned (.plain (OpenSpec.ofChange valueWordsSpec)) valueWordsCard

/-- THE TIED CARD OF 'synchronylaw05.ValueTypes'. -/
def valueTypesCard : Claim7 := { stood := { row := valueTypesRow, standIns := [], harness := (true, "875f53f9b5d04a9294d19609df0091be4a47eefe875ab9a0847eedf17314403e"), looks := true }, kinds := [], alts := [], laidByText := true, laidKinds := [.data, .data, .data, .sentinel, .sentinel], laidTests := true, laidLooks := .later }
def ValueTypesCardSaid : Prop := Claim7.holds Tryd.pinned (.plain (OpenSpec.ofChange valueTypesSpec)) valueTypesCard

/-- THE SECOND FORM's CARD OF 'synchronylaw05.ValueTexts'. -/
def valueTextsUptoCard : Claim7 := { stood := { row := valueTextsUptoRow, standIns := [], harness := (true, "875f53f9b5d04a9294d19609df0091be4a47eefe875ab9a0847eedf17314403e"), looks := true }, kinds := [], alts := [], laidByText := true, laidKinds := [.data, .data, .data, .sentinel, .sentinel], laidTests := true, laidLooks := .later }
def ValueTextsUptoCardSaid : Prop := Claim7.holds Tryd.pinned (.plain (OpenSpec.upto valueTextsSpec)) valueTextsUptoCard

/-- THE SECOND FORM's CARD OF 'synchronylaw05.ValueParses'. -/
def valueParsesUptoCard : Claim7 := { stood := { row := valueParsesUptoRow, standIns := [], harness := (true, "875f53f9b5d04a9294d19609df0091be4a47eefe875ab9a0847eedf17314403e"), looks := true }, kinds := [], alts := [], laidByText := true, laidKinds := [.data, .data, .data, .sentinel, .sentinel], laidTests := true, laidLooks := .later }
def ValueParsesUptoCardSaid : Prop := Claim7.holds Tryd.pinned (.plain (OpenSpec.upto valueParsesSpec)) valueParsesUptoCard

/-- THE SECOND FORM's CARD OF 'synchronylaw05.ValueResults'. -/
def valueResultsUptoCard : Claim7 := { stood := { row := valueResultsUptoRow, standIns := [], harness := (true, "875f53f9b5d04a9294d19609df0091be4a47eefe875ab9a0847eedf17314403e"), looks := true }, kinds := [], alts := [], laidByText := true, laidKinds := [.data, .data, .data, .sentinel, .sentinel], laidTests := true, laidLooks := .later }
def ValueResultsUptoCardSaid : Prop := Claim7.holds Tryd.pinned (.plain (OpenSpec.upto valueResultsSpec)) valueResultsUptoCard

/-- THE SECOND FORM's CARD OF 'synchronylaw05.ValueApplies'. -/
def valueAppliesUptoCard : Claim7 := { stood := { row := valueAppliesUptoRow, standIns := [], harness := (true, "875f53f9b5d04a9294d19609df0091be4a47eefe875ab9a0847eedf17314403e"), looks := true }, kinds := [], alts := [], laidByText := true, laidKinds := [.data, .data, .data, .sentinel, .sentinel], laidTests := true, laidLooks := .later }
def ValueAppliesUptoCardSaid : Prop := Claim7.holds Tryd.pinned (.plain (OpenSpec.upto valueAppliesSpec)) valueAppliesUptoCard

/-- THE SECOND FORM's CARD OF 'synchronylaw05.ValueTyped'. -/
def valueTypedUptoCard : Claim7 := { stood := { row := valueTypedUptoRow, standIns := [], harness := (true, "875f53f9b5d04a9294d19609df0091be4a47eefe875ab9a0847eedf17314403e"), looks := true }, kinds := [], alts := [], laidByText := true, laidKinds := [.data, .data, .data, .sentinel, .sentinel], laidTests := true, laidLooks := .later }
def ValueTypedUptoCardSaid : Prop := Claim7.holds Tryd.pinned (.plain (OpenSpec.upto valueTypedSpec)) valueTypedUptoCard

/-- THE SECOND FORM's CARD OF 'synchronylaw05.ValueLifts'. -/
def valueLiftsUptoCard : Claim7 := { stood := { row := valueLiftsUptoRow, standIns := [], harness := (true, "875f53f9b5d04a9294d19609df0091be4a47eefe875ab9a0847eedf17314403e"), looks := true }, kinds := [], alts := [], laidByText := true, laidKinds := [.data, .data, .data, .sentinel, .sentinel], laidTests := true, laidLooks := .later }
def ValueLiftsUptoCardSaid : Prop := Claim7.holds Tryd.pinned (.plain (OpenSpec.upto valueLiftsSpec)) valueLiftsUptoCard

/-- THE SECOND FORM's CARD OF 'synchronylaw05.ValueWords'. -/
def valueWordsUptoCard : Claim7 := { stood := { row := valueWordsUptoRow, standIns := [], harness := (true, "875f53f9b5d04a9294d19609df0091be4a47eefe875ab9a0847eedf17314403e"), looks := true }, kinds := [], alts := [], laidByText := true, laidKinds := [.data, .data, .data, .sentinel, .sentinel], laidTests := true, laidLooks := .later }
def ValueWordsUptoCardSaid : Prop := Claim7.holds Tryd.pinned (.plain (OpenSpec.upto valueWordsSpec)) valueWordsUptoCard

/-- THE SECOND FORM's CARD OF 'synchronylaw05.ValueTypes'. -/
def valueTypesUptoCard : Claim7 := { stood := { row := valueTypesUptoRow, standIns := [], harness := (true, "875f53f9b5d04a9294d19609df0091be4a47eefe875ab9a0847eedf17314403e"), looks := true }, kinds := [], alts := [], laidByText := true, laidKinds := [.data, .data, .data, .sentinel, .sentinel], laidTests := true, laidLooks := .later }
def ValueTypesUptoCardSaid : Prop := Claim7.holds Tryd.pinned (.plain (OpenSpec.upto valueTypesSpec)) valueTypesUptoCard
end Rows
end Go.Proofs.YtkbofpcnhjopaaaDoor
