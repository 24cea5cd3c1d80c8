/-
  DERIVED. GIVEN WITH THE SEED: THE CARDS: each row of YtcnfcoojmbjdlaaGreatDoorRows.lean that lists a variable, with what it lists TIED to the program's text (the seventh form; the later family's looks); each row that meets fmt, with fmt's text TOLD by the authors' own Lean function (tested against real Go, not proved from fmt's source: count such statements apart). THE CARD IS WHAT COUNTS. Prove the row's statement (the work); the ties are given (YtcnfcoojmbjdlaaGreatDoorTie.lean); close each card by the builder's one call (the guide's Derived/Test/ToyasCard.lean, 'card_holds'). Laid BY PROGRAM, IN A SANDBOX (cutbox-door.mjs). By AI agents, Wed Nov 11 2026. No macro, syntax, notation, axiom, sorry.
-/
import Derived.Test.YtcnfcoojmbjdlaaGreatDoorRows
import GoSem.ClaimSeven
namespace Go.Proofs.YtcnfcoojmbjdlaaGreatDoor
namespace Rows

/-- THE TIED CARD OF 'synchronylaw26.AsmSame'. -/
def asmSameCard : Claim7 := { stood := { row := asmSameRow, standIns := [], harness := (true, "cdff456dd92370c1c64b087ef969cc4e43962e6e52a4d6d08ebddc6a88487c0e"), looks := true }, kinds := [], alts := [], laidByText := true, laidKinds := [.data, .data, .data, .data, .sentinel, .sentinel, .widerDeep, .pinned], laidTests := true, laidLooks := .later }
def AsmSameCardSaid : Prop := Claim7.holds Tryz.pinned (.plain (OpenSpec.ofChange asmSameSpec)) asmSameCard

/-- THE TIED CARD OF 'synchronylaw26.AsmChecks'. -/
def asmChecksCard : Claim7 := { stood := { row := asmChecksRow, standIns := [], harness := (true, "cdff456dd92370c1c64b087ef969cc4e43962e6e52a4d6d08ebddc6a88487c0e"), looks := true }, kinds := [], alts := [], laidByText := true, laidKinds := [.data, .data, .data, .data, .sentinel, .sentinel, .widerDeep, .pinned], laidTests := true, laidLooks := .later }
def AsmChecksCardSaid : Prop := Claim7.holds Tryz.pinned (.plain (OpenSpec.ofChange asmChecksSpec)) asmChecksCard

/-- THE TIED CARD OF 'synchronylaw26.AsmUses'. -/
def asmUsesCard : Claim7 := { stood := { row := asmUsesRow, standIns := [], harness := (true, "cdff456dd92370c1c64b087ef969cc4e43962e6e52a4d6d08ebddc6a88487c0e"), looks := true }, kinds := [], alts := [], laidByText := true, laidKinds := [.data, .data, .data, .data, .sentinel, .sentinel, .widerDeep, .pinned], laidTests := true, laidLooks := .later }
def AsmUsesCardSaid : Prop := Claim7.holds Tryz.pinned (.plain (OpenSpec.ofChange asmUsesSpec)) asmUsesCard

/-- THE TIED CARD OF 'synchronylaw26.AsmWorst'. -/
def asmWorstCard : Claim7 := { stood := { row := asmWorstRow, standIns := [], harness := (true, "cdff456dd92370c1c64b087ef969cc4e43962e6e52a4d6d08ebddc6a88487c0e"), looks := true }, kinds := [], alts := [], laidByText := true, laidKinds := [.data, .data, .data, .data, .sentinel, .sentinel, .widerDeep, .pinned], laidTests := true, laidLooks := .later }
def AsmWorstCardSaid : Prop := Claim7.holds Tryz.pinned (.plain (OpenSpec.ofChange asmWorstSpec)) asmWorstCard

/-- THE TIED CARD OF 'synchronylaw26.AsmTexts'. -/
def asmTextsCard : Claim7 := { stood := { row := asmTextsRow, standIns := [], harness := (true, "cdff456dd92370c1c64b087ef969cc4e43962e6e52a4d6d08ebddc6a88487c0e"), looks := true }, kinds := [], alts := [], laidByText := true, laidKinds := [.data, .data, .data, .data, .sentinel, .sentinel, .widerDeep, .pinned], laidTests := true, laidLooks := .later }
def AsmTextsCardSaid : Prop := Claim7.holds Tryz.pinned (.plain (OpenSpec.ofChange asmTextsSpec)) asmTextsCard

/-- THE TIED CARD OF 'synchronylaw26.AsmParses'. -/
def asmParsesCard : Claim7 := { stood := { row := asmParsesRow, standIns := [], harness := (true, "cdff456dd92370c1c64b087ef969cc4e43962e6e52a4d6d08ebddc6a88487c0e"), looks := true }, kinds := [], alts := [], laidByText := true, laidKinds := [.data, .data, .data, .data, .sentinel, .sentinel, .widerDeep, .pinned], laidTests := true, laidLooks := .later }
def AsmParsesCardSaid : Prop := Claim7.holds Tryz.pinned (.plain (OpenSpec.ofChange asmParsesSpec)) asmParsesCard

/-- THE TIED CARD OF 'synchronylaw26.AsmSound'. -/
def asmSoundCard : Claim7 := { stood := { row := asmSoundRow, standIns := [], harness := (true, "cdff456dd92370c1c64b087ef969cc4e43962e6e52a4d6d08ebddc6a88487c0e"), looks := true }, kinds := [], alts := [], laidByText := true, laidKinds := [.data, .data, .data, .data, .sentinel, .sentinel, .widerDeep, .pinned], laidTests := true, laidLooks := .later }
def AsmSoundCardSaid : Prop := Claim7.holds Tryz.pinned (.plain (OpenSpec.ofChange asmSoundSpec)) asmSoundCard

/-- THE SECOND FORM's CARD OF 'synchronylaw26.AsmSame'. -/
def asmSameUptoCard : Claim7 := { stood := { row := asmSameUptoRow, standIns := [], harness := (true, "cdff456dd92370c1c64b087ef969cc4e43962e6e52a4d6d08ebddc6a88487c0e"), looks := true }, kinds := [], alts := [], laidByText := true, laidKinds := [.data, .data, .data, .data, .sentinel, .sentinel, .widerDeep, .pinned], laidTests := true, laidLooks := .later }
def AsmSameUptoCardSaid : Prop := Claim7.holds Tryz.pinned (.plain (OpenSpec.upto asmSameSpec)) asmSameUptoCard

/-- THE SECOND FORM's CARD OF 'synchronylaw26.AsmChecks'. -/
def asmChecksUptoCard : Claim7 := { stood := { row := asmChecksUptoRow, standIns := [], harness := (true, "cdff456dd92370c1c64b087ef969cc4e43962e6e52a4d6d08ebddc6a88487c0e"), looks := true }, kinds := [], alts := [], laidByText := true, laidKinds := [.data, .data, .data, .data, .sentinel, .sentinel, .widerDeep, .pinned], laidTests := true, laidLooks := .later }
def AsmChecksUptoCardSaid : Prop := Claim7.holds Tryz.pinned (.plain (OpenSpec.upto asmChecksSpec)) asmChecksUptoCard

/-- THE SECOND FORM's CARD OF 'synchronylaw26.AsmUses'. -/
def asmUsesUptoCard : Claim7 := { stood := { row := asmUsesUptoRow, standIns := [], harness := (true, "cdff456dd92370c1c64b087ef969cc4e43962e6e52a4d6d08ebddc6a88487c0e"), looks := true }, kinds := [], alts := [], laidByText := true, laidKinds := [.data, .data, .data, .data, .sentinel, .sentinel, .widerDeep, .pinned], laidTests := true, laidLooks := .later }
def AsmUsesUptoCardSaid : Prop := Claim7.holds Tryz.pinned (.plain (OpenSpec.upto asmUsesSpec)) asmUsesUptoCard

/-- THE SECOND FORM's CARD OF 'synchronylaw26.AsmWorst'. -/
def asmWorstUptoCard : Claim7 := { stood := { row := asmWorstUptoRow, standIns := [], harness := (true, "cdff456dd92370c1c64b087ef969cc4e43962e6e52a4d6d08ebddc6a88487c0e"), looks := true }, kinds := [], alts := [], laidByText := true, laidKinds := [.data, .data, .data, .data, .sentinel, .sentinel, .widerDeep, .pinned], laidTests := true, laidLooks := .later }
def AsmWorstUptoCardSaid : Prop := Claim7.holds Tryz.pinned (.plain (OpenSpec.upto asmWorstSpec)) asmWorstUptoCard

/-- THE SECOND FORM's CARD OF 'synchronylaw26.AsmTexts'. -/
def asmTextsUptoCard : Claim7 := { stood := { row := asmTextsUptoRow, standIns := [], harness := (true, "cdff456dd92370c1c64b087ef969cc4e43962e6e52a4d6d08ebddc6a88487c0e"), looks := true }, kinds := [], alts := [], laidByText := true, laidKinds := [.data, .data, .data, .data, .sentinel, .sentinel, .widerDeep, .pinned], laidTests := true, laidLooks := .later }
def AsmTextsUptoCardSaid : Prop := Claim7.holds Tryz.pinned (.plain (OpenSpec.upto asmTextsSpec)) asmTextsUptoCard

/-- THE SECOND FORM's CARD OF 'synchronylaw26.AsmParses'. -/
def asmParsesUptoCard : Claim7 := { stood := { row := asmParsesUptoRow, standIns := [], harness := (true, "cdff456dd92370c1c64b087ef969cc4e43962e6e52a4d6d08ebddc6a88487c0e"), looks := true }, kinds := [], alts := [], laidByText := true, laidKinds := [.data, .data, .data, .data, .sentinel, .sentinel, .widerDeep, .pinned], laidTests := true, laidLooks := .later }
def AsmParsesUptoCardSaid : Prop := Claim7.holds Tryz.pinned (.plain (OpenSpec.upto asmParsesSpec)) asmParsesUptoCard

/-- THE SECOND FORM's CARD OF 'synchronylaw26.AsmSound'. -/
def asmSoundUptoCard : Claim7 := { stood := { row := asmSoundUptoRow, standIns := [], harness := (true, "cdff456dd92370c1c64b087ef969cc4e43962e6e52a4d6d08ebddc6a88487c0e"), looks := true }, kinds := [], alts := [], laidByText := true, laidKinds := [.data, .data, .data, .data, .sentinel, .sentinel, .widerDeep, .pinned], laidTests := true, laidLooks := .later }
def AsmSoundUptoCardSaid : Prop := Claim7.holds Tryz.pinned (.plain (OpenSpec.upto asmSoundSpec)) asmSoundUptoCard
end Rows
end Go.Proofs.YtcnfcoojmbjdlaaGreatDoor
