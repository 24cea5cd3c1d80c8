/-
  DERIVED. GIVEN WITH THE SEED: THE CARDS: each row of YtopgbgnmjogeeaaDoorRows.lean that lists a variable, with what it lists TIED to the program's text (the seventh form; the later family's looks); each row that meets fmt, with fmt's text TOLD by the authors' own Lean function (tested against real Go, not proved from fmt's source: count such statements apart). THE CARD IS WHAT COUNTS. Prove the row's statement (the work); the ties are given (YtopgbgnmjogeeaaDoorTie.lean); close each card by the builder's one call (the guide's Derived/Test/ToyasCard.lean, 'card_holds'). Laid BY PROGRAM, IN A SANDBOX (cutbox-door.mjs). By AI agents, Wed Nov 11 2026. No macro, syntax, notation, axiom, sorry.
-/
import Derived.Test.YtopgbgnmjogeeaaDoorRows
import GoSem.ClaimSeven
namespace Go.Proofs.YtopgbgnmjogeeaaDoor
namespace Rows

/-- THE TIED CARD OF 'synchronylaw37.SatTexts'. -/
def satTextsCard : Claim7 := { stood := { row := satTextsRow, standIns := [], harness := (true, "303a8fcac4fa41be38d304870bfbfa35e8fcc58049a0a74a0b1feda9da7aed86"), looks := true }, kinds := [], alts := [], laidByText := true, laidKinds := [.data, .data, .data, .data, .sentinel, .sentinel, .pinned], laidTests := true, laidLooks := .later }
def SatTextsCardSaid : Prop := Claim7.holds Tryd.pinned (.plain (OpenSpec.ofChange satTextsSpec)) satTextsCard

/-- THE TIED CARD OF 'synchronylaw36.CnfRight'. -/
def cnfRightCard : Claim7 := { stood := { row := cnfRightRow, standIns := [], harness := (true, "303a8fcac4fa41be38d304870bfbfa35e8fcc58049a0a74a0b1feda9da7aed86"), looks := true }, kinds := [], alts := [], laidByText := true, laidKinds := [.data, .data, .data, .data, .sentinel, .sentinel, .pinned], laidTests := true, laidLooks := .later }
def CnfRightCardSaid : Prop := Claim7.holds Tryd.pinned (.plain (OpenSpec.ofChange cnfRightSpec)) cnfRightCard

/-- THE SECOND FORM's CARD OF 'synchronylaw37.SatTexts'. -/
def satTextsUptoCard : Claim7 := { stood := { row := satTextsUptoRow, standIns := [], harness := (true, "303a8fcac4fa41be38d304870bfbfa35e8fcc58049a0a74a0b1feda9da7aed86"), looks := true }, kinds := [], alts := [], laidByText := true, laidKinds := [.data, .data, .data, .data, .sentinel, .sentinel, .pinned], laidTests := true, laidLooks := .later }
def SatTextsUptoCardSaid : Prop := Claim7.holds Tryd.pinned (.plain (OpenSpec.upto satTextsSpec)) satTextsUptoCard

/-- THE SECOND FORM's CARD OF 'synchronylaw36.CnfRight'. -/
def cnfRightUptoCard : Claim7 := { stood := { row := cnfRightUptoRow, standIns := [], harness := (true, "303a8fcac4fa41be38d304870bfbfa35e8fcc58049a0a74a0b1feda9da7aed86"), looks := true }, kinds := [], alts := [], laidByText := true, laidKinds := [.data, .data, .data, .data, .sentinel, .sentinel, .pinned], laidTests := true, laidLooks := .later }
def CnfRightUptoCardSaid : Prop := Claim7.holds Tryd.pinned (.plain (OpenSpec.upto cnfRightSpec)) cnfRightUptoCard
end Rows
end Go.Proofs.YtopgbgnmjogeeaaDoor
