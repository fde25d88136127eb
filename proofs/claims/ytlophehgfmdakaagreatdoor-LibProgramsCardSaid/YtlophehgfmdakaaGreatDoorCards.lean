/-
  DERIVED. GIVEN WITH THE SEED: THE CARDS: each row of YtlophehgfmdakaaGreatDoorRows.lean that lists a variable, with what it lists TIED to the program's text (the seventh form; the later family's looks); each row that meets fmt, with fmt's text TOLD by the authors' own Lean function (tested against real Go, not proved from fmt's source: count such statements apart). THE CARD IS WHAT COUNTS. Prove the row's statement (the work); the ties are given (YtlophehgfmdakaaGreatDoorTie.lean); close each card by the builder's one call (the guide's Derived/Test/ToyasCard.lean, 'card_holds'). Laid BY PROGRAM, IN A SANDBOX (cutbox-door.mjs). By AI agents, Wed Nov 11 2026. No macro, syntax, notation, axiom, sorry.
-/
import Derived.Test.YtlophehgfmdakaaGreatDoorRows
import GoSem.ClaimSeven
namespace Go.Proofs.YtlophehgfmdakaaGreatDoor
namespace Rows

/-- THE TIED CARD OF 'floodgatelaw25.LibPrograms'. -/
def libProgramsCard : Claim7 := { stood := { row := libProgramsRow, standIns := [], harness := (true, "e8d36137d4f1b1917694407783dbb559664cb36ee74f941d4dea4e22cfd71bee"), looks := true }, kinds := [], alts := [], laidByText := true, laidKinds := [.sentinel, .sentinel, .data, .data, .data], laidTests := true, laidLooks := .later }
def LibProgramsCardSaid : Prop := Claim7.holds Tryz.pinned (.plain (OpenSpec.ofChange libProgramsSpec)) libProgramsCard

/-- THE TIED CARD OF 'floodgatelaw25.LibTexts'. -/
def libTextsCard : Claim7 := { stood := { row := libTextsRow, standIns := [], harness := (true, "e8d36137d4f1b1917694407783dbb559664cb36ee74f941d4dea4e22cfd71bee"), looks := true }, kinds := [], alts := [], laidByText := true, laidKinds := [.sentinel, .sentinel, .data, .data, .data], laidTests := true, laidLooks := .later }
def LibTextsCardSaid : Prop := Claim7.holds Tryz.pinned (.plain (OpenSpec.ofChange libTextsSpec)) libTextsCard

/-- THE SECOND FORM's CARD OF 'floodgatelaw25.LibPrograms'. -/
def libProgramsUptoCard : Claim7 := { stood := { row := libProgramsUptoRow, standIns := [], harness := (true, "e8d36137d4f1b1917694407783dbb559664cb36ee74f941d4dea4e22cfd71bee"), looks := true }, kinds := [], alts := [], laidByText := true, laidKinds := [.sentinel, .sentinel, .data, .data, .data], laidTests := true, laidLooks := .later }
def LibProgramsUptoCardSaid : Prop := Claim7.holds Tryz.pinned (.plain (OpenSpec.upto libProgramsSpec)) libProgramsUptoCard

/-- THE SECOND FORM's CARD OF 'floodgatelaw25.LibTexts'. -/
def libTextsUptoCard : Claim7 := { stood := { row := libTextsUptoRow, standIns := [], harness := (true, "e8d36137d4f1b1917694407783dbb559664cb36ee74f941d4dea4e22cfd71bee"), looks := true }, kinds := [], alts := [], laidByText := true, laidKinds := [.sentinel, .sentinel, .data, .data, .data], laidTests := true, laidLooks := .later }
def LibTextsUptoCardSaid : Prop := Claim7.holds Tryz.pinned (.plain (OpenSpec.upto libTextsSpec)) libTextsUptoCard
end Rows
end Go.Proofs.YtlophehgfmdakaaGreatDoor
