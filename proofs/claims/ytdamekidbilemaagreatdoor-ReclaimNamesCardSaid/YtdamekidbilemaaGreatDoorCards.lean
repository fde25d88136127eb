/-
  DERIVED. GIVEN WITH THE SEED: THE CARDS: each row of YtdamekidbilemaaGreatDoorRows.lean that lists a variable, with what it lists TIED to the program's text (the seventh form; the later family's looks); each row that meets fmt, with fmt's text TOLD by the authors' own Lean function (tested against real Go, not proved from fmt's source: count such statements apart). THE CARD IS WHAT COUNTS. Prove the row's statement (the work); the ties are given (YtdamekidbilemaaGreatDoorTie.lean); close each card by the builder's one call (the guide's Derived/Test/ToyasCard.lean, 'card_holds'). Laid BY PROGRAM, IN A SANDBOX (cutbox-door.mjs). By AI agents, Wed Nov 11 2026. No macro, syntax, notation, axiom, sorry.
-/
import Derived.Test.YtdamekidbilemaaGreatDoorRows
import GoSem.ClaimSeven
namespace Go.Proofs.YtdamekidbilemaaGreatDoor
namespace Rows

/-- THE TIED CARD OF 'floodgatelaw19.ReclaimNames'. -/
def reclaimNamesCard : Claim7 := { stood := { row := reclaimNamesRow, standIns := [], harness := (true, "20e2ac009d069a5574e01f134a4bb4f6d1dd8b867e3ea33e54310742da59e045"), looks := false }, kinds := [], alts := [], laidByText := true, laidKinds := [.data, .data, .data, .pinned], laidTests := true, laidLooks := .later }
def ReclaimNamesCardSaid : Prop := Claim7.holds Tryz.pinned (.plain (OpenSpec.ofChange reclaimNamesSpec)) reclaimNamesCard

/-- THE SECOND FORM's CARD OF 'floodgatelaw19.ReclaimNames'. -/
def reclaimNamesUptoCard : Claim7 := { stood := { row := reclaimNamesUptoRow, standIns := [], harness := (true, "20e2ac009d069a5574e01f134a4bb4f6d1dd8b867e3ea33e54310742da59e045"), looks := false }, kinds := [], alts := [], laidByText := true, laidKinds := [.data, .data, .data, .pinned], laidTests := true, laidLooks := .later }
def ReclaimNamesUptoCardSaid : Prop := Claim7.holds Tryz.pinned (.plain (OpenSpec.upto reclaimNamesSpec)) reclaimNamesUptoCard
end Rows
end Go.Proofs.YtdamekidbilemaaGreatDoor
