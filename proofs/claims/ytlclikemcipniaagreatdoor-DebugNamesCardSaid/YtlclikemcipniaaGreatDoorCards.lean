/-
  DERIVED. GIVEN WITH THE SEED: THE CARDS: each row of YtlclikemcipniaaGreatDoorRows.lean that lists a variable, with what it lists TIED to the program's text (the seventh form; the later family's looks); each row that meets fmt, with fmt's text TOLD by the authors' own Lean function (tested against real Go, not proved from fmt's source: count such statements apart). THE CARD IS WHAT COUNTS. Prove the row's statement (the work); the ties are given (YtlclikemcipniaaGreatDoorTie.lean); close each card by the builder's one call (the guide's Derived/Test/ToyasCard.lean, 'card_holds'). Laid BY PROGRAM, IN A SANDBOX (cutbox-door.mjs). By AI agents, Wed Nov 11 2026. No macro, syntax, notation, axiom, sorry.
-/
import Derived.Test.YtlclikemcipniaaGreatDoorRows
import GoSem.ClaimSeven
namespace Go.Proofs.YtlclikemcipniaaGreatDoor
namespace Rows

/-- THE TIED CARD OF 'floodgatelaw24.DebugNames'. -/
def debugNamesCard : Claim7 := { stood := { row := debugNamesRow, standIns := [], harness := (true, "9bdd8a9c622cb5f586cf9058b0545babfd5e7d85b04a956ad64546f54b4e699c"), looks := false }, kinds := [], alts := [], laidByText := true, laidKinds := [.data, .data, .data, .pinned], laidTests := true, laidLooks := .later }
def DebugNamesCardSaid : Prop := Claim7.holds Tryz.pinned (.plain (OpenSpec.ofChange debugNamesSpec)) debugNamesCard

/-- THE SECOND FORM's CARD OF 'floodgatelaw24.DebugNames'. -/
def debugNamesUptoCard : Claim7 := { stood := { row := debugNamesUptoRow, standIns := [], harness := (true, "9bdd8a9c622cb5f586cf9058b0545babfd5e7d85b04a956ad64546f54b4e699c"), looks := false }, kinds := [], alts := [], laidByText := true, laidKinds := [.data, .data, .data, .pinned], laidTests := true, laidLooks := .later }
def DebugNamesUptoCardSaid : Prop := Claim7.holds Tryz.pinned (.plain (OpenSpec.upto debugNamesSpec)) debugNamesUptoCard
end Rows
end Go.Proofs.YtlclikemcipniaaGreatDoor
