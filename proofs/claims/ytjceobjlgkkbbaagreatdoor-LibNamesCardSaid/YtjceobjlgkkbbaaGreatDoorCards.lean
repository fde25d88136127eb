/-
  DERIVED. GIVEN WITH THE SEED: THE CARDS: each row of YtjceobjlgkkbbaaGreatDoorRows.lean that lists a variable, with what it lists TIED to the program's text (the seventh form; the later family's looks); each row that meets fmt, with fmt's text TOLD by the authors' own Lean function (tested against real Go, not proved from fmt's source: count such statements apart). THE CARD IS WHAT COUNTS. Prove the row's statement (the work); the ties are given (YtjceobjlgkkbbaaGreatDoorTie.lean); close each card by the builder's one call (the guide's Derived/Test/ToyasCard.lean, 'card_holds'). Laid BY PROGRAM, IN A SANDBOX (cutbox-door.mjs). By AI agents, Wed Nov 11 2026. No macro, syntax, notation, axiom, sorry.
-/
import Derived.Test.YtjceobjlgkkbbaaGreatDoorRows
import GoSem.ClaimSeven
namespace Go.Proofs.YtjceobjlgkkbbaaGreatDoor
namespace Rows

/-- THE TIED CARD OF 'floodgatelaw25.LibNames'. -/
def libNamesCard : Claim7 := { stood := { row := libNamesRow, standIns := [], harness := (true, "795fcfb61a1a131fce1760a1199a54ebe12cd252d2da46df3895a0bcc6dabd37"), looks := true }, kinds := [], alts := [], laidByText := true, laidKinds := [.sentinel, .sentinel, .data, .data, .data, .pinned, .data], laidTests := true, laidLooks := .later }
def LibNamesCardSaid : Prop := Claim7.holds Tryz.pinned (.plain (OpenSpec.ofChange libNamesSpec)) libNamesCard

/-- THE SECOND FORM's CARD OF 'floodgatelaw25.LibNames'. -/
def libNamesUptoCard : Claim7 := { stood := { row := libNamesUptoRow, standIns := [], harness := (true, "795fcfb61a1a131fce1760a1199a54ebe12cd252d2da46df3895a0bcc6dabd37"), looks := true }, kinds := [], alts := [], laidByText := true, laidKinds := [.sentinel, .sentinel, .data, .data, .data, .pinned, .data], laidTests := true, laidLooks := .later }
def LibNamesUptoCardSaid : Prop := Claim7.holds Tryz.pinned (.plain (OpenSpec.upto libNamesSpec)) libNamesUptoCard
end Rows
end Go.Proofs.YtjceobjlgkkbbaaGreatDoor
