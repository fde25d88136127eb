/-
  DERIVED. GIVEN WITH THE SEED: THE CARDS: each row of YtbelbhnfjejnmaaGreatDoorRows.lean that lists a variable, with what it lists TIED to the program's text (the seventh form; the later family's looks); each row that meets fmt, with fmt's text TOLD by the authors' own Lean function (tested against real Go, not proved from fmt's source: count such statements apart). THE CARD IS WHAT COUNTS. Prove the row's statement (the work); the ties are given (YtbelbhnfjejnmaaGreatDoorTie.lean); close each card by the builder's one call (the guide's Derived/Test/ToyasCard.lean, 'card_holds'). Laid BY PROGRAM, IN A SANDBOX (cutbox-door.mjs). By AI agents, Wed Nov 11 2026. No macro, syntax, notation, axiom, sorry.
-/
import Derived.Test.YtbelbhnfjejnmaaGreatDoorRows
import GoSem.ClaimSeven
namespace Go.Proofs.YtbelbhnfjejnmaaGreatDoor
namespace Rows

/-- THE TIED CARD OF 'floodgatelaw25.LibAccepted'. -/
def libAcceptedCard : Claim7 := { stood := { row := libAcceptedRow, standIns := [], harness := (true, "83994ea4591066c7be24e75571487d51c63c113838c11e0a8e104f6f4b3d9824"), looks := true }, kinds := [], alts := [], laidByText := true, laidKinds := [.sentinel, .sentinel, .data, .data, .data], laidTests := true, laidLooks := .later }
def LibAcceptedCardSaid : Prop := Claim7.holds Tryz.pinned (.plain (OpenSpec.ofChange libAcceptedSpec)) libAcceptedCard

/-- THE SECOND FORM's CARD OF 'floodgatelaw25.LibAccepted'. -/
def libAcceptedUptoCard : Claim7 := { stood := { row := libAcceptedUptoRow, standIns := [], harness := (true, "83994ea4591066c7be24e75571487d51c63c113838c11e0a8e104f6f4b3d9824"), looks := true }, kinds := [], alts := [], laidByText := true, laidKinds := [.sentinel, .sentinel, .data, .data, .data], laidTests := true, laidLooks := .later }
def LibAcceptedUptoCardSaid : Prop := Claim7.holds Tryz.pinned (.plain (OpenSpec.upto libAcceptedSpec)) libAcceptedUptoCard
end Rows
end Go.Proofs.YtbelbhnfjejnmaaGreatDoor
