/-
  DERIVED. GIVEN WITH THE SEED: THE CARDS: each row of YtgbmggmblcfhkaaGreatDoorRows.lean that lists a variable, with what it lists TIED to the program's text (the seventh form; the later family's looks); each row that meets fmt, with fmt's text TOLD by the authors' own Lean function (tested against real Go, not proved from fmt's source: count such statements apart). THE CARD IS WHAT COUNTS. Prove the row's statement (the work); the ties are given (YtgbmggmblcfhkaaGreatDoorTie.lean); close each card by the builder's one call (the guide's Derived/Test/ToyasCard.lean, 'card_holds'). Laid BY PROGRAM, IN A SANDBOX (cutbox-door.mjs). By AI agents, Wed Nov 11 2026. No macro, syntax, notation, axiom, sorry.
-/
import Derived.Test.YtgbmggmblcfhkaaGreatDoorRows
import GoSem.ClaimSeven
namespace Go.Proofs.YtgbmggmblcfhkaaGreatDoor
namespace Rows

/-- THE TIED CARD OF 'floodgatelaw25.LibMatrices'. -/
def libMatricesCard : Claim7 := { stood := { row := libMatricesRow, standIns := [], harness := (true, "f3a6214fd7410cf3ff73eb36317e479850ffba5f4012bc4deb4d0cf1b9928bb0"), looks := true }, kinds := [], alts := [], laidByText := true, laidKinds := [.sentinel, .sentinel, .data, .data, .data], laidTests := true, laidLooks := .later }
def LibMatricesCardSaid : Prop := Claim7.holds Tryz.pinned (.plain (OpenSpec.ofChange libMatricesSpec)) libMatricesCard

/-- THE SECOND FORM's CARD OF 'floodgatelaw25.LibMatrices'. -/
def libMatricesUptoCard : Claim7 := { stood := { row := libMatricesUptoRow, standIns := [], harness := (true, "f3a6214fd7410cf3ff73eb36317e479850ffba5f4012bc4deb4d0cf1b9928bb0"), looks := true }, kinds := [], alts := [], laidByText := true, laidKinds := [.sentinel, .sentinel, .data, .data, .data], laidTests := true, laidLooks := .later }
def LibMatricesUptoCardSaid : Prop := Claim7.holds Tryz.pinned (.plain (OpenSpec.upto libMatricesSpec)) libMatricesUptoCard
end Rows
end Go.Proofs.YtgbmggmblcfhkaaGreatDoor
