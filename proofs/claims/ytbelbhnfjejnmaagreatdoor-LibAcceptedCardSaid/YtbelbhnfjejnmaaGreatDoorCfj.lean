/- PROVED HERE: a part (Cfj) of the tied card of LibAccepted (floodgatelaw25). CONDITIONS: those of the given row and card alone. -/
import Derived.Test.YtbelbhnfjejnmaaGreatDoorRows
import Derived.Test.YtbelbhnfjejnmaaGreatDoorCards
import Derived.ProofKit
namespace Go.Proofs.YtbelbhnfjejnmaaGreatDoor
set_option maxRecDepth 100000
set_option maxHeartbeats 10000000
theorem rf0 : (List.range' 0 60).all (rowFine Tryz.prog) = true := by kernel_rfl
theorem rf1 : (List.range' 60 60).all (rowFine Tryz.prog) = true := by kernel_rfl
theorem rf2 : (List.range' 120 60).all (rowFine Tryz.prog) = true := by kernel_rfl
theorem rf3 : (List.range' 180 60).all (rowFine Tryz.prog) = true := by kernel_rfl
theorem rf4 : (List.range' 240 60).all (rowFine Tryz.prog) = true := by kernel_rfl
theorem rf5 : (List.range' 300 60).all (rowFine Tryz.prog) = true := by kernel_rfl
theorem rf6 : (List.range' 360 60).all (rowFine Tryz.prog) = true := by kernel_rfl
theorem rf7 : (List.range' 420 60).all (rowFine Tryz.prog) = true := by kernel_rfl
theorem rf8 : (List.range' 480 60).all (rowFine Tryz.prog) = true := by kernel_rfl
theorem rf9 : (List.range' 540 60).all (rowFine Tryz.prog) = true := by kernel_rfl
theorem rf10 : (List.range' 600 20).all (rowFine Tryz.prog) = true := by kernel_rfl
theorem rfCut : List.range 620 = List.range' 0 60 ++ (List.range' 60 60 ++ (List.range' 120 60 ++ (List.range' 180 60 ++ (List.range' 240 60 ++ (List.range' 300 60 ++ (List.range' 360 60 ++ (List.range' 420 60 ++ (List.range' 480 60 ++ (List.range' 540 60 ++ (List.range' 600 20)))))))))) := by decide +kernel
theorem rfSize : Tryz.prog.types.size = 620 := by kernel_rfl
theorem rfG : (Tryz.prog.globals.all fun g => decide (g.type < Tryz.prog.types.size)) = true := by kernel_rfl
theorem rfF : (Tryz.prog.funcs.all fun f => f.params.all fun t => decide (t < Tryz.prog.types.size)) = true := by kernel_rfl
theorem rfA : (List.range Tryz.prog.types.size).all (rowFine Tryz.prog) = true := by
  rw [rfSize,rfCut]
  simp only [List.all_append,rf0,rf1,rf2,rf3,rf4,rf5,rf6,rf7,rf8,rf9,rf10,Bool.and_self]
theorem laidOut3 : laidOutB Tryz.prog = true := by
  unfold laidOutB
  rw [rfA,rfG,rfF]; rfl
end Go.Proofs.YtbelbhnfjejnmaaGreatDoor
namespace Go.Proofs.YtbelbhnfjejnmaaGreatDoor
set_option maxRecDepth 100000
set_option maxHeartbeats 10000000
theorem mapsRowed3 : mapsRowed Tryz.prog = true := by kernel_rfl
theorem stops3 : (Tryz.prog.stops == []) = true := by kernel_rfl
theorem stopKnobs3 : (Tryz.prog.stopKnobs == []) = true := by kernel_rfl
end Go.Proofs.YtbelbhnfjejnmaaGreatDoor
