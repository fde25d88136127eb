/- PROVED HERE: a part (Cfj) of the tied card of LibMatrices (floodgatelaw25): the call returns true and its arguments read as before. CONDITIONS: those of the given row and card alone. HOW: an evaluator of Go calls with unknown integers is proved sound (Eva to Evg), functions of the closure are walked and answered by readers of the heap (Wk, Wv, Oa, Ob), the runs are reckoned by the kernel (Lt), the statement itself is walked (Wm), the row and the card stand in Cf and Cp. -/
import Derived.Test.YtgbmggmblcfhkaaGreatDoorRows
import Derived.Test.YtgbmggmblcfhkaaGreatDoorCards
import Derived.ProofKit
namespace Go.Proofs.YtgbmggmblcfhkaaGreatDoor
set_option maxRecDepth 100000
set_option maxHeartbeats 10000000
theorem rf0 : (List.range' 0 60).all (rowFine Tryz.prog) = true := by kernel_rfl
theorem rf1 : (List.range' 60 60).all (rowFine Tryz.prog) = true := by kernel_rfl
theorem rf2 : (List.range' 120 60).all (rowFine Tryz.prog) = true := by kernel_rfl
theorem rf3 : (List.range' 180 60).all (rowFine Tryz.prog) = true := by kernel_rfl
theorem rf4 : (List.range' 240 60).all (rowFine Tryz.prog) = true := by kernel_rfl
theorem rf5 : (List.range' 300 60).all (rowFine Tryz.prog) = true := by kernel_rfl
theorem rf6 : (List.range' 360 60).all (rowFine Tryz.prog) = true := by kernel_rfl
theorem rf7 : (List.range' 420 60).all (rowFine Tryz.prog) = true := by kernel_rfl
theorem rf8 : (List.range' 480 60).all (rowFine Tryz.prog) = true := by kernel_rfl
theorem rf9 : (List.range' 540 45).all (rowFine Tryz.prog) = true := by kernel_rfl
theorem rfCut : List.range 585 = List.range' 0 60 ++ (List.range' 60 60 ++ (List.range' 120 60 ++ (List.range' 180 60 ++ (List.range' 240 60 ++ (List.range' 300 60 ++ (List.range' 360 60 ++ (List.range' 420 60 ++ (List.range' 480 60 ++ (List.range' 540 45))))))))) := by decide +kernel
theorem rfSize : Tryz.prog.types.size = 585 := by kernel_rfl
theorem rfG : (Tryz.prog.globals.all fun g => decide (g.type < Tryz.prog.types.size)) = true := by kernel_rfl
theorem rfF : (Tryz.prog.funcs.all fun f => f.params.all fun t => decide (t < Tryz.prog.types.size)) = true := by kernel_rfl
theorem rfA : (List.range Tryz.prog.types.size).all (rowFine Tryz.prog) = true := by
  rw [rfSize, rfCut]
  simp only [List.all_append, rf0, rf1, rf2, rf3, rf4, rf5, rf6, rf7, rf8, rf9, Bool.and_self]
theorem laidOut3 : laidOutB Tryz.prog = true := by
  unfold laidOutB
  rw [rfA, rfG, rfF]; rfl
end Go.Proofs.YtgbmggmblcfhkaaGreatDoor
