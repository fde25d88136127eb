/- PROVED HERE: a part (Cfb) of the tied card of LibAccepted (floodgatelaw25). CONDITIONS: those of the given row and card alone. -/
import Derived.Test.YtbelbhnfjejnmaaGreatDoorCfa
namespace Go.Proofs.YtbelbhnfjejnmaaGreatDoor
set_option maxRecDepth 100000
set_option maxHeartbeats 10000000
theorem inPlace3 : (Rows.libAcceptedRow.inPlace == Tryz.prog.inPlace 3) = true := by
  unfold Program.inPlace
  rw [clo3]
  kernel_rfl
end Go.Proofs.YtbelbhnfjejnmaaGreatDoor
namespace Go.Proofs.YtbelbhnfjejnmaaGreatDoor
set_option maxRecDepth 100000
set_option maxHeartbeats 10000000
theorem unfollowed3 : Tryz.prog.unfollowed 3 = true := by
  unfold Program.unfollowed
  rw [clo3]
  kernel_rfl
theorem recurses3 : Tryz.prog.recurses 3 = true := by
  unfold Program.recurses
  rw [unfollowed3]
  rfl
end Go.Proofs.YtbelbhnfjejnmaaGreatDoor
namespace Go.Proofs.YtbelbhnfjejnmaaGreatDoor
set_option maxRecDepth 100000
set_option maxHeartbeats 10000000
theorem named3 : (Rows.libAcceptedRow.named == Tryz.prog.varsNamed 3) = true := by
  unfold Program.varsNamed
  rw [clo3]
  kernel_rfl
end Go.Proofs.YtbelbhnfjejnmaaGreatDoor
namespace Go.Proofs.YtbelbhnfjejnmaaGreatDoor
set_option maxRecDepth 100000
set_option maxHeartbeats 10000000
theorem goesIn3 : ((Tryz.prog.closure 3).any fun g => (Tryz.prog.funcs[g]?).any Func.goes) = false := by
  rw [clo3]
  kernel_rfl
end Go.Proofs.YtbelbhnfjejnmaaGreatDoor
