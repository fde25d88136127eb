/- PROVED HERE: a part (Cfd) of the tied card of LibPrograms (floodgatelaw25): the call returns true and its argument reads as before. CONDITIONS: those of the given row and card alone. -/
import Derived.Test.YtlophehgfmdakaaGreatDoorCfa
namespace Go.Proofs.YtlophehgfmdakaaGreatDoor
set_option maxRecDepth 100000
set_option maxHeartbeats 10000000
theorem named3:(Rows.libProgramsRow.named==Tryz.prog.varsNamed 3)=true:=by
 unfold Program.varsNamed
 rw [clo3]
 kernel_rfl
end Go.Proofs.YtlophehgfmdakaaGreatDoor
