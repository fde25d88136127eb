/- PROVED HERE: a part (Cfc) of the tied card of LibPrograms (floodgatelaw25): the call returns true and its argument reads as before. CONDITIONS: those of the given row and card alone. -/
import Derived.Test.YtlophehgfmdakaaGreatDoorCfa
namespace Go.Proofs.YtlophehgfmdakaaGreatDoor
set_option maxRecDepth 100000
set_option maxHeartbeats 10000000
theorem unfollowed3:Tryz.prog.unfollowed 3=true:=by
 unfold Program.unfollowed
 rw [clo3]
 kernel_rfl
theorem recurses3:Tryz.prog.recurses 3=true:=by
 unfold Program.recurses
 rw [unfollowed3]
 rfl
end Go.Proofs.YtlophehgfmdakaaGreatDoor
