/- PROVED HERE: a part (Cfe) of the tied card of LibPrograms (floodgatelaw25): the call returns true and its argument reads as before. CONDITIONS: those of the given row and card alone. -/
import Derived.Test.YtlophehgfmdakaaGreatDoorCfa
namespace Go.Proofs.YtlophehgfmdakaaGreatDoor
set_option maxRecDepth 100000
set_option maxHeartbeats 10000000
theorem goesIn3:((Tryz.prog.closure 3).any fun g=>(Tryz.prog.funcs[g]?).any Func.goes)=false:=by
 rw [clo3]
 kernel_rfl
end Go.Proofs.YtlophehgfmdakaaGreatDoor
