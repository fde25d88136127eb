/- PROVED HERE: a part (Cfh) of the tied card of LibPrograms (floodgatelaw25): the call returns true and its argument reads as before. CONDITIONS: those of the given row and card alone. -/
import Derived.Test.YtlophehgfmdakaaGreatDoorCfa
namespace Go.Proofs.YtlophehgfmdakaaGreatDoor
set_option maxRecDepth 100000
set_option maxHeartbeats 10000000
theorem goesAll:Tryz.prog.funcs.any Func.goes=false:=by kernel_rfl
theorem named_func:Tryz.prog.funcNamed "floodgate/floodgatelaw25.LibPrograms" = some 3:=by kernel_rfl
end Go.Proofs.YtlophehgfmdakaaGreatDoor
