/- PROVED HERE: a part (Cfh) of the tied card of LibAccepted (floodgatelaw25). CONDITIONS: those of the given row and card alone. -/
import Derived.Test.YtbelbhnfjejnmaaGreatDoorCfa
namespace Go.Proofs.YtbelbhnfjejnmaaGreatDoor
set_option maxRecDepth 100000
set_option maxHeartbeats 10000000
theorem goesAll : Tryz.prog.funcs.any Func.goes = false := by kernel_rfl
theorem named_func : Tryz.prog.funcNamed "floodgate/floodgatelaw25.LibAccepted" = some 3 := by kernel_rfl
end Go.Proofs.YtbelbhnfjejnmaaGreatDoor
