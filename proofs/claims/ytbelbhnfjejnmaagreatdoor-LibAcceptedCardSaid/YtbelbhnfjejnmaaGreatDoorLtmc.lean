/- PROVED HERE: a part (Ltmc) of the tied card of LibAccepted (floodgatelaw25). CONDITIONS: those of the given row and card alone. -/
import Derived.Test.YtbelbhnfjejnmaaGreatDoorLtA
import Derived.Test.YtbelbhnfjejnmaaGreatDoorLtN
import Derived.KernelRfl
open Go Go.Ev Go.Proofs
namespace Go.Ev
set_option maxRecDepth 1000000
set_option maxHeartbeats 0
theorem t_m6:nilL (runL (([]:List Ent))) 211 ps2 (List.range' 51 25) = .yes:=by kernel_rfl
theorem t_m7:nilL (runL (([]:List Ent))) 211 ps2 (List.range' 76 25) = .yes:=by kernel_rfl
end Go.Ev
