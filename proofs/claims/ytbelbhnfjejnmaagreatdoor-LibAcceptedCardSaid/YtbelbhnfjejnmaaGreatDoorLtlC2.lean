/- PROVED HERE: a part (LtlC2) of the tied card of LibAccepted (floodgatelaw25). CONDITIONS: those of the given row and card alone. -/
import Derived.Test.YtbelbhnfjejnmaaGreatDoorLtV
import Derived.KernelRfl
open Go Go.Ev Go.Proofs
namespace Go.Ev
set_option maxRecDepth 1000000
set_option maxHeartbeats 0
theorem t_lC2 : byValL (runL (([] : List Ent))) lC2 = .yes := by kernel_rfl
end Go.Ev
