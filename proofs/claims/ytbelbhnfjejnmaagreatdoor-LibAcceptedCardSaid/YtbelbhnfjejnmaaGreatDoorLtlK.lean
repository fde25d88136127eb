/- PROVED HERE: a part (LtlK) of the tied card of LibAccepted (floodgatelaw25). CONDITIONS: those of the given row and card alone. -/
import Derived.Test.YtbelbhnfjejnmaaGreatDoorLtV
import Derived.KernelRfl
open Go Go.Ev Go.Proofs
namespace Go.Ev
set_option maxRecDepth 1000000
set_option maxHeartbeats 0
theorem t_lK : byValL (runL (([] : List Ent))) lK = .yes := by kernel_rfl
end Go.Ev
open Go Go.Ev Go.Proofs
namespace Go.Ev
set_option maxRecDepth 1000000
set_option maxHeartbeats 0
theorem t_lO : byValL (runL (lD0 ++ lD1 ++ lD2 ++ lD3 ++ lD4)) lO = .yes := by kernel_rfl
end Go.Ev
open Go Go.Ev Go.Proofs
namespace Go.Ev
set_option maxRecDepth 1000000
set_option maxHeartbeats 0
theorem t_lF : byValL (runL (lO)) lF = .yes := by kernel_rfl
end Go.Ev
open Go Go.Ev Go.Proofs
namespace Go.Ev
set_option maxRecDepth 1000000
set_option maxHeartbeats 0
theorem t_lU : byValL (runL (([] : List Ent))) lU = .yes := by kernel_rfl
end Go.Ev
open Go Go.Ev Go.Proofs
namespace Go.Ev
set_option maxRecDepth 1000000
set_option maxHeartbeats 0
theorem t_lA : byValL (runL (lO ++ lP ++ lL ++ lC0 ++ lC1 ++ lC2)) lA = .yes := by kernel_rfl
end Go.Ev
