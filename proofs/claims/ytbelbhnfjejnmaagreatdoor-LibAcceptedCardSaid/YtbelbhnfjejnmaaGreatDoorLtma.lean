/- PROVED HERE: a part (Ltma) of the tied card of LibAccepted (floodgatelaw25). CONDITIONS: those of the given row and card alone. -/
import Derived.Test.YtbelbhnfjejnmaaGreatDoorLtA
import Derived.Test.YtbelbhnfjejnmaaGreatDoorLtN
import Derived.KernelRfl
open Go Go.Ev Go.Proofs
namespace Go.Ev
set_option maxRecDepth 1000000
set_option maxHeartbeats 0
theorem t_m0:nilL (runL (([]:List Ent))) 211 ps1 (List.range' 0 26) = .yes:=by kernel_rfl
theorem t_m1:nilL (runL (([]:List Ent))) 211 ps1 (List.range' 26 25) = .yes:=by kernel_rfl
theorem t_m2:nilL (runL (([]:List Ent))) 211 ps1 (List.range' 51 25) = .yes:=by kernel_rfl
end Go.Ev
