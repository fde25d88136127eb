/- PROVED HERE: a part (Ltmb) of the tied card of LibAccepted (floodgatelaw25). CONDITIONS: those of the given row and card alone. -/
import Derived.Test.YtbelbhnfjejnmaaGreatDoorLtA
import Derived.Test.YtbelbhnfjejnmaaGreatDoorLtN
import Derived.KernelRfl
open Go Go.Ev Go.Proofs
namespace Go.Ev
set_option maxRecDepth 1000000
set_option maxHeartbeats 0
theorem t_m3:nilL (runL (([]:List Ent))) 211 ps1 (List.range' 76 25) = .yes:=by kernel_rfl
theorem t_m4:nilL (runL (([]:List Ent))) 211 ps2 (List.range' 2 25) = .yes:=by kernel_rfl
theorem t_m5:nilL (runL (([]:List Ent))) 211 ps2 (List.range' 27 24) = .yes:=by kernel_rfl
end Go.Ev
