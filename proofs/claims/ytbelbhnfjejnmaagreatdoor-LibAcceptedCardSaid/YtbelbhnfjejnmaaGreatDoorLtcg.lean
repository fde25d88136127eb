/- PROVED HERE: a part (Ltcg) of the tied card of LibAccepted (floodgatelaw25). CONDITIONS: those of the given row and card alone. -/
import Derived.Test.YtbelbhnfjejnmaaGreatDoorLtS
import Derived.KernelRfl
open Go Go.Ev Go.Proofs
namespace Go.Ev
set_option maxRecDepth 1000000
set_option maxHeartbeats 0
theorem t_c15:chA (Lb.G15.map Lb.lsP) = .yes:=by kernel_rfl
end Go.Ev
open Go Go.Ev Go.Proofs
namespace Go.Ev
set_option maxRecDepth 1000000
set_option maxHeartbeats 0
theorem t_c16:chA (Lb.G16.map Lb.lsP) = .yes:=by kernel_rfl
end Go.Ev
