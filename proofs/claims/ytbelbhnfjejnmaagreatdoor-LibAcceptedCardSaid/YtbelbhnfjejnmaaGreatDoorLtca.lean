/- PROVED HERE: a part (Ltca) of the tied card of LibAccepted (floodgatelaw25). CONDITIONS: those of the given row and card alone. -/
import Derived.Test.YtbelbhnfjejnmaaGreatDoorLtS
import Derived.KernelRfl
open Go Go.Ev Go.Proofs
namespace Go.Ev
set_option maxRecDepth 1000000
set_option maxHeartbeats 0
theorem t_c0:chA (Lb.G0.map Lb.lsP) = .yes:=by kernel_rfl
end Go.Ev
open Go Go.Ev Go.Proofs
namespace Go.Ev
set_option maxRecDepth 1000000
set_option maxHeartbeats 0
theorem t_c1:chA (Lb.G1.map Lb.lsP) = .yes:=by kernel_rfl
end Go.Ev
open Go Go.Ev Go.Proofs
namespace Go.Ev
set_option maxRecDepth 1000000
set_option maxHeartbeats 0
theorem t_c2:chA (Lb.G2.map Lb.lsP) = .yes:=by kernel_rfl
end Go.Ev
