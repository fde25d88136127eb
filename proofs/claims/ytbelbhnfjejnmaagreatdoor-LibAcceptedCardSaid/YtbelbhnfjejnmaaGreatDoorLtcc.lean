/- PROVED HERE: a part (Ltcc) of the tied card of LibAccepted (floodgatelaw25). CONDITIONS: those of the given row and card alone. -/
import Derived.Test.YtbelbhnfjejnmaaGreatDoorLtS
import Derived.KernelRfl
open Go Go.Ev Go.Proofs
namespace Go.Ev
set_option maxRecDepth 1000000
set_option maxHeartbeats 0
theorem t_c6:chA (Lb.G6.map Lb.lsP) = .yes:=by kernel_rfl
end Go.Ev
open Go Go.Ev Go.Proofs
namespace Go.Ev
set_option maxRecDepth 1000000
set_option maxHeartbeats 0
theorem t_c7:chA (Lb.G7.map Lb.lsP) = .yes:=by kernel_rfl
end Go.Ev
open Go Go.Ev Go.Proofs
namespace Go.Ev
set_option maxRecDepth 1000000
set_option maxHeartbeats 0
theorem t_c10:chA (Lb.G10.map Lb.lsP) = .yes:=by kernel_rfl
end Go.Ev
