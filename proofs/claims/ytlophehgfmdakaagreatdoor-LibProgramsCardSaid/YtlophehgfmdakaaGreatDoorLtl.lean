/- PROVED HERE: a part (Ltl) of the tied card of LibPrograms (floodgatelaw25): the call returns true and its argument reads as before. CONDITIONS: those of the given row and card alone. -/
import Derived.Test.YtlophehgfmdakaaGreatDoorLtV
import Derived.KernelRfl
open Go Go.Ev Go.Proofs
namespace Go.Ev
set_option maxRecDepth 1000000
set_option maxHeartbeats 0
theorem t_lS:byValL (runL (([]:List Ent))) lS = .yes:=by kernel_rfl
end Go.Ev
open Go Go.Ev Go.Proofs
namespace Go.Ev
set_option maxRecDepth 1000000
set_option maxHeartbeats 0
theorem t_lM:byValL (runL (lO)) lM = .yes:=by kernel_rfl
end Go.Ev
open Go Go.Ev Go.Proofs
namespace Go.Ev
set_option maxRecDepth 1000000
set_option maxHeartbeats 0
theorem t_lF:byValL (runL (lO)) lF = .yes:=by kernel_rfl
end Go.Ev
open Go Go.Ev Go.Proofs
namespace Go.Ev
set_option maxRecDepth 1000000
set_option maxHeartbeats 0
theorem t_lG:byValL (runL (lS)) lG = .yes:=by kernel_rfl
end Go.Ev
open Go Go.Ev Go.Proofs
namespace Go.Ev
set_option maxRecDepth 1000000
set_option maxHeartbeats 0
theorem t_lU:byValL (runL (([]:List Ent))) lU = .yes:=by kernel_rfl
end Go.Ev
open Go Go.Ev Go.Proofs
namespace Go.Ev
set_option maxRecDepth 1000000
set_option maxHeartbeats 0
theorem t_lV:byValL (runL (lS)) lV = .yes:=by kernel_rfl
end Go.Ev
