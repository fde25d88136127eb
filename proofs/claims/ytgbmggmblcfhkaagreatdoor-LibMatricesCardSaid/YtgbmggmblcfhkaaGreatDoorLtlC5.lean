/- PROVED HERE: a part (LtlC5) of the tied card of LibMatrices (floodgatelaw25): the call returns true and its arguments read as before. CONDITIONS: those of the given row and card alone. HOW: an evaluator of Go calls with unknown integers is proved sound (Eva to Evg), functions of the closure are walked and answered by readers of the heap (Wk, Wv, Oa, Ob), the runs are reckoned by the kernel (Lt), the statement itself is walked (Wm), the row and the card stand in Cf and Cp. -/
import Derived.Test.YtgbmggmblcfhkaaGreatDoorLtV
import Derived.KernelRfl
open Go Go.Ev Go.Proofs
namespace Go.Ev
set_option maxRecDepth 1000000
set_option maxHeartbeats 0
theorem t_lC5 : byValL (runL (lB3)) lC5 = .yes := by kernel_rfl
end Go.Ev
