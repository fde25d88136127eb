/- PROVED HERE: a part (Cfh) of the tied card of LibMatrices (floodgatelaw25): the call returns true and its arguments read as before. CONDITIONS: those of the given row and card alone. HOW: an evaluator of Go calls with unknown integers is proved sound (Eva to Evg), functions of the closure are walked and answered by readers of the heap (Wk, Wv, Oa, Ob), the runs are reckoned by the kernel (Lt), the statement itself is walked (Wm), the row and the card stand in Cf and Cp. -/
import Derived.Test.YtgbmggmblcfhkaaGreatDoorCfa
namespace Go.Proofs.YtgbmggmblcfhkaaGreatDoor
set_option maxRecDepth 100000
set_option maxHeartbeats 10000000
theorem goesAll : Tryz.prog.funcs.any Func.goes = false := by kernel_rfl
theorem named_func : Tryz.prog.funcNamed "floodgate/floodgatelaw25.LibMatrices" = some 3 := by kernel_rfl
end Go.Proofs.YtgbmggmblcfhkaaGreatDoor
