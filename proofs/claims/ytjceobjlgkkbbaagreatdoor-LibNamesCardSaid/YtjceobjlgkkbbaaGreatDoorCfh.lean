/- PROVED HERE: a part (Cfh) of the tied card of LibNames (floodgatelaw25): the call returns true. CONDITIONS: those of the given row and card alone. HOW: an evaluator of Go calls is proved sound (Eva to Evg), four of the closure's functions are walked and answered by readers of the heap (Wk, Wv, Oa, Ob), the closed runs are reckoned by the kernel (Lt), the row and the card stand in Cf and Cp. -/
import Derived.Test.YtjceobjlgkkbbaaGreatDoorCfa
namespace Go.Proofs.YtjceobjlgkkbbaaGreatDoor
set_option maxRecDepth 100000
set_option maxHeartbeats 10000000
theorem goesAll : Tryz.prog.funcs.any Func.goes = false := by kernel_rfl
theorem named_func : Tryz.prog.funcNamed "floodgate/floodgatelaw25.LibNames" = some 3 := by kernel_rfl
end Go.Proofs.YtjceobjlgkkbbaaGreatDoor
