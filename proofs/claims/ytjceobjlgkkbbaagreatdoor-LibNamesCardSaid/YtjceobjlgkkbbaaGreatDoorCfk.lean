/- PROVED HERE: a part (Cfk) of the tied card of LibNames (floodgatelaw25): the call returns true. CONDITIONS: those of the given row and card alone. HOW: an evaluator of Go calls is proved sound (Eva to Evg), four of the closure's functions are walked and answered by readers of the heap (Wk, Wv, Oa, Ob), the closed runs are reckoned by the kernel (Lt), the row and the card stand in Cf and Cp. -/
import Derived.Test.YtjceobjlgkkbbaaGreatDoorRows
import Derived.Test.YtjceobjlgkkbbaaGreatDoorCards
import Derived.ProofKit
namespace Go.Proofs.YtjceobjlgkkbbaaGreatDoor
set_option maxRecDepth 100000
set_option maxHeartbeats 10000000
theorem mapsRowed3 : mapsRowed Tryz.prog = true := by kernel_rfl
theorem stops3 : (Tryz.prog.stops == []) = true := by kernel_rfl
theorem stopKnobs3 : (Tryz.prog.stopKnobs == []) = true := by kernel_rfl
end Go.Proofs.YtjceobjlgkkbbaaGreatDoor
