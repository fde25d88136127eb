/- PROVED HERE: a part (Tb) of the tied card of LibNames (floodgatelaw25): the call returns true. CONDITIONS: those of the given row and card alone. HOW: an evaluator of Go calls is proved sound (Eva to Evg), four of the closure's functions are walked and answered by readers of the heap (Wk, Wv, Oa, Ob), the closed runs are reckoned by the kernel (Lt), the row and the card stand in Cf and Cp. -/
import Derived.Test.YtjceobjlgkkbbaaGreatDoorTa
namespace Go.Proofs.YtjceobjlgkkbbaaGreatDoor
open Go
set_option maxRecDepth 100000
theorem t7 : ∀ os tape, doorLeaves Tryz.prog 200 8 65 tieList os tape = some (tieList.filter fun x => x.2.handleName?.isNone, (funcsListed tieList).map (·.2.funcsOut)) := fun _ _ => by kernel_rfl
end Go.Proofs.YtjceobjlgkkbbaaGreatDoor
