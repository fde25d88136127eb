/- PROVED HERE: a part (Tb) of the tied card of LibMatrices (floodgatelaw25): the call returns true and its arguments read as before. CONDITIONS: those of the given row and card alone. HOW: an evaluator of Go calls with unknown integers is proved sound (Eva to Evg), functions of the closure are walked and answered by readers of the heap (Wk, Wv, Oa, Ob), the runs are reckoned by the kernel (Lt), the statement itself is walked (Wm), the row and the card stand in Cf and Cp. -/
import Derived.Test.YtgbmggmblcfhkaaGreatDoorTa
namespace Go.Proofs.YtgbmggmblcfhkaaGreatDoor
open Go
set_option maxRecDepth 100000
theorem t7 : ∀ os tape, doorLeaves Tryz.prog 200 8 65 tieList os tape = some (tieList.filter fun x => x.2.handleName?.isNone, (funcsListed tieList).map (·.2.funcsOut)) := fun _ _ => by kernel_rfl
end Go.Proofs.YtgbmggmblcfhkaaGreatDoor
