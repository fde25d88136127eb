/- PROVED HERE: the tied card of LibTexts (floodgatelaw25): the call returns true, and its argument reads as before, for every text that its given row takes in. CONDITIONS: those of the given row and card, none beside them. HOW: an evaluator of Go calls is proved sound (parts Eva to Evf), the closed runs are reckoned with it by the kernel (parts Lt), a name that is none of the library's is walked by the kit's tactics (part Wk), the row and the card stand in Cf and Cp. Part Tb. -/
import Derived.Test.YtlophehgfmdakaaGreatDoorTa
namespace Go.Proofs.YtlophehgfmdakaaGreatDoor
open Go
set_option maxRecDepth 100000
theorem t7 : ∀ os tape, doorLeaves Tryz.prog 60 8 65 tieList os tape = some (tieList.filter fun x => x.2.handleName?.isNone, (funcsListed tieList).map (·.2.funcsOut)) := fun _ _ => by kernel_rfl
end Go.Proofs.YtlophehgfmdakaaGreatDoor

