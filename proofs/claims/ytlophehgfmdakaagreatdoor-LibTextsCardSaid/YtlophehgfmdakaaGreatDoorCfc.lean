/- PROVED HERE: the tied card of LibTexts (floodgatelaw25): the call returns true, and its argument reads as before, for every text that its given row takes in. CONDITIONS: those of the given row and card, none beside them. HOW: an evaluator of Go calls is proved sound (parts Eva to Evf), the closed runs are reckoned with it by the kernel (parts Lt), a name that is none of the library's is walked by the kit's tactics (part Wk), the row and the card stand in Cf and Cp. Part Cfc. -/
import Derived.Test.YtlophehgfmdakaaGreatDoorCfa
namespace Go.Proofs.YtlophehgfmdakaaGreatDoor
set_option maxRecDepth 100000
set_option maxHeartbeats 10000000
theorem unfollowed3 : Tryz.prog.unfollowed 4 = true := by
  unfold Program.unfollowed
  rw [clo3]
  kernel_rfl
theorem recurses3 : Tryz.prog.recurses 4 = true := by
  unfold Program.recurses
  rw [unfollowed3]
  rfl
end Go.Proofs.YtlophehgfmdakaaGreatDoor

