/- PROVED HERE: the tied card of LibTexts (floodgatelaw25): the call returns true, and its argument reads as before, for every text that its given row takes in. CONDITIONS: those of the given row and card, none beside them. HOW: an evaluator of Go calls is proved sound (parts Eva to Evf), the closed runs are reckoned with it by the kernel (parts Lt), a name that is none of the library's is walked by the kit's tactics (part Wk), the row and the card stand in Cf and Cp. Part Cfg. -/
import Derived.Test.YtlophehgfmdakaaGreatDoorCfb
import Derived.Test.YtlophehgfmdakaaGreatDoorCfc
import Derived.Test.YtlophehgfmdakaaGreatDoorCfd
import Derived.Test.YtlophehgfmdakaaGreatDoorCfi
namespace Go.Proofs.YtlophehgfmdakaaGreatDoor
set_option maxRecDepth 100000
set_option maxHeartbeats 10000000 in
theorem facts3 : joinedFacts Tryz.prog 4 Tryz.f4 Rows.libTextsSpec Rows.libTextsRow = true := by
  unfold joinedFacts
  rw [inPlace3, unfollowed3, recurses3, named3]
  simp only [Bool.and_eq_true]
  repeat' apply And.intro
  all_goals first | exact True.intro | (as_aux_lemma => kernel_rfl)
end Go.Proofs.YtlophehgfmdakaaGreatDoor

