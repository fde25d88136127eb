/- PROVED HERE: the tied card of DebugNames (floodgatelaw24): the call returns true, for every input that its given row takes in (it has no arguments). CONDITIONS: those of the given row and card, none beside them. HOW: an evaluator of Go calls is proved sound (parts Eva to Evd), the closed run is reckoned with it by the kernel in pieces (Da to Dl), the row's closed facts stand in Cf and Cg, the row and the card in Cp. Part Cg. -/
import Derived.Test.YtlclikemcipniaaGreatDoorCf
namespace Go.Proofs.YtlclikemcipniaaGreatDoor
set_option maxRecDepth 100000
set_option maxHeartbeats 10000000 in
theorem facts3 : joinedFacts Tryz.prog 3 Tryz.f3 Rows.debugNamesSpec Rows.debugNamesRow = true := by
  unfold joinedFacts
  rw [inPlace3, unfollowed3, recurses3, named3]
  simp only [Bool.and_eq_true]
  repeat' apply And.intro
  all_goals first | exact True.intro | (as_aux_lemma => kernel_rfl)
end Go.Proofs.YtlclikemcipniaaGreatDoor

