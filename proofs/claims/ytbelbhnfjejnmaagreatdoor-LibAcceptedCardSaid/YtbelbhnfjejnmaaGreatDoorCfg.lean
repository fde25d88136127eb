/- PROVED HERE: a part (Cfg) of the tied card of LibAccepted (floodgatelaw25). CONDITIONS: those of the given row and card alone. -/
import Derived.Test.YtbelbhnfjejnmaaGreatDoorCfb
import Derived.Test.YtbelbhnfjejnmaaGreatDoorCfi
import Derived.Test.YtbelbhnfjejnmaaGreatDoorCfj
namespace Go.Proofs.YtbelbhnfjejnmaaGreatDoor
set_option maxRecDepth 100000
set_option maxHeartbeats 10000000 in
theorem facts3 : joinedFacts Tryz.prog 3 Tryz.f3 Rows.libAcceptedSpec Rows.libAcceptedRow = true := by
  unfold joinedFacts
  rw [inPlace3,unfollowed3,recurses3,named3,laidOut3,mapsRowed3,stops3,stopKnobs3]
  simp only [Bool.and_eq_true]
  repeat' apply And.intro
  all_goals first | exact True.intro | (as_aux_lemma => kernel_rfl)
end Go.Proofs.YtbelbhnfjejnmaaGreatDoor
