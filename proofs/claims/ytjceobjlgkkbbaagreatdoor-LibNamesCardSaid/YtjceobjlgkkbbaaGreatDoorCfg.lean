/- PROVED HERE: a part (Cfg) of the tied card of LibNames (floodgatelaw25): the call returns true. CONDITIONS: those of the given row and card alone. HOW: an evaluator of Go calls is proved sound (Eva to Evg), four of the closure's functions are walked and answered by readers of the heap (Wk, Wv, Oa, Ob), the closed runs are reckoned by the kernel (Lt), the row and the card stand in Cf and Cp. -/
import Derived.Test.YtjceobjlgkkbbaaGreatDoorCfb
import Derived.Test.YtjceobjlgkkbbaaGreatDoorCfd
import Derived.Test.YtjceobjlgkkbbaaGreatDoorCfi
import Derived.Test.YtjceobjlgkkbbaaGreatDoorCfj
import Derived.Test.YtjceobjlgkkbbaaGreatDoorCfk
namespace Go.Proofs.YtjceobjlgkkbbaaGreatDoor
set_option maxRecDepth 100000
set_option maxHeartbeats 10000000 in
theorem facts3 : joinedFacts Tryz.prog 3 Tryz.f3 Rows.libNamesSpec Rows.libNamesRow = true := by
  unfold joinedFacts
  rw [inPlace3, unfollowed3, recurses3, named3, laidOut3, mapsRowed3, stops3, stopKnobs3]
  simp only [Bool.and_eq_true]
  repeat' apply And.intro
  all_goals first | exact True.intro | (as_aux_lemma => kernel_rfl)
end Go.Proofs.YtjceobjlgkkbbaaGreatDoor
