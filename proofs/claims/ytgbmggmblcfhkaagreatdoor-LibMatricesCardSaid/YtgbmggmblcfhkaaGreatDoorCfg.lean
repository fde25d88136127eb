/- PROVED HERE: a part (Cfg) of the tied card of LibMatrices (floodgatelaw25): the call returns true and its arguments read as before. CONDITIONS: those of the given row and card alone. HOW: an evaluator of Go calls with unknown integers is proved sound (Eva to Evg), functions of the closure are walked and answered by readers of the heap (Wk, Wv, Oa, Ob), the runs are reckoned by the kernel (Lt), the statement itself is walked (Wm), the row and the card stand in Cf and Cp. -/
import Derived.Test.YtgbmggmblcfhkaaGreatDoorCfb
import Derived.Test.YtgbmggmblcfhkaaGreatDoorCfd
import Derived.Test.YtgbmggmblcfhkaaGreatDoorCfi
import Derived.Test.YtgbmggmblcfhkaaGreatDoorCfj
import Derived.Test.YtgbmggmblcfhkaaGreatDoorCfk
namespace Go.Proofs.YtgbmggmblcfhkaaGreatDoor
set_option maxRecDepth 100000
set_option maxHeartbeats 10000000 in
theorem facts3 : joinedFacts Tryz.prog 3 Tryz.f3 Rows.libMatricesSpec Rows.libMatricesRow = true := by
  unfold joinedFacts
  rw [inPlace3, unfollowed3, recurses3, named3, laidOut3, mapsRowed3, stops3, stopKnobs3]
  simp only [Bool.and_eq_true]
  repeat' apply And.intro
  all_goals first | exact True.intro | (as_aux_lemma => kernel_rfl)
end Go.Proofs.YtgbmggmblcfhkaaGreatDoor
