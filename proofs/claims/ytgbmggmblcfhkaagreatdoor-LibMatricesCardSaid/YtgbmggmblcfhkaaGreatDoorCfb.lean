/- PROVED HERE: a part (Cfb) of the tied card of LibMatrices (floodgatelaw25): the call returns true and its arguments read as before. CONDITIONS: those of the given row and card alone. HOW: an evaluator of Go calls with unknown integers is proved sound (Eva to Evg), functions of the closure are walked and answered by readers of the heap (Wk, Wv, Oa, Ob), the runs are reckoned by the kernel (Lt), the statement itself is walked (Wm), the row and the card stand in Cf and Cp. -/
import Derived.Test.YtgbmggmblcfhkaaGreatDoorCfa
namespace Go.Proofs.YtgbmggmblcfhkaaGreatDoor
set_option maxRecDepth 100000
set_option maxHeartbeats 10000000
theorem inPlace3 : (Rows.libMatricesRow.inPlace == Tryz.prog.inPlace 3) = true := by
  unfold Program.inPlace
  rw [clo3]
  kernel_rfl
end Go.Proofs.YtgbmggmblcfhkaaGreatDoor
namespace Go.Proofs.YtgbmggmblcfhkaaGreatDoor
set_option maxRecDepth 100000
set_option maxHeartbeats 10000000
theorem unfollowed3 : Tryz.prog.unfollowed 3 = true := by
  unfold Program.unfollowed
  rw [clo3]
  kernel_rfl
theorem recurses3 : Tryz.prog.recurses 3 = true := by
  unfold Program.recurses
  rw [unfollowed3]
  rfl
end Go.Proofs.YtgbmggmblcfhkaaGreatDoor
