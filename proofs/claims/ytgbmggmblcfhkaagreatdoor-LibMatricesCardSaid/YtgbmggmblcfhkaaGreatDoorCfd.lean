/- PROVED HERE: a part (Cfd) of the tied card of LibMatrices (floodgatelaw25): the call returns true and its arguments read as before. CONDITIONS: those of the given row and card alone. HOW: an evaluator of Go calls with unknown integers is proved sound (Eva to Evg), functions of the closure are walked and answered by readers of the heap (Wk, Wv, Oa, Ob), the runs are reckoned by the kernel (Lt), the statement itself is walked (Wm), the row and the card stand in Cf and Cp. -/
import Derived.Test.YtgbmggmblcfhkaaGreatDoorCfa
namespace Go.Proofs.YtgbmggmblcfhkaaGreatDoor
set_option maxRecDepth 100000
set_option maxHeartbeats 10000000
theorem named3 : (Rows.libMatricesRow.named == Tryz.prog.varsNamed 3) = true := by
  unfold Program.varsNamed
  rw [clo3]
  kernel_rfl
end Go.Proofs.YtgbmggmblcfhkaaGreatDoor
namespace Go.Proofs.YtgbmggmblcfhkaaGreatDoor
set_option maxRecDepth 100000
set_option maxHeartbeats 10000000
theorem goesIn3 : ((Tryz.prog.closure 3).any fun g => (Tryz.prog.funcs[g]?).any Func.goes) = false := by
  rw [clo3]
  kernel_rfl
end Go.Proofs.YtgbmggmblcfhkaaGreatDoor
