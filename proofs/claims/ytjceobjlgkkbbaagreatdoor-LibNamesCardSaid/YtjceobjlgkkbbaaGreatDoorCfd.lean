/- PROVED HERE: a part (Cfd) of the tied card of LibNames (floodgatelaw25): the call returns true. CONDITIONS: those of the given row and card alone. HOW: an evaluator of Go calls is proved sound (Eva to Evg), four of the closure's functions are walked and answered by readers of the heap (Wk, Wv, Oa, Ob), the closed runs are reckoned by the kernel (Lt), the row and the card stand in Cf and Cp. -/
import Derived.Test.YtjceobjlgkkbbaaGreatDoorCfa
namespace Go.Proofs.YtjceobjlgkkbbaaGreatDoor
set_option maxRecDepth 100000
set_option maxHeartbeats 10000000
theorem named3 : (Rows.libNamesRow.named == Tryz.prog.varsNamed 3) = true := by
  unfold Program.varsNamed
  rw [clo3]
  kernel_rfl
end Go.Proofs.YtjceobjlgkkbbaaGreatDoor
namespace Go.Proofs.YtjceobjlgkkbbaaGreatDoor
set_option maxRecDepth 100000
set_option maxHeartbeats 10000000
theorem goesIn3 : ((Tryz.prog.closure 3).any fun g => (Tryz.prog.funcs[g]?).any Func.goes) = false := by
  rw [clo3]
  kernel_rfl
end Go.Proofs.YtjceobjlgkkbbaaGreatDoor
