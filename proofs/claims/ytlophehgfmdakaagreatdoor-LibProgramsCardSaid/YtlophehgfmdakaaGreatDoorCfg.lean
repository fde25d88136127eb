/- PROVED HERE: a part (Cfg) of the tied card of LibPrograms (floodgatelaw25): the call returns true and its argument reads as before. CONDITIONS: those of the given row and card alone. -/
import Derived.Test.YtlophehgfmdakaaGreatDoorCfb
import Derived.Test.YtlophehgfmdakaaGreatDoorCfc
import Derived.Test.YtlophehgfmdakaaGreatDoorCfd
import Derived.Test.YtlophehgfmdakaaGreatDoorCfi
namespace Go.Proofs.YtlophehgfmdakaaGreatDoor
set_option maxRecDepth 100000
set_option maxHeartbeats 10000000 in
theorem facts3:joinedFacts Tryz.prog 3 Tryz.f3 Rows.libProgramsSpec Rows.libProgramsRow=true:=by
 unfold joinedFacts
 rw [inPlace3,unfollowed3,recurses3,named3]
 simp only [Bool.and_eq_true]
 repeat' apply And.intro
 all_goals first | exact True.intro | (as_aux_lemma=>kernel_rfl)
end Go.Proofs.YtlophehgfmdakaaGreatDoor
