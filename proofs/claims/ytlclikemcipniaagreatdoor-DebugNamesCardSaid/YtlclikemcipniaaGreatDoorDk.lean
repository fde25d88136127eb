/- PROVED HERE: the tied card of DebugNames (floodgatelaw24): the call returns true, for every input that its given row takes in (it has no arguments). CONDITIONS: those of the given row and card, none beside them. HOW: an evaluator of Go calls is proved sound (parts Eva to Evd), the closed run is reckoned with it by the kernel in pieces (Da to Dl), the row's closed facts stand in Cf and Cg, the row and the card in Cp. Part Dk. -/
import Derived.Test.YtlclikemcipniaaGreatDoorDg
import Derived.Test.YtlclikemcipniaaGreatDoorDh
import Derived.Test.YtlclikemcipniaaGreatDoorDi
import Derived.Test.YtlclikemcipniaaGreatDoorDj
import Derived.Test.YtlclikemcipniaaGreatDoorEvd
open Go Go.Ev Go.Proofs Go.Ev.Lit
namespace Go.Ev.Db
noncomputable def tabK : List (FuncId × List Entry) := [(6, [ado0, ado1, ado2, ado3, ado4, ado5, ado6]), (8, [aseen]), (16, [aborn])]
theorem tabK_ok : ∀ g, ∀ e ∈ tabOf tabK g, Known Tryz.prog g e.args e.h e.v e.h' :=
  tabOf_cons (allK_cons ado0_known (allK_cons ado1_known (allK_cons ado2_known (allK_cons ado3_known (allK_cons ado4_known (allK_cons ado5_known (allK_cons ado6_known allK_nil)))))))
    (tabOf_cons (allK_cons aseen_known allK_nil) (tabOf_cons (allK_cons aborn_known allK_nil) tabOf_nil))
theorem awake_closed : Closed Tryz.prog 19 (.bool true) := closed_boolE hm hname tabK_ok (by decide +kernel : isB true (runE (cF Tryz.prog) (tabOf tabK) 100000 (.fn 19) [] H.zero) = true)
end Go.Ev.Db

