/- PROVED HERE: the tied card of DebugNames (floodgatelaw24): the call returns true, for every input that its given row takes in (it has no arguments). CONDITIONS: those of the given row and card, none beside them. HOW: an evaluator of Go calls is proved sound (parts Eva to Evd), the closed run is reckoned with it by the kernel in pieces (Da to Dl), the row's closed facts stand in Cf and Cg, the row and the card in Cp. Part Dl. -/
import Derived.Test.YtlclikemcipniaaGreatDoorDa
import Derived.Test.YtlclikemcipniaaGreatDoorDb
import Derived.Test.YtlclikemcipniaaGreatDoorDc
import Derived.Test.YtlclikemcipniaaGreatDoorDd
import Derived.Test.YtlclikemcipniaaGreatDoorDe
import Derived.Test.YtlclikemcipniaaGreatDoorDf
import Derived.Test.YtlclikemcipniaaGreatDoorDk
open Go Go.Ev Go.Proofs Go.Ev.Lit
namespace Go.Ev.Db
noncomputable def awk : Entry := ⟨[], (hp 33398 []), (.bool true), (hp 33398 [])⟩
theorem awk_known : Known Tryz.prog 19 awk.args awk.h awk.v awk.h' := awake_closed.known _
noncomputable def tabL : List (FuncId × List Entry) := [(6, [do0, do1, do2, do3, do4, do5, do6]), (7, [stops0, stops1]), (8, [seen0, seen1]), (9, [opr0, opr1]), (10, [forth0]), (11, [back0, back1]), (15, [go0]), (16, [born0]), (17, [writer0]), (18, [check0, check1, check2]), (19, [awk])]
theorem tabL_ok : ∀ g, ∀ e ∈ tabOf tabL g, Known Tryz.prog g e.args e.h e.v e.h' :=
  tabOf_cons (allK_cons do0_known (allK_cons do1_known (allK_cons do2_known (allK_cons do3_known (allK_cons do4_known (allK_cons do5_known (allK_cons do6_known allK_nil)))))))
    (tabOf_cons (allK_cons stops0_known (allK_cons stops1_known allK_nil)) (tabOf_cons (allK_cons seen0_known (allK_cons seen1_known allK_nil)) (tabOf_cons (allK_cons opr0_known (allK_cons opr1_known allK_nil))
    (tabOf_cons (allK_cons forth0_known allK_nil) (tabOf_cons (allK_cons back0_known (allK_cons back1_known allK_nil)) (tabOf_cons (allK_cons go0_known allK_nil) (tabOf_cons (allK_cons born0_known allK_nil)
    (tabOf_cons (allK_cons writer0_known allK_nil) (tabOf_cons (allK_cons check0_known (allK_cons check1_known (allK_cons check2_known allK_nil))) (tabOf_cons (allK_cons awk_known allK_nil) tabOf_nil))))))))))
theorem names_closed : Closed Tryz.prog 3 (.bool true) := closed_boolE hm hname tabL_ok (by decide +kernel : isB true (runE (cF Tryz.prog) (tabOf tabL) 100000 (.fn 3) [] H.zero) = true)
#print axioms names_closed
end Go.Ev.Db

