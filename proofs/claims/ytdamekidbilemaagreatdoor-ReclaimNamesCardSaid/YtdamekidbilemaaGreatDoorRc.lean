/- PROVED HERE: the tied card of ReclaimNames (floodgatelaw19): the call returns true, for every input that its given row takes in (it has no arguments). CONDITIONS: those of the given row and card, none beside them. HOW: an evaluator of Go calls is proved sound (parts Eva to Evd), the closed run is reckoned with it by the kernel in three pieces (Ra, Rb, Rc), the row's closed facts stand in Rf and Rg, the row and the card in Rp. Part Rc. -/
import Derived.Test.YtdamekidbilemaaGreatDoorRa
import Derived.Test.YtdamekidbilemaaGreatDoorRb
open Go Go.Ev Go.Proofs Go.Ev.Lit
namespace Go.Ev.Rn
noncomputable def tabC : List (FuncId × List Entry) := [(15, [play]), (16, [awk])]
theorem tabC_ok : ∀ g, ∀ e ∈ tabOf tabC g, Known Tryz.prog g e.args e.h e.v e.h' :=
  tabOf_cons (by intro e he; rw [List.mem_singleton.1 he]; exact play_known) (tabOf_cons (by intro e he; rw [List.mem_singleton.1 he]; exact awk_known) tabOf_nil)
theorem names_closed : Closed Tryz.prog 3 (.bool true) := closed_boolE hm hname tabC_ok (by decide +kernel : isB true (runE (cF Tryz.prog) (tabOf tabC) 100000 (.fn 3) [] H.zero) = true)
#print axioms names_closed
end Go.Ev.Rn

