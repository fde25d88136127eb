/- PROVED HERE: the tied card of ReclaimNames (floodgatelaw19): the call returns true, for every input that its given row takes in (it has no arguments). CONDITIONS: those of the given row and card, none beside them. HOW: an evaluator of Go calls is proved sound (parts Eva to Evd), the closed run is reckoned with it by the kernel in three pieces (Ra, Rb, Rc), the row's closed facts stand in Rf and Rg, the row and the card in Rp. Part Ra. -/
import Derived.Test.YtdamekidbilemaaGreatDoorRn
open Go Go.Ev Go.Proofs Go.Ev.Lit
namespace Go.Ev.Rn
theorem awake_run : isB true (runE (cF Tryz.prog) (tabOf []) 100000 (.fn 16) [] H.zero) = true := by decide +kernel
theorem awake_closed : Closed Tryz.prog 16 (.bool true) := closed_boolE hm hname tabOf_nil awake_run
noncomputable def awk : Entry := { args := [], h := (hp 4209 []), v := (.bool true), h' := (hp 4209 []) }
theorem awk_known : Known Tryz.prog 16 awk.args awk.h awk.v awk.h' := awake_closed.known _
end Go.Ev.Rn

