/- PROVED HERE: the tied card of DebugNames (floodgatelaw24): the call returns true, for every input that its given row takes in (it has no arguments). CONDITIONS: those of the given row and card, none beside them. HOW: an evaluator of Go calls is proved sound (parts Eva to Evd), the closed run is reckoned with it by the kernel in pieces (Da to Dl), the row's closed facts stand in Cf and Cg, the row and the card in Cp. Part Dn. -/
import Derived.Test.YtlclikemcipniaaGreatDoorProg
import Derived.Test.YtlclikemcipniaaGreatDoorEvd
open Go Go.Ev Go.Proofs
namespace Go.Ev.Db
theorem hm : Tryz.prog.follows .mixedOrders = true := by decide +kernel
set_option maxRecDepth 100000 in
theorem hn : namesOk Tryz.prog = true := by decide +kernel
theorem hname : ∀ (f : FuncId) (fn : Func), Tryz.prog.funcs[f]? = some fn → fn.name ≠ "runtime.NumGoroutine" := names_ok hn
end Go.Ev.Db

