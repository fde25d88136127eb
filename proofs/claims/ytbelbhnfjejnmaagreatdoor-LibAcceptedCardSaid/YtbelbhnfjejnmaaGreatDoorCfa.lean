/- PROVED HERE: a part (Cfa) of the tied card of LibAccepted (floodgatelaw25). CONDITIONS: those of the given row and card alone. -/
import Derived.Test.YtbelbhnfjejnmaaGreatDoorRows
import Derived.Test.YtbelbhnfjejnmaaGreatDoorCards
import Derived.ProofKit
import Derived.Test.YtbelbhnfjejnmaaGreatDoorCl
namespace Go.Proofs.YtbelbhnfjejnmaaGreatDoor
set_option maxRecDepth 100000
set_option maxHeartbeats 10000000
theorem clo3 : Tryz.prog.closure 3 = Cl3.cl := Cl3.closure_eq
end Go.Proofs.YtbelbhnfjejnmaaGreatDoor
