/- PROVED HERE: a part (Cfi) of the tied card of LibAccepted (floodgatelaw25). CONDITIONS: those of the given row and card alone. -/
import Derived.Test.YtbelbhnfjejnmaaGreatDoorCfb
import Derived.Test.YtbelbhnfjejnmaaGreatDoorCfh
namespace Go.Proofs.YtbelbhnfjejnmaaGreatDoor
set_option maxRecDepth 100000
theorem or_ff {a b : Bool} (ha : a = false) (hb : b = false) : (a || b) = false := by rw [ha,hb]; rfl
theorem and_f {a b : Bool} (hb : b = false) : (a && b) = false := by rw [hb,Bool.and_false]
theorem goes_of {P : Program} {f : FuncId} (h1 : ((P.closure f).any fun g => (P.funcs[g]?).any Func.goes) = false) (h2 : P.funcs.any Func.goes = false) : P.goes f = false := or_ff h1 (and_f h2)
theorem goesFrom_of {P : Program} {n : String} {f : FuncId} (h : P.funcNamed n = some f) (hg : P.goes f = false) : P.goesFrom n = false := by
  unfold Program.goesFrom
  rw [h]
  exact hg
theorem goesBy_of {P : Program} {c : OpenClaim} {n : String} (hn : c.func = n) (hs : c.start = .entering) (h : P.goesFrom n = false) : false = c.goesBy P := by
  unfold OpenClaim.goesBy Program.goesAt
  rw [hn,hs,h]
  rfl
theorem goes3 : false = Rows.libAcceptedRow.goesBy Tryz.prog := goesBy_of rfl rfl (goesFrom_of named_func (goes_of goesIn3 goesAll))
end Go.Proofs.YtbelbhnfjejnmaaGreatDoor
