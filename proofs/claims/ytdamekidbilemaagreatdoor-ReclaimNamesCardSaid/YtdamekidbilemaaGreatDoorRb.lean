/- PROVED HERE: the tied card of ReclaimNames (floodgatelaw19): the call returns true, for every input that its given row takes in (it has no arguments). CONDITIONS: those of the given row and card, none beside them. HOW: an evaluator of Go calls is proved sound (parts Eva to Evd), the closed run is reckoned with it by the kernel in three pieces (Ra, Rb, Rc), the row's closed facts stand in Rf and Rg, the row and the card in Rp. Part Rb. -/
import Derived.Test.YtdamekidbilemaaGreatDoorRn
open Go Go.Ev Go.Proofs Go.Ev.Lit
namespace Go.Ev.Rn
/- call 2 of floodgate/reclaim.Play: 32941 operations -/
noncomputable def play : Entry := ⟨[(.agg [(.sl (q 3) 0 1 1 true 6), (.sl (q 6) 0 2 2 true 4)]), (.agg [.nils, .nils]), (.agg [(i 0), (i 1), (i 1), .nils]), (.sl (q 2674) 0 2 2 true 1)],
  (hp 2675 [(1, (cl 0 [(i 0), (i 0)] 0 2)),
  (2, (cl 0 [(.sl (q 1) 0 1 1 true 2)] 0 1)),
  (3, (cl 0 [(.str [109, 97, 105, 110]), (i 0), (i 2), (i 1), (.bool false), (.sl (q 2) 0 1 1 true 1)] 0 6)),
  (4, (cl 0 [(i 1), (i 0)] 0 2)),
  (5, (cl 0 [(.sl (q 4) 0 1 1 true 2)] 0 1)),
  (6, (cl 0 [(.int .u8 (.ofNat 1)), (.str []), (i 1), (.sl (q 5) 0 1 1 true 1), (.int .u8 (.ofNat 22)), (.str []), (i 0), .nils] 0 8)),
  (2674, (cl 0 [(i 0), (i 1)] 0 2))]),
  (.tup [(.agg [(.sl (q 4205) 0 1 1 false 2), .nils, (i 1), (i 1), (i 0), (i 0), .nils]), (.agg [(i 1), (i 0), (i 0)]), (i 0)]),
  (hp 4207 [(1, (cl 0 [(i 0), (i 0)] 0 2)),
  (2, (cl 0 [(.sl (q 1) 0 1 1 true 2)] 0 1)),
  (3, (cl 0 [(.str [109, 97, 105, 110]), (i 0), (i 2), (i 1), (.bool false), (.sl (q 2) 0 1 1 true 1)] 0 6)),
  (4, (cl 0 [(i 1), (i 0)] 0 2)),
  (5, (cl 0 [(.sl (q 4) 0 1 1 true 2)] 0 1)),
  (6, (cl 0 [(.int .u8 (.ofNat 1)), (.str []), (i 1), (.sl (q 5) 0 1 1 true 1), (.int .u8 (.ofNat 22)), (.str []), (i 0), .nils] 0 8)),
  (2674, (cl 0 [(i 0), (i 1)] 0 2)),
  (4205, (cl 0 [(.int .u8 (.ofNat 1)), (i 1)] 0 2))])⟩
theorem play_known : Known Tryz.prog 15 play.args play.h play.v play.h' := Known.of_run (runE_ok hm hname tabOf_nil 100000) (by decide +kernel : isCall play.h play.v play.h' (runE (cF Tryz.prog) (tabOf []) 100000 (.fn 15) play.args play.h) = true)
end Go.Ev.Rn

