/- PROVED HERE: a part (Tc) of the tied card of LibAccepted (floodgatelaw25). CONDITIONS: those of the given row and card alone. -/
import Derived.Test.YtbelbhnfjejnmaaGreatDoorTb
namespace Go.Proofs.YtbelbhnfjejnmaaGreatDoor
open Go
set_option maxRecDepth 100000
theorem tie : Tryz.prog.laidByTextLater [("strconv.ErrSyntax",Rows.laid_strconv_ErrSyntax),("strconv.ErrRange",Rows.laid_strconv_ErrRange),("internal/strconv.uint64pow10",Rows.laid_internal_strconv_uint64pow10),("math/bits.deBruijn32tab",Rows.laid_math_bits_deBruijn32tab),("math/bits.deBruijn64tab",Rows.laid_math_bits_deBruijn64tab)] [.sentinel,.sentinel,.data,.data,.data] true :=
  Program.laidByTextLater_by_one (laid := tieList) 200 8 65 t1 t2 t3 t4 t5 t6 t7
theorem libAccepted_row_tie : Rows.libAcceptedRow.laidByTextAt .later Tryz.pinned [.sentinel,.sentinel,.data,.data,.data] true :=
  OpenClaim.laidByTextAt_later rfl rfl tie noOwnUns
end Go.Proofs.YtbelbhnfjejnmaaGreatDoor
