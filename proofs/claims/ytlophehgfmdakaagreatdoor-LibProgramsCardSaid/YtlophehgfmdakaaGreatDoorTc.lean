/- PROVED HERE: a part (Tc) of the tied card of LibPrograms (floodgatelaw25): the call returns true and its argument reads as before. CONDITIONS: those of the given row and card alone. -/
import Derived.Test.YtlophehgfmdakaaGreatDoorTb
namespace Go.Proofs.YtlophehgfmdakaaGreatDoor
open Go
theorem tieAll:Tryz.prog.laidByTextLater [("strconv.ErrSyntax",Rows.laid_strconv_ErrSyntax),("strconv.ErrRange",Rows.laid_strconv_ErrRange),("internal/strconv.uint64pow10",Rows.laid_internal_strconv_uint64pow10),("math/bits.deBruijn32tab",Rows.laid_math_bits_deBruijn32tab),("math/bits.deBruijn64tab",Rows.laid_math_bits_deBruijn64tab)] [.sentinel,.sentinel,.data,.data,.data] true :=
 Program.laidByTextLater_by_one (laid:=tieList) 60 8 65 t1 t2 t3 t4 t5 t6 t7
theorem textsTie:Rows.libProgramsRow.laidByTextAt .later Tryz.pinned [.sentinel,.sentinel,.data,.data,.data] true :=
 OpenClaim.laidByTextAt_later rfl rfl tieAll noOwnUns
end Go.Proofs.YtlophehgfmdakaaGreatDoor
