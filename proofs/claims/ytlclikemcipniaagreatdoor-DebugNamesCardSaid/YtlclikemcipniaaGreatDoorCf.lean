/- PROVED HERE: the tied card of DebugNames (floodgatelaw24): the call returns true, for every input that its given row takes in (it has no arguments). CONDITIONS: those of the given row and card, none beside them. HOW: an evaluator of Go calls is proved sound (parts Eva to Evd), the closed run is reckoned with it by the kernel in pieces (Da to Dl), the row's closed facts stand in Cf and Cg, the row and the card in Cp. Part Cf. -/
import Derived.Test.YtlclikemcipniaaGreatDoorRows
import Derived.Test.YtlclikemcipniaaGreatDoorCards
import Derived.ProofKit
namespace Go.Proofs.YtlclikemcipniaaGreatDoor
set_option maxRecDepth 100000
set_option maxHeartbeats 10000000
theorem clo3 : Tryz.prog.closure 3 = [3, 4, 5, 20, 34, 54, 12, 6, 21, 32, 35, 55, 73, 112, 147, 190, 219, 197, 220, 191, 221, 252, 222, 253, 223, 254, 224, 255, 256, 274, 284, 283, 285, 287, 290, 286, 289, 293, 296, 291, 294, 292, 295, 297, 301, 302, 298, 299, 300, 288, 258, 276, 277, 259, 200, 203, 229, 230, 120, 247, 124, 231, 232, 233, 235, 234, 236, 237, 238, 239, 240, 241, 242, 243, 278, 226, 269, 270, 257, 275, 261, 279, 260, 262, 263, 264, 225, 265, 280, 266, 267, 281, 282, 268, 192, 227, 271, 193, 194, 228, 272, 195, 196, 113, 114, 148, 115, 74, 75, 82, 76, 116, 77, 117, 149, 118, 150, 119, 121, 122, 123, 78, 79, 80, 53, 72, 56, 98, 99, 100, 135, 101, 102, 136, 103, 104, 137, 172, 173, 211, 248, 105, 139, 174, 140, 145, 189, 138, 106, 141, 175, 176, 212, 249, 107, 109, 108, 143, 185, 186, 142, 177, 178, 213, 179, 214, 215, 180, 216, 217, 250, 181, 182, 183, 184, 110, 144, 187, 188, 218, 251, 111, 146, 36, 39, 57, 81, 58, 83, 125, 127, 126, 84, 128, 129, 151, 198, 199, 40, 59, 85, 130, 152, 153, 68, 154, 155, 201, 156, 70, 157, 86, 131, 132, 159, 163, 202, 158, 160, 204, 205, 206, 244, 245, 246, 273, 161, 207, 162, 164, 165, 87, 88, 89, 97, 133, 166, 167, 168, 208, 209, 134, 171, 169, 170, 210, 22, 37, 38, 23, 7, 24, 41, 27, 47, 26, 43, 29, 48, 49, 62, 90, 92, 91, 93, 63, 30, 51, 67, 69, 52, 71, 64, 94, 96, 95, 65, 50, 66, 45, 46, 61, 44, 60, 25, 42, 8, 28, 9, 10, 31, 11, 13, 14, 15, 16, 33, 17, 18, 19] := by kernel_rfl
theorem inPlace3 : (Rows.debugNamesRow.inPlace == Tryz.prog.inPlace 3) = true := by
  unfold Program.inPlace
  rw [clo3]
  kernel_rfl
theorem unfollowed3 : Tryz.prog.unfollowed 3 = true := by
  unfold Program.unfollowed
  rw [clo3]
  kernel_rfl
theorem recurses3 : Tryz.prog.recurses 3 = true := by
  unfold Program.recurses
  rw [unfollowed3]
  rfl
theorem named3 : (Rows.debugNamesRow.named == Tryz.prog.varsNamed 3) = true := by
  unfold Program.varsNamed
  rw [clo3]
  kernel_rfl
theorem goesIn3 : ((Tryz.prog.closure 3).any fun g => (Tryz.prog.funcs[g]?).any Func.goes) = false := by
  rw [clo3]
  kernel_rfl
theorem goesAll : Tryz.prog.funcs.any Func.goes = false := by kernel_rfl
theorem named_func : Tryz.prog.funcNamed "floodgate/floodgatelaw24.DebugNames" = some 3 := by kernel_rfl
theorem goes3 : false = Rows.debugNamesRow.goesBy Tryz.prog := by
  unfold OpenClaim.goesBy Program.goesAt Program.goesFrom
  rw [show Rows.debugNamesRow.func = "floodgate/floodgatelaw24.DebugNames" from rfl, show Rows.debugNamesRow.start = .entering from rfl, named_func]
  simp only [Option.any_some, Program.goes, goesIn3, goesAll, Bool.and_false, Bool.or_false]
end Go.Proofs.YtlclikemcipniaaGreatDoor

