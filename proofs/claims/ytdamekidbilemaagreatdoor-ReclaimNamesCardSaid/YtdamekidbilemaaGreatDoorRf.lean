/- PROVED HERE: the tied card of ReclaimNames (floodgatelaw19): the call returns true, for every input that its given row takes in (it has no arguments). CONDITIONS: those of the given row and card, none beside them. HOW: an evaluator of Go calls is proved sound (parts Eva to Evd), the closed run is reckoned with it by the kernel in three pieces (Ra, Rb, Rc), the row's closed facts stand in Rf and Rg, the row and the card in Rp. Part Rf. -/
import Derived.Test.YtdamekidbilemaaGreatDoorRows
import Derived.Test.YtdamekidbilemaaGreatDoorCards
import Derived.ProofKit
namespace Go.Proofs.YtdamekidbilemaaGreatDoor
set_option maxRecDepth 100000
theorem clo3 : Tryz.prog.closure 3 = [3, 4, 12, 17, 6, 20, 61, 109, 21, 62, 110, 63, 5, 18, 50, 106, 88, 125, 198, 241, 294, 248, 295, 242, 296, 328, 297, 329, 298, 330, 299, 331, 332, 369, 408, 407, 409, 411, 417, 410, 413, 420, 424, 418, 422, 419, 423, 425, 429, 430, 426, 427, 428, 412, 334, 371, 372, 335, 319, 367, 391, 392, 132, 416, 136, 393, 394, 395, 397, 396, 398, 399, 400, 401, 402, 403, 404, 405, 373, 301, 345, 346, 333, 370, 337, 374, 336, 338, 339, 340, 300, 341, 375, 342, 343, 376, 377, 344, 243, 302, 347, 244, 245, 303, 348, 246, 247, 126, 127, 199, 128, 158, 216, 129, 261, 217, 262, 317, 366, 388, 383, 287, 325, 389, 390, 265, 318, 139, 200, 263, 264, 218, 266, 143, 115, 170, 202, 114, 169, 113, 267, 144, 145, 268, 269, 270, 147, 123, 219, 271, 272, 273, 282, 286, 320, 368, 406, 274, 321, 220, 275, 276, 277, 278, 322, 221, 279, 280, 323, 222, 281, 283, 284, 324, 223, 285, 224, 288, 326, 51, 52, 53, 19, 54, 32, 37, 26, 64, 28, 71, 72, 69, 38, 25, 58, 59, 107, 57, 108, 27, 55, 56, 60, 7, 22, 23, 65, 112, 167, 168, 111, 159, 160, 225, 161, 226, 227, 162, 228, 229, 289, 163, 164, 165, 166, 66, 67, 8, 24, 68, 116, 171, 172, 29, 30, 9, 31, 70, 33, 73, 74, 76, 77, 75, 117, 173, 230, 231, 290, 327, 118, 81, 78, 119, 174, 175, 232, 176, 177, 233, 234, 291, 178, 179, 180, 181, 79, 120, 80, 121, 182, 183, 235, 184, 185, 236, 237, 292, 186, 187, 188, 189, 82, 122, 190, 191, 238, 192, 193, 239, 240, 293, 194, 195, 196, 197, 83, 10, 11, 13, 35, 85, 124, 86, 36, 34, 84, 14, 39, 87, 15, 40, 41, 42, 89, 90, 91, 130, 92, 131, 133, 134, 135, 93, 94, 95, 43, 96, 100, 137, 138, 140, 141, 142, 201, 249, 304, 349, 146, 203, 250, 305, 350, 44, 97, 98, 149, 206, 204, 251, 207, 307, 306, 252, 308, 309, 351, 378, 379, 148, 205, 253, 310, 352, 353, 354, 380, 152, 254, 311, 312, 356, 381, 355, 357, 382, 384, 414, 415, 421, 358, 385, 359, 360, 255, 256, 257, 313, 314, 361, 362, 363, 386, 102, 315, 151, 364, 365, 387, 45, 99, 150, 46, 101, 153, 103, 154, 104, 155, 208, 209, 258, 210, 211, 259, 260, 316, 212, 213, 214, 215, 105, 156, 157, 16, 47, 48, 49] := by kernel_rfl
theorem inPlace3 : (Rows.reclaimNamesRow.inPlace == Tryz.prog.inPlace 3) = true := by
  unfold Program.inPlace
  rw [clo3]
  kernel_rfl
theorem unfollowed3 : Tryz.prog.unfollowed 3 = true := by
  unfold Program.unfollowed
  rw [clo3]
  kernel_rfl
theorem recurses3 : Tryz.prog.recurses 3 = true := by
  unfold Program.recurses
  rw [unfollowed3]
  rfl
theorem named3 : (Rows.reclaimNamesRow.named == Tryz.prog.varsNamed 3) = true := by
  unfold Program.varsNamed
  rw [clo3]
  kernel_rfl
theorem goesIn3 : ((Tryz.prog.closure 3).any fun g => (Tryz.prog.funcs[g]?).any Func.goes) = false := by
  rw [clo3]
  kernel_rfl
theorem goesAll : Tryz.prog.funcs.any Func.goes = false := by kernel_rfl
theorem named_func : Tryz.prog.funcNamed "floodgate/floodgatelaw19.ReclaimNames" = some 3 := by kernel_rfl
theorem goes3 : false = Rows.reclaimNamesRow.goesBy Tryz.prog := by
  unfold OpenClaim.goesBy Program.goesAt Program.goesFrom
  rw [show Rows.reclaimNamesRow.func = "floodgate/floodgatelaw19.ReclaimNames" from rfl, show Rows.reclaimNamesRow.start = .entering from rfl, named_func]
  simp only [Option.any_some, Program.goes, goesIn3, goesAll, Bool.and_false, Bool.or_false]
end Go.Proofs.YtdamekidbilemaaGreatDoor

