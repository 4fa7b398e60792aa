/- A part of the proof that CheckEnds returns true at every number: FcS Fc0. Conditions: none. -/
import Derived.Test.YtbdgggffdcgjbaaGreatDoorProg
import GoSem.ClaimFn
import Derived.KernelRfl
set_option linter.all false
set_option linter.unusedVariables false
set_option linter.unusedSectionVars false
set_option linter.unusedSimpArgs false
namespace Go.Proofs.YtbdgggffdcgjbaaGreatDoor
open Go
set_option maxRecDepth 100000
theorem sum0 : (((Tryz.prog.funcs.toList.take 200).map (fun g => (Tryz.prog.leadsTo g).length + 1)).sum) = 725 := by kernel_rfl
theorem sum1 : ((((Tryz.prog.funcs.toList.drop 200).take 200).map (fun g => (Tryz.prog.leadsTo g).length + 1)).sum) = 832 := by kernel_rfl
theorem sum2 : ((((Tryz.prog.funcs.toList.drop 200).drop 200).map (fun g => (Tryz.prog.leadsTo g).length + 1)).sum) = 828 := by kernel_rfl
theorem sum_split (g : Func → Nat) (n : Nat) (l : List Func) : (l.map g).sum = ((l.take n).map g).sum + ((l.drop n).map g).sum := by
  rw [← List.sum_append, ← List.map_append, List.take_append_drop]
theorem sum_all : (Tryz.prog.funcs.toList.map (fun g => (Tryz.prog.leadsTo g).length + 1)).sum = 2385 := by
  rw [sum_split _ 200 Tryz.prog.funcs.toList, sum_split _ 200 (Tryz.prog.funcs.toList.drop 200), sum0, sum1, sum2]
end Go.Proofs.YtbdgggffdcgjbaaGreatDoor
namespace Go.Proofs.YtbdgggffdcgjbaaGreatDoor
open Go
set_option maxRecDepth 100000
theorem st0 (n : Nat) : Tryz.prog.closureVia (n + 261) [3] [] = Tryz.prog.closureVia n [278, 130, 132, 201, 130, 198, 130, 199, 130, 284, 279, 423, 279, 423, 279, 424, 425, 134, 279, 134, 279, 134, 130, 426, 279, 427, 279, 428, 279, 429, 430, 288, 134, 134, 130, 198, 130, 199, 130, 131, 127, 200, 134, 133, 201, 128, 129, 16, 17, 18, 19, 9, 5, 5, 4] [358, 284, 355, 282, 290, 363, 364, 288, 289, 356, 283, 280, 357, 361, 362, 287, 286, 200, 281, 279, 278, 201, 197, 135, 134, 129, 128, 195, 127, 131, 133, 196, 132, 130, 126, 55, 277, 276, 194, 125, 124, 354, 422, 353, 352, 351, 350, 421, 349, 420, 348, 136, 56, 275, 274, 365, 292, 273, 193, 123, 54, 27, 15, 122, 192, 191, 121, 53, 52, 26, 119, 51, 25, 272, 189, 188, 187, 190, 120, 118, 50, 24, 14, 49, 23, 13, 12, 186, 117, 48, 47, 22, 11, 10, 8, 6, 7, 5, 4, 3] := by kernel_rfl
theorem st1 (n : Nat) : Tryz.prog.closureVia (n + 385) [278, 130, 132, 201, 130, 198, 130, 199, 130, 284, 279, 423, 279, 423, 279, 424, 425, 134, 279, 134, 279, 134, 130, 426, 279, 427, 279, 428, 279, 429, 430, 288, 134, 134, 130, 198, 130, 199, 130, 131, 127, 200, 134, 133, 201, 128, 129, 16, 17, 18, 19, 9, 5, 5, 4] [358, 284, 355, 282, 290, 363, 364, 288, 289, 356, 283, 280, 357, 361, 362, 287, 286, 200, 281, 279, 278, 201, 197, 135, 134, 129, 128, 195, 127, 131, 133, 196, 132, 130, 126, 55, 277, 276, 194, 125, 124, 354, 422, 353, 352, 351, 350, 421, 349, 420, 348, 136, 56, 275, 274, 365, 292, 273, 193, 123, 54, 27, 15, 122, 192, 191, 121, 53, 52, 26, 119, 51, 25, 272, 189, 188, 187, 190, 120, 118, 50, 24, 14, 49, 23, 13, 12, 186, 117, 48, 47, 22, 11, 10, 8, 6, 7, 5, 4, 3] = Tryz.prog.closureVia n [18, 147, 146, 34, 35, 36, 37, 38, 39, 40, 42, 41, 44, 45, 21, 5, 5, 4] [294, 207, 144, 208, 145, 79, 78, 77, 33, 20, 9, 65, 30, 17, 19, 74, 73, 71, 70, 206, 142, 141, 69, 140, 139, 68, 138, 67, 143, 72, 66, 31, 76, 75, 32, 18, 114, 63, 64, 29, 62, 61, 60, 59, 58, 433, 366, 293, 205, 291, 204, 203, 202, 137, 57, 28, 16, 493, 429, 545, 490, 491, 489, 428, 488, 486, 485, 427, 483, 494, 544, 492, 487, 430, 484, 426, 425, 424, 423, 199, 571, 570, 550, 431, 359, 549, 548, 495, 552, 547, 546, 573, 572, 553, 551, 496, 432, 360, 285, 198, 358, 284, 355, 282, 290, 363, 364, 288, 289, 356, 283, 280, 357, 361, 362, 287, 286, 200, 281, 279, 278, 201, 197, 135, 134, 129, 128, 195, 127, 131, 133, 196, 132, 130, 126, 55, 277, 276, 194, 125, 124, 354, 422, 353, 352, 351, 350, 421, 349, 420, 348, 136, 56, 275, 274, 365, 292, 273, 193, 123, 54, 27, 15, 122, 192, 191, 121, 53, 52, 26, 119, 51, 25, 272, 189, 188, 187, 190, 120, 118, 50, 24, 14, 49, 23, 13, 12, 186, 117, 48, 47, 22, 11, 10, 8, 6, 7, 5, 4, 3] := by kernel_rfl
end Go.Proofs.YtbdgggffdcgjbaaGreatDoor
