/- A part of the proof that CheckEnds returns true at every number: FcL FcV. Conditions: none. -/
import Derived.Test.YtbdgggffdcgjbaaGreatDoorE26
import Derived.Test.YtbdgggffdcgjbaaGreatDoorE27
import Derived.Test.YtbdgggffdcgjbaaGreatDoorE28
import Derived.Test.YtbdgggffdcgjbaaGreatDoorProg
import GoSem.ClaimFn
import Derived.KernelRfl
set_option linter.all false
set_option linter.unusedVariables false
set_option linter.unusedSectionVars false
set_option linter.unusedSimpArgs false
namespace Go.Proofs.YtbdgggffdcgjbaaGreatDoor
open Go
set_option maxRecDepth 100000
def clos : List FuncId := [3, 4, 5, 7, 6, 8, 10, 11, 22, 47, 48, 117, 186, 12, 13, 23, 49, 14, 24, 50, 118, 120, 190, 187, 188, 189, 272, 25, 51, 119, 26, 52, 53, 121, 191, 192, 122, 15, 27, 54, 123, 193, 273, 292, 365, 274, 275, 56, 136, 348, 420, 349, 421, 350, 351, 352, 353, 422, 354, 124, 125, 194, 276, 277, 55, 126, 130, 132, 196, 133, 131, 127, 195, 128, 129, 134, 135, 197, 201, 278, 279, 281, 200, 286, 287, 362, 361, 357, 280, 283, 356, 289, 288, 364, 363, 290, 282, 355, 284, 358, 198, 285, 360, 432, 496, 551, 553, 572, 573, 546, 547, 552, 495, 548, 549, 359, 431, 550, 570, 571, 199, 423, 424, 425, 426, 484, 430, 487, 492, 544, 494, 483, 427, 485, 486, 488, 428, 489, 491, 490, 545, 429, 493, 16, 28, 57, 137, 202, 203, 204, 291, 205, 293, 366, 433, 58, 59, 60, 61, 62, 29, 64, 63, 114, 18, 32, 75, 76, 31, 66, 72, 143, 67, 138, 68, 139, 140, 69, 141, 142, 206, 70, 71, 73, 74, 19, 17, 30, 65, 9, 20, 33, 77, 78, 79, 145, 208, 144, 207, 294, 147, 146, 209, 34, 35, 80, 148, 149, 211, 212, 295, 297, 214, 296, 300, 178, 254, 213, 210, 81, 151, 152, 220, 215, 298, 299, 301, 368, 369, 370, 434, 497, 435, 453, 436, 302, 437, 438, 439, 498, 367, 499, 500, 501, 502, 503, 505, 504, 509, 506, 507, 508, 510, 511, 512, 513, 150, 216, 303, 371, 372, 440, 373, 374, 441, 442, 514, 375, 376, 377, 378, 217, 107, 108, 182, 106, 218, 304, 379, 380, 443, 381, 382, 444, 445, 515, 383, 384, 385, 386, 219, 36, 37, 82, 38, 39, 83, 84, 85, 153, 168, 97, 172, 167, 46, 113, 115, 185, 116, 173, 174, 154, 221, 222, 305, 306, 307, 169, 156, 247, 41, 248, 86, 87, 96, 171, 170, 249, 155, 88, 157, 223, 224, 308, 225, 226, 309, 310, 387, 227, 228, 229, 230, 89, 90, 158, 231, 232, 311, 233, 234, 312, 313, 388, 235, 236, 237, 238, 91, 92, 159, 239, 160, 161, 240, 111, 184, 271, 93, 162, 241, 40, 94, 95, 163, 242, 314, 389, 446, 393, 391, 315, 447, 390, 448, 407, 449, 451, 450, 516, 392, 98, 175, 250, 329, 335, 414, 409, 480, 330, 410, 164, 165, 243, 317, 318, 403, 319, 320, 321, 322, 323, 404, 471, 473, 472, 541, 540, 569, 474, 542, 412, 478, 324, 325, 326, 327, 405, 246, 328, 408, 477, 406, 475, 543, 476, 244, 316, 401, 470, 402, 331, 333, 400, 464, 245, 465, 529, 413, 479, 466, 417, 481, 482, 468, 532, 467, 530, 531, 564, 576, 577, 469, 534, 535, 565, 578, 581, 579, 582, 527, 566, 528, 563, 567, 568, 580, 536, 537, 538, 539, 533, 463, 336, 415, 411, 166, 332, 334, 337, 338, 339, 416, 340, 341, 176, 251, 252, 253, 394, 452, 180, 454, 395, 455, 456, 396, 397, 398, 457, 517, 458, 518, 459, 519, 520, 521, 522, 523, 460, 524, 525, 554, 555, 556, 557, 560, 558, 559, 561, 562, 574, 575, 526, 461, 399, 462, 42, 43, 44, 100, 101, 177, 179, 99, 102, 45, 103, 104, 181, 255, 256, 342, 257, 258, 343, 344, 418, 259, 260, 261, 262, 105, 109, 183, 263, 264, 345, 265, 266, 346, 347, 419, 267, 268, 269, 270, 110, 112, 21]
theorem clos_eq : Tryz.prog.closure 3 = clos := by
  unfold Program.closure
  rw [sum_all]
  rw [show (1 + 2385 : Nat) = 2125 + 261 from rfl, st0]
  rw [show 2125 = 1740 + 385 from rfl, st1]
  rw [show 1740 = 1521 + 219 from rfl, st2]
  rw [show 1521 = 1276 + 245 from rfl, st3]
  rw [show 1276 = 953 + 323 from rfl, st4]
  rw [show 953 = 625 + 328 from rfl, st5]
  rfl
end Go.Proofs.YtbdgggffdcgjbaaGreatDoor
namespace Go.Proofs.YtbdgggffdcgjbaaGreatDoor
open Go
set_option maxRecDepth 100000
theorem vars0 : ((clos.take 200).flatMap (fun g => ((Tryz.prog.funcs[g]?).bind (·.body)).elim [] Code.globalsNamed)) = [0, 0, 0, 1, 2] := by kernel_rfl
theorem vars1 : (((clos.drop 200).take 200).flatMap (fun g => ((Tryz.prog.funcs[g]?).bind (·.body)).elim [] Code.globalsNamed)) = [] := by kernel_rfl
theorem vars2 : (((clos.drop 200).drop 200).flatMap (fun g => ((Tryz.prog.funcs[g]?).bind (·.body)).elim [] Code.globalsNamed)) = [] := by kernel_rfl
theorem flat_split (g : FuncId → List Nat) (n : Nat) (l : List FuncId) : l.flatMap g = (l.take n).flatMap g ++ (l.drop n).flatMap g := by
  rw [← List.flatMap_append, List.take_append_drop]
theorem vars_all : clos.flatMap (fun g => ((Tryz.prog.funcs[g]?).bind (·.body)).elim [] Code.globalsNamed) = [0, 0, 0, 1, 2] := by
  rw [flat_split _ 200 clos, flat_split _ 200 (clos.drop 200), vars0, vars1, vars2]
  rfl
end Go.Proofs.YtbdgggffdcgjbaaGreatDoor
