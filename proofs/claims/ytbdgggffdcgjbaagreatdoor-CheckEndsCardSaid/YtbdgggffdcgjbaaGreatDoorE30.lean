/- A part of the proof that CheckEnds returns true at every number: FaA. Conditions: none. -/
import Derived.Test.YtbdgggffdcgjbaaGreatDoorRows
import Derived.JoinedOf
import Derived.KernelRfl
set_option linter.all false
set_option linter.unusedVariables false
set_option linter.unusedSectionVars false
set_option linter.unusedSimpArgs false
namespace Go.Proofs.YtbdgggffdcgjbaaGreatDoor
open Go
set_option maxRecDepth 100000
theorem types_size : Tryz.prog.types.size = 567 := by kernel_rfl
theorem rows0 : (((List.range 567).take 250).all (rowFine Tryz.prog)) = true := by kernel_rfl
theorem rows1 : (((List.range 567).drop 250).all (rowFine Tryz.prog)) = true := by kernel_rfl
theorem all_split (p : Nat → Bool) (n : Nat) (l : List Nat) : l.all p = ((l.take n).all p && (l.drop n).all p) := by
  rw [← List.all_append, List.take_append_drop]
end Go.Proofs.YtbdgggffdcgjbaaGreatDoor
