/- A part of the proof that CheckEnds returns true at every number: FaD. Conditions: none. -/
import Derived.Test.YtbdgggffdcgjbaaGreatDoorRows
import Derived.JoinedOf
import Derived.KernelRfl
set_option linter.all false
set_option linter.unusedVariables false
set_option linter.unusedSectionVars false
set_option linter.unusedSimpArgs false
namespace Go.Proofs.YtbdgggffdcgjbaaGreatDoor
open Go
set_option maxRecDepth 100000
theorem fk25 : (Tryz.prog.mayEnter) = true := by kernel_rfl
end Go.Proofs.YtbdgggffdcgjbaaGreatDoor
