/- A part of the proof that CheckEnds returns true at every number: FaB. Conditions: none. -/
import Derived.Test.YtbdgggffdcgjbaaGreatDoorE30
import Derived.Test.YtbdgggffdcgjbaaGreatDoorRows
import Derived.JoinedOf
import Derived.KernelRfl
set_option linter.all false
set_option linter.unusedVariables false
set_option linter.unusedSectionVars false
set_option linter.unusedSimpArgs false
namespace Go.Proofs.YtbdgggffdcgjbaaGreatDoor
open Go
set_option maxRecDepth 100000
theorem globals_in : Tryz.prog.globals.all (fun g => decide (g.type < 567)) = true := by kernel_rfl
theorem params_in : Tryz.prog.funcs.all (fun f => f.params.all fun t => decide (t < 567)) = true := by kernel_rfl
theorem fk1 : laidOutB Tryz.prog = true := by
  unfold laidOutB
  rw [types_size, all_split _ 250, rows0, rows1, globals_in, params_in]
  rfl
theorem fk2 : (mapsRowed Tryz.prog) = true := by kernel_rfl
end Go.Proofs.YtbdgggffdcgjbaaGreatDoor
