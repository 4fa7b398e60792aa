/- A part of the proof that CheckEnds returns true at every number: EvC2. Conditions: none. -/
import Derived.Test.YtbdgggffdcgjbaaGreatDoorE22
set_option linter.all false
set_option linter.unusedVariables false
set_option linter.unusedSectionVars false
set_option linter.unusedSimpArgs false
namespace Go.Ev
set_option autoImplicit false
set_option maxRecDepth 100000
open Go Go.Proofs
set_option maxHeartbeats 0 in
theorem case14 : isTT (runF 400 3 [.nat 14] h0) = true := by kernel_rfl
set_option maxHeartbeats 0 in
theorem case15 : isTT (runF 400 3 [.nat 15] h0) = true := by kernel_rfl
set_option maxHeartbeats 0 in
theorem case16 : isTT (runF 400 3 [.nat 16] h0) = true := by kernel_rfl
set_option maxHeartbeats 0 in
theorem case17 : isTT (runF 400 3 [.nat 17] h0) = true := by kernel_rfl
set_option maxHeartbeats 0 in
theorem case18 : isTT (runF 400 3 [.nat 18] h0) = true := by kernel_rfl
set_option maxHeartbeats 0 in
theorem case19 : isTT (runF 400 3 [.nat 19] h0) = true := by kernel_rfl
set_option maxHeartbeats 0 in
theorem case20 : isTT (runF 400 3 [.nat 20] h0) = true := by kernel_rfl
end Go.Ev
