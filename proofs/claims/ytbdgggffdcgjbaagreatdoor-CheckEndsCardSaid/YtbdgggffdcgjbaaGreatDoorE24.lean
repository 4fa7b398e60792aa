/- A part of the proof that CheckEnds returns true at every number: EvC1. Conditions: none. -/
import Derived.Test.YtbdgggffdcgjbaaGreatDoorE22
set_option linter.all false
set_option linter.unusedVariables false
set_option linter.unusedSectionVars false
set_option linter.unusedSimpArgs false
namespace Go.Ev
set_option autoImplicit false
set_option maxRecDepth 100000
open Go Go.Proofs
set_option maxHeartbeats 0 in
theorem case7 : isTT (runF 400 3 [.nat 7] h0) = true := by kernel_rfl
set_option maxHeartbeats 0 in
theorem case8 : isTT (runF 400 3 [.nat 8] h0) = true := by kernel_rfl
set_option maxHeartbeats 0 in
theorem case9 : isTT (runF 400 3 [.nat 9] h0) = true := by kernel_rfl
set_option maxHeartbeats 0 in
theorem case10 : isTT (runF 400 3 [.nat 10] h0) = true := by kernel_rfl
set_option maxHeartbeats 0 in
theorem case11 : isTT (runF 400 3 [.nat 11] h0) = true := by kernel_rfl
set_option maxHeartbeats 0 in
theorem case12 : isTT (runF 400 3 [.nat 12] h0) = true := by kernel_rfl
set_option maxHeartbeats 0 in
theorem case13 : isTT (runF 400 3 [.nat 13] h0) = true := by kernel_rfl
end Go.Ev
