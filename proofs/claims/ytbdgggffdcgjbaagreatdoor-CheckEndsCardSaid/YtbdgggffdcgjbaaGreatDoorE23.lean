/- A part of the proof that CheckEnds returns true at every number: EvC EvC0. Conditions: none. -/
import Derived.Test.YtbdgggffdcgjbaaGreatDoorE22
set_option linter.all false
set_option linter.unusedVariables false
set_option linter.unusedSectionVars false
set_option linter.unusedSimpArgs false
namespace Go.Ev
set_option autoImplicit false
set_option maxRecDepth 100000
open Go Go.Proofs
set_option maxHeartbeats 0 in
theorem case_neg (n : Nat) : isTT (runF 400 3 [.neg n] h0) = true := by
  cases n with
  | zero => kernel_rfl
  | succ m => kernel_rfl
set_option maxHeartbeats 0 in
theorem case_big (n : Nat) : isTT (runF 400 3 [.nat (n + 21)] h0) = true := by kernel_rfl
end Go.Ev
namespace Go.Ev
set_option autoImplicit false
set_option maxRecDepth 100000
open Go Go.Proofs
set_option maxHeartbeats 0 in
theorem case0 : isTT (runF 400 3 [.nat 0] h0) = true := by kernel_rfl
set_option maxHeartbeats 0 in
theorem case1 : isTT (runF 400 3 [.nat 1] h0) = true := by kernel_rfl
set_option maxHeartbeats 0 in
theorem case2 : isTT (runF 400 3 [.nat 2] h0) = true := by kernel_rfl
set_option maxHeartbeats 0 in
theorem case3 : isTT (runF 400 3 [.nat 3] h0) = true := by kernel_rfl
set_option maxHeartbeats 0 in
theorem case4 : isTT (runF 400 3 [.nat 4] h0) = true := by kernel_rfl
set_option maxHeartbeats 0 in
theorem case5 : isTT (runF 400 3 [.nat 5] h0) = true := by kernel_rfl
set_option maxHeartbeats 0 in
theorem case6 : isTT (runF 400 3 [.nat 6] h0) = true := by kernel_rfl
end Go.Ev
