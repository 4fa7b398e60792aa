/- A part of the proof that CheckEnds returns true at every number: FaG. Conditions: none. -/
import Derived.Test.YtbdgggffdcgjbaaGreatDoorRows
import GoSem.ClaimSeven
import Derived.KernelRfl
set_option linter.all false
set_option linter.unusedVariables false
set_option linter.unusedSectionVars false
set_option linter.unusedSimpArgs false
namespace Go.Proofs.YtbdgggffdcgjbaaGreatDoor
open Go
set_option maxRecDepth 100000
theorem goes_none {P : Program} (h : P.funcs.any Func.goes = false) (f : FuncId) : P.goes f = false := by
  have h1 : ∀ g : FuncId, (P.funcs[g]?).any Func.goes = false := by
    intro g
    cases hg : P.funcs[g]? with
    | none => rfl
    | some fn =>
      have hm := Array.mem_of_getElem? hg
      rw [Array.any_eq_false'] at h
      have := h fn hm
      simpa using this
  unfold Program.goes
  rw [h, Bool.and_false, Bool.or_false]
  have h2 : (fun g => (P.funcs[g]?).any Func.goes) = fun _ => false := funext h1
  rw [h2]
  simp
theorem no_goes : Tryz.prog.funcs.any Func.goes = false := by kernel_rfl
theorem goesFrom_none {P : Program} (h : P.funcs.any Func.goes = false) (func : String) : P.goesFrom func = false := by
  unfold Program.goesFrom
  cases P.funcNamed func with
  | none => rfl
  | some f => exact goes_none h f
theorem goesBy_none {P : Program} (h : P.funcs.any Func.goes = false) (c : OpenClaim) (hs : c.start = .entering) : false = c.goesBy P := by
  unfold OpenClaim.goesBy Program.goesAt
  rw [hs, goesFrom_none h]
  rfl
theorem goes_false : false = Rows.checkEndsRow.goesBy Tryz.prog := goesBy_none no_goes _ rfl
end Go.Proofs.YtbdgggffdcgjbaaGreatDoor
