/- A part of the proof that CheckEnds returns true at every number: FaS FaL. Conditions: none. -/
import Derived.Test.YtbdgggffdcgjbaaGreatDoorRows
import Derived.JoinedOf
import Derived.KernelRfl
import Derived.Test.YtbdgggffdcgjbaaGreatDoorE29
set_option linter.all false
set_option linter.unusedVariables false
set_option linter.unusedSectionVars false
set_option linter.unusedSimpArgs false
namespace Go.Proofs.YtbdgggffdcgjbaaGreatDoor
open Go
set_option maxRecDepth 100000
theorem fk0 : (Rows.checkEndsRow.wf (OpenSpec.ofChange Rows.checkEndsSpec)) = true := by kernel_rfl
theorem fk3 : (Tryz.f3.params.all (Tryz.prog.readableRec ·)) = true := by kernel_rfl
theorem fk4 : (namedTie Tryz.prog Rows.checkEndsRow.named Rows.checkEndsSpec.vars) = true := by kernel_rfl
theorem fk5 : ((Rows.checkEndsRow.stops == [])) = true := by kernel_rfl
theorem fk6 : ((Tryz.prog.stops == [])) = true := by kernel_rfl
theorem fk7 : ((Rows.checkEndsRow.knobs == [])) = true := by kernel_rfl
theorem fk8 : ((Tryz.prog.stopKnobs == [])) = true := by kernel_rfl
theorem fk13 : ((Rows.checkEndsRow.maps == (Tryz.f3.params.toList ++ Rows.checkEndsSpec.plain.varTypes Tryz.prog).any (Tryz.prog.mapsRec ·))) = true := by kernel_rfl
theorem fk14 : ((Rows.checkEndsRow.ifaces == (Tryz.f3.params.toList ++ Rows.checkEndsSpec.plain.varTypes Tryz.prog).any (Tryz.prog.ifacesRec ·))) = true := by kernel_rfl
theorem fk15 : ((Rows.checkEndsRow.mapsOut == Tryz.prog.mapsAmong Tryz.f3.resultTypes.toList)) = true := by kernel_rfl
theorem fk16 : ((Rows.checkEndsRow.loops == (Tryz.f3.params.toList ++ Rows.checkEndsSpec.plain.varTypes Tryz.prog).any (Tryz.prog.loopsFrom ·))) = true := by kernel_rfl
theorem fk17 : ((Rows.checkEndsRow.wideKeys == (Tryz.f3.params.toList ++ Rows.checkEndsSpec.plain.varTypes Tryz.prog ++ Tryz.f3.resultTypes.toList).any (Tryz.prog.wideKeysFrom ·))) = true := by kernel_rfl
theorem fk18 : (Rows.checkEndsSpec.vars.all (Tryz.prog.varReadable ·)) = true := by kernel_rfl
theorem fk19 : (Tryz.f3.resultTypes.all (fun t => Tryz.prog.readableRec t && decide (t < Tryz.prog.types.size))) = true := by kernel_rfl
theorem fk20 : ((Rows.checkEndsRow.ifacesOut == Tryz.f3.resultTypes.toList.any (Tryz.prog.ifacesRec ·))) = true := by kernel_rfl
theorem fk21 : ((Rows.checkEndsRow.loopsOut == Tryz.f3.resultTypes.toList.any (Tryz.prog.loopsFrom ·))) = true := by kernel_rfl
theorem fk22 : ((Rows.checkEndsRow.plainKeys == Tryz.prog.plainKeys)) = true := by kernel_rfl
theorem fk23 : (Rows.checkEndsRow.shortTexts.isNone) = true := by kernel_rfl
theorem fk26 : ((Rows.checkEndsRow.lifted == Tryz.prog.liftsFinal)) = true := by kernel_rfl
theorem fk27 : ((Tryz.prog.make == some Rows.checkEndsRow.make)) = true := by kernel_rfl
theorem fk28 : ((Rows.checkEndsRow.kinds == (if Rows.checkEndsRow.domain.isEmpty then [] else Tryz.f3.params.toList.map fun t => match Tryz.prog.underlying t with | some (.int k) => some k | _ => none))) = true := by kernel_rfl
theorem fk29 : ((Rows.checkEndsRow.pinned == Rows.checkEndsRow.pinnedBy)) = true := by kernel_rfl
theorem fk30 : ((Rows.checkEndsRow.veiled == (Tryz.f3.params.toList ++ Rows.checkEndsSpec.plain.varTypes Tryz.prog ++ Tryz.f3.resultTypes.toList).any (Tryz.prog.veiledRec ·))) = true := by kernel_rfl
theorem fk31 : (Rows.checkEndsRow.veiledFits Tryz.prog Tryz.f3.params.toList (Tryz.f3.params.toList ++ Rows.checkEndsSpec.plain.varTypes Tryz.prog ++ Tryz.f3.resultTypes.toList)) = true := by kernel_rfl
end Go.Proofs.YtbdgggffdcgjbaaGreatDoor
namespace Go.Proofs.YtbdgggffdcgjbaaGreatDoor
open Go
set_option maxRecDepth 100000
theorem fk9 : ((Rows.checkEndsRow.inPlace == Tryz.prog.inPlace 3)) = true := by
  unfold Program.inPlace
  rw [clos_eq]
  kernel_rfl
theorem unf : Tryz.prog.unfollowed 3 = true := by
  unfold Program.unfollowed
  rw [clos_eq]
  kernel_rfl
theorem fk10 : ((Rows.checkEndsRow.unfollowed == Tryz.prog.unfollowed 3)) = true := by
  rw [unf]
  rfl
theorem fk11 : ((Rows.checkEndsRow.recurses == Tryz.prog.recurses 3)) = true := by
  unfold Program.recurses
  rw [unf, Bool.true_or]
  rfl
theorem fk12 : ((Rows.checkEndsRow.named == Tryz.prog.varsNamed 3)) = true := by
  unfold Program.varsNamed
  rw [clos_eq, vars_all]
  kernel_rfl
end Go.Proofs.YtbdgggffdcgjbaaGreatDoor
