/- Closed facts on the program that every row asks for, each by the kernel for itself. -/
import Derived.Test.YtfaibifilpfikaaGreatDoorRows
import Derived.JoinedOf
import Derived.SevenTiedAt
import Derived.KernelRfl
set_option linter.unusedVariables false
set_option linter.unusedSimpArgs false
namespace Go.Proofs.YtfaibifilpfikaaGreatDoor.Rf
open Go Go.Proofs
theorem mapsRow : mapsRowed Tryz.prog = true := by kernel_rfl
theorem plainKeys : (Rows.ratioFloorsRow.plainKeys == Tryz.prog.plainKeys) = true := by kernel_rfl
theorem stopsHeard : Tryz.prog.stopsHeard = true := by kernel_rfl
theorem mayEnter : Tryz.prog.mayEnter = true := by kernel_rfl
theorem lifts : (Rows.ratioFloorsRow.lifted == Tryz.prog.liftsFinal) = true := by kernel_rfl
theorem made : (Tryz.prog.make == some Rows.ratioFloorsRow.make) = true := by kernel_rfl
theorem mainIs : Tryz.prog.mainIs = some (true, "8ae96ca645b4a9962091bd2ee32477459f4927461a37d6eb9de8ebb1a35a7c89".toList) := by kernel_rfl
theorem looks : true = Tryz.prog.looks [] := by kernel_rfl
end Go.Proofs.YtfaibifilpfikaaGreatDoor.Rf
