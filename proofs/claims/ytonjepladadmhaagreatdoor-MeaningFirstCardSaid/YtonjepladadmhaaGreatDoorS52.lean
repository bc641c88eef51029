/- What the row of MeaningFirst says of the program's text, cell by cell: the rest. -/
import Derived.Test.YtonjepladadmhaaGreatDoorRows
import Derived.SevenTiedAt
import Derived.JoinedOf
import Derived.KernelRfl
set_option maxHeartbeats 4000000
set_option linter.unusedVariables false
set_option linter.unusedSimpArgs false
namespace Go.Proofs.YtonjepladadmhaaGreatDoor
open Go
theorem af13 : (Rows.meaningFirstRow.named == Tryz.prog.varsNamed 10) = true := by kernel_rfl
theorem af23 : (Rows.meaningFirstRow.plainKeys == Tryz.prog.plainKeys) = true := by kernel_rfl
theorem af25 : Tryz.prog.stopsHeard = true := by kernel_rfl
theorem af26 : Tryz.prog.mayEnter = true := by kernel_rfl
theorem af27 : (Rows.meaningFirstRow.lifted == Tryz.prog.liftsFinal) = true := by kernel_rfl
theorem af28 : (Tryz.prog.make == some Rows.meaningFirstRow.make) = true := by kernel_rfl
end Go.Proofs.YtonjepladadmhaaGreatDoor
