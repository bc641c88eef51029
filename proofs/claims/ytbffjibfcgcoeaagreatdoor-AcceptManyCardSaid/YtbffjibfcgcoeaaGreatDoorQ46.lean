/- What the row of AcceptMany says of the program's text, cell by cell: the rest. -/
import Derived.Test.YtbffjibfcgcoeaaGreatDoorRows
import Derived.SevenTiedAt
import Derived.JoinedOf
import Derived.KernelRfl
set_option linter.unusedVariables false
set_option linter.unusedSimpArgs false
namespace Go.Proofs.YtbffjibfcgcoeaaGreatDoor
open Go
theorem am13 : (Rows.acceptManyRow.named == Tryz.prog.varsNamed 7) = true := by kernel_rfl
theorem am23 : (Rows.acceptManyRow.plainKeys == Tryz.prog.plainKeys) = true := by kernel_rfl
theorem am25 : Tryz.prog.stopsHeard = true := by kernel_rfl
theorem am26 : Tryz.prog.mayEnter = true := by kernel_rfl
theorem am27 : (Rows.acceptManyRow.lifted == Tryz.prog.liftsFinal) = true := by kernel_rfl
theorem am28 : (Tryz.prog.make == some Rows.acceptManyRow.make) = true := by kernel_rfl
end Go.Proofs.YtbffjibfcgcoeaaGreatDoor
