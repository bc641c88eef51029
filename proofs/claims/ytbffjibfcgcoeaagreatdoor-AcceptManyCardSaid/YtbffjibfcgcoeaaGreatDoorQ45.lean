/- What the row of AcceptMany says of the program's text, cell by cell. -/
import Derived.Test.YtbffjibfcgcoeaaGreatDoorRows
import Derived.SevenTiedAt
import Derived.JoinedOf
import Derived.KernelRfl
set_option linter.unusedVariables false
set_option linter.unusedSimpArgs false
namespace Go.Proofs.YtbffjibfcgcoeaaGreatDoor
open Go
theorem and_t {a b : Bool} (ha : a = true) (hb : b = true) : (a && b) = true := by rw [ha, hb]; rfl
theorem am1 : Rows.acceptManyRow.wf (OpenSpec.ofChange Rows.acceptManySpec) = true := by kernel_rfl
theorem am2 : laidOutB Tryz.prog = true := by kernel_rfl
theorem am3 : mapsRowed Tryz.prog = true := by kernel_rfl
theorem am5 : namedTie Tryz.prog Rows.acceptManyRow.named Rows.acceptManySpec.vars = true := by kernel_rfl
theorem am10 : (Rows.acceptManyRow.inPlace == Tryz.prog.inPlace 7) = true := by kernel_rfl
theorem am11 : (Rows.acceptManyRow.unfollowed == Tryz.prog.unfollowed 7) = true := by kernel_rfl
theorem am12 : (Rows.acceptManyRow.recurses == Tryz.prog.recurses 7) = true := by kernel_rfl
end Go.Proofs.YtbffjibfcgcoeaaGreatDoor
