/- What the row of MeaningSaves says of the program's text, cell by cell. -/
import Derived.Test.YtonjepladadmhaaGreatDoorRows
import Derived.SevenTiedAt
import Derived.JoinedOf
import Derived.KernelRfl
set_option maxHeartbeats 4000000
set_option linter.unusedVariables false
set_option linter.unusedSimpArgs false
namespace Go.Proofs.YtonjepladadmhaaGreatDoor
open Go
theorem and_t {a b : Bool} (ha : a = true) (hb : b = true) : (a && b) = true := by rw [ha, hb]; rfl
theorem af1 : Rows.meaningSavesRow.wf (OpenSpec.ofChange Rows.meaningSavesSpec) = true := by kernel_rfl
theorem af2 : laidOutB Tryz.prog = true := by kernel_rfl
theorem af3 : mapsRowed Tryz.prog = true := by kernel_rfl
theorem af5 : namedTie Tryz.prog Rows.meaningSavesRow.named Rows.meaningSavesSpec.vars = true := by kernel_rfl
theorem af10 : (Rows.meaningSavesRow.inPlace == Tryz.prog.inPlace 11) = true := by kernel_rfl
theorem af11 : (Rows.meaningSavesRow.unfollowed == Tryz.prog.unfollowed 11) = true := by kernel_rfl
theorem af12 : (Rows.meaningSavesRow.recurses == Tryz.prog.recurses 11) = true := by kernel_rfl
end Go.Proofs.YtonjepladadmhaaGreatDoor
