/- What the row of KeepAccepted says of the program's text, cell by cell. -/
import Derived.Test.YtbjkhnlnedfceaaGreatDoorRows
import Derived.SevenTiedAt
import Derived.JoinedOf
import Derived.KernelRfl
set_option maxHeartbeats 4000000
set_option linter.unusedVariables false
set_option linter.unusedSimpArgs false
namespace Go.Proofs.YtbjkhnlnedfceaaGreatDoor
open Go
theorem and_t {a b : Bool} (ha : a = true) (hb : b = true) : (a && b) = true := by rw [ha, hb]; rfl
theorem af1 : Rows.keepAcceptedRow.wf (OpenSpec.ofChange Rows.keepAcceptedSpec) = true := by kernel_rfl
theorem af2 : laidOutB Tryz.prog = true := by kernel_rfl
theorem af3 : mapsRowed Tryz.prog = true := by kernel_rfl
theorem af5 : namedTie Tryz.prog Rows.keepAcceptedRow.named Rows.keepAcceptedSpec.vars = true := by kernel_rfl
theorem af10 : (Rows.keepAcceptedRow.inPlace == Tryz.prog.inPlace 7) = true := by kernel_rfl
theorem af11 : (Rows.keepAcceptedRow.unfollowed == Tryz.prog.unfollowed 7) = true := by kernel_rfl
theorem af12 : (Rows.keepAcceptedRow.recurses == Tryz.prog.recurses 7) = true := by kernel_rfl
end Go.Proofs.YtbjkhnlnedfceaaGreatDoor
