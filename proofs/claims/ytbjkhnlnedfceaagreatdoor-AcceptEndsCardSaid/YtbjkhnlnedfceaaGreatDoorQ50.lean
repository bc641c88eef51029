/- What the row of AcceptEnds says of the program's text, cell by cell. -/
import Derived.Test.YtbjkhnlnedfceaaGreatDoorRows
import Derived.SevenTiedAt
import Derived.JoinedOf
import Derived.KernelRfl
set_option maxHeartbeats 4000000
set_option linter.unusedVariables false
set_option linter.unusedSimpArgs false
namespace Go.Proofs.YtbjkhnlnedfceaaGreatDoor
open Go
theorem and_t {a b : Bool} (ha : a = true) (hb : b = true) : (a && b) = true := by rw [ha, hb]; rfl
theorem af1 : Rows.acceptEndsRow.wf (OpenSpec.ofChange Rows.acceptEndsSpec) = true := by kernel_rfl
theorem af2 : laidOutB Tryz.prog = true := by kernel_rfl
theorem af3 : mapsRowed Tryz.prog = true := by kernel_rfl
theorem af5 : namedTie Tryz.prog Rows.acceptEndsRow.named Rows.acceptEndsSpec.vars = true := by kernel_rfl
theorem af10 : (Rows.acceptEndsRow.inPlace == Tryz.prog.inPlace 5) = true := by kernel_rfl
theorem af11 : (Rows.acceptEndsRow.unfollowed == Tryz.prog.unfollowed 5) = true := by kernel_rfl
theorem af12 : (Rows.acceptEndsRow.recurses == Tryz.prog.recurses 5) = true := by kernel_rfl
end Go.Proofs.YtbjkhnlnedfceaaGreatDoor
