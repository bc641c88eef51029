/- What the row of AcceptMade says of the program's text, cell by cell. -/
import Derived.Test.YtbjkhnlnedfceaaGreatDoorRows
import Derived.SevenTiedAt
import Derived.JoinedOf
import Derived.KernelRfl
set_option maxHeartbeats 4000000
set_option linter.unusedVariables false
set_option linter.unusedSimpArgs false
namespace Go.Proofs.YtbjkhnlnedfceaaGreatDoor
open Go
theorem and_t {a b : Bool} (ha : a = true) (hb : b = true) : (a && b) = true := by rw [ha, hb]; rfl
theorem af1 : Rows.acceptMadeRow.wf (OpenSpec.ofChange Rows.acceptMadeSpec) = true := by kernel_rfl
theorem af2 : laidOutB Tryz.prog = true := by kernel_rfl
theorem af3 : mapsRowed Tryz.prog = true := by kernel_rfl
theorem af5 : namedTie Tryz.prog Rows.acceptMadeRow.named Rows.acceptMadeSpec.vars = true := by kernel_rfl
theorem af10 : (Rows.acceptMadeRow.inPlace == Tryz.prog.inPlace 6) = true := by kernel_rfl
theorem af11 : (Rows.acceptMadeRow.unfollowed == Tryz.prog.unfollowed 6) = true := by kernel_rfl
theorem af12 : (Rows.acceptMadeRow.recurses == Tryz.prog.recurses 6) = true := by kernel_rfl
end Go.Proofs.YtbjkhnlnedfceaaGreatDoor
