/- What the card of AcceptMade says of the program's text. -/
import Derived.Test.YtbjkhnlnedfceaaGreatDoorRows
import Derived.SevenTiedAt
import Derived.JoinedOf
import Derived.KernelRfl
set_option maxHeartbeats 4000000
set_option linter.unusedVariables false
set_option linter.unusedSimpArgs false
namespace Go.Proofs.YtbjkhnlnedfceaaGreatDoor
open Go
theorem af_wf : Rows.acceptMadeRow.wfByText (OpenSpec.ofChange Rows.acceptMadeSpec) = true := by kernel_rfl
theorem af_main : Tryz.prog.mainIs = some (true, "0901baf4cbacce30a391e44ab0793e8f249d4ab4fc5eff90f00b414525469979".toList) := by kernel_rfl
theorem af_looks : true = Tryz.prog.looks [] := by kernel_rfl
theorem af_goes : false = Rows.acceptMadeRow.goesBy Tryz.prog := by kernel_rfl
theorem af_fn : Tryz.prog.funcNamed Rows.acceptMadeRow.func = some 6 := by kernel_rfl
theorem af_inst : Tryz.f6.isInstance Tryz.prog Rows.acceptMadeRow.origin Rows.acceptMadeRow.targs := of_decide_eq_true (by kernel_rfl)
theorem af_wrap : Tryz.f6.isWrapper Tryz.prog Rows.acceptMadeRow.wrapper Rows.acceptMadeRow.mainSum := by unfold Func.isWrapper; first | (rw [if_pos (by decide +kernel)]; kernel_rfl) | (rw [if_neg (by decide +kernel)]; exact ⟨rfl, rfl⟩)
end Go.Proofs.YtbjkhnlnedfceaaGreatDoor
