/- What the card of AcceptForms says of the program's text. -/
import Derived.Test.YtbjkhnlnedfceaaGreatDoorRows
import Derived.SevenTiedAt
import Derived.JoinedOf
import Derived.KernelRfl
set_option maxHeartbeats 4000000
set_option linter.unusedVariables false
set_option linter.unusedSimpArgs false
namespace Go.Proofs.YtbjkhnlnedfceaaGreatDoor
open Go
theorem af_wf : Rows.acceptFormsRow.wfByText (OpenSpec.ofChange Rows.acceptFormsSpec) = true := by kernel_rfl
theorem af_main : Tryz.prog.mainIs = some (true, "0901baf4cbacce30a391e44ab0793e8f249d4ab4fc5eff90f00b414525469979".toList) := by kernel_rfl
theorem af_looks : true = Tryz.prog.looks [] := by kernel_rfl
theorem af_goes : false = Rows.acceptFormsRow.goesBy Tryz.prog := by kernel_rfl
theorem af_fn : Tryz.prog.funcNamed Rows.acceptFormsRow.func = some 3 := by kernel_rfl
theorem af_inst : Tryz.f3.isInstance Tryz.prog Rows.acceptFormsRow.origin Rows.acceptFormsRow.targs := of_decide_eq_true (by kernel_rfl)
theorem af_wrap : Tryz.f3.isWrapper Tryz.prog Rows.acceptFormsRow.wrapper Rows.acceptFormsRow.mainSum := by unfold Func.isWrapper; first | (rw [if_pos (by decide +kernel)]; kernel_rfl) | (rw [if_neg (by decide +kernel)]; exact ⟨rfl, rfl⟩)
end Go.Proofs.YtbjkhnlnedfceaaGreatDoor
