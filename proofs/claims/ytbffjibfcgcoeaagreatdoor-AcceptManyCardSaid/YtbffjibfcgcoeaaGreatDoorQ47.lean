/- What the card of AcceptMany says of the program's text. -/
import Derived.Test.YtbffjibfcgcoeaaGreatDoorRows
import Derived.SevenTiedAt
import Derived.JoinedOf
import Derived.KernelRfl
set_option linter.unusedVariables false
set_option linter.unusedSimpArgs false
namespace Go.Proofs.YtbffjibfcgcoeaaGreatDoor
open Go
theorem am_wf : Rows.acceptManyRow.wfByText (OpenSpec.ofChange Rows.acceptManySpec) = true := by kernel_rfl
theorem am_main : Tryz.prog.mainIs = some (true, "7e5bbb587edfad27cf2921bcde22a23cd7182e42b0556482bfc9623c138d73d7".toList) := by kernel_rfl
theorem am_looks : true = Tryz.prog.looks [] := by kernel_rfl
theorem am_goes : false = Rows.acceptManyRow.goesBy Tryz.prog := by kernel_rfl
theorem am_fn : Tryz.prog.funcNamed Rows.acceptManyRow.func = some 7 := by kernel_rfl
theorem am_inst : Tryz.f7.isInstance Tryz.prog Rows.acceptManyRow.origin Rows.acceptManyRow.targs := of_decide_eq_true (by kernel_rfl)
theorem am_wrap : Tryz.f7.isWrapper Tryz.prog Rows.acceptManyRow.wrapper Rows.acceptManyRow.mainSum := by unfold Func.isWrapper; first | (rw [if_pos (by decide +kernel)]; kernel_rfl) | (rw [if_neg (by decide +kernel)]; exact ⟨rfl, rfl⟩)
end Go.Proofs.YtbffjibfcgcoeaaGreatDoor
