/- What the card of MeaningRefuses says of the program's text. -/
import Derived.Test.YtonjepladadmhaaGreatDoorRows
import Derived.SevenTiedAt
import Derived.JoinedOf
import Derived.KernelRfl
set_option maxHeartbeats 4000000
set_option linter.unusedVariables false
set_option linter.unusedSimpArgs false
namespace Go.Proofs.YtonjepladadmhaaGreatDoor
open Go
theorem af_wf : Rows.meaningRefusesRow.wfByText (OpenSpec.ofChange Rows.meaningRefusesSpec) = true := by kernel_rfl
theorem af_main : Tryz.prog.mainIs = some (true, "7143ea7a04e8564767e755774745d91ecae7f27fc0907a286c1f2d839165fc56".toList) := by kernel_rfl
theorem af_looks : true = Tryz.prog.looks [] := by kernel_rfl
theorem af_goes : false = Rows.meaningRefusesRow.goesBy Tryz.prog := by kernel_rfl
theorem af_fn : Tryz.prog.funcNamed Rows.meaningRefusesRow.func = some 9 := by kernel_rfl
theorem af_inst : Tryz.f9.isInstance Tryz.prog Rows.meaningRefusesRow.origin Rows.meaningRefusesRow.targs := of_decide_eq_true (by kernel_rfl)
theorem af_wrap : Tryz.f9.isWrapper Tryz.prog Rows.meaningRefusesRow.wrapper Rows.meaningRefusesRow.mainSum := by unfold Func.isWrapper; first | (rw [if_pos (by decide +kernel)]; kernel_rfl) | (rw [if_neg (by decide +kernel)]; exact ⟨rfl, rfl⟩)
end Go.Proofs.YtonjepladadmhaaGreatDoor
