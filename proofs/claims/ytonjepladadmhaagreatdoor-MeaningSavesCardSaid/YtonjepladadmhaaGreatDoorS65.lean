/- What the card of MeaningSaves says of the program's text. -/
import Derived.Test.YtonjepladadmhaaGreatDoorRows
import Derived.SevenTiedAt
import Derived.JoinedOf
import Derived.KernelRfl
set_option maxHeartbeats 4000000
set_option linter.unusedVariables false
set_option linter.unusedSimpArgs false
namespace Go.Proofs.YtonjepladadmhaaGreatDoor
open Go
theorem af_wf : Rows.meaningSavesRow.wfByText (OpenSpec.ofChange Rows.meaningSavesSpec) = true := by kernel_rfl
theorem af_main : Tryz.prog.mainIs = some (true, "7143ea7a04e8564767e755774745d91ecae7f27fc0907a286c1f2d839165fc56".toList) := by kernel_rfl
theorem af_looks : true = Tryz.prog.looks [] := by kernel_rfl
theorem af_goes : false = Rows.meaningSavesRow.goesBy Tryz.prog := by kernel_rfl
theorem af_fn : Tryz.prog.funcNamed Rows.meaningSavesRow.func = some 11 := by kernel_rfl
theorem af_inst : Tryz.f11.isInstance Tryz.prog Rows.meaningSavesRow.origin Rows.meaningSavesRow.targs := of_decide_eq_true (by kernel_rfl)
theorem af_wrap : Tryz.f11.isWrapper Tryz.prog Rows.meaningSavesRow.wrapper Rows.meaningSavesRow.mainSum := by unfold Func.isWrapper; first | (rw [if_pos (by decide +kernel)]; kernel_rfl) | (rw [if_neg (by decide +kernel)]; exact ⟨rfl, rfl⟩)
end Go.Proofs.YtonjepladadmhaaGreatDoor
