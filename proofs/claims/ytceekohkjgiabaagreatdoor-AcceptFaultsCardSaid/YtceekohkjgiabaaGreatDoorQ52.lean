/- What the card of AcceptFaults says of the program's text. -/
import Derived.Test.YtceekohkjgiabaaGreatDoorRows
import Derived.SevenTiedAt
import Derived.JoinedOf
import Derived.KernelRfl
set_option maxHeartbeats 4000000
set_option linter.unusedVariables false
set_option linter.unusedSimpArgs false
namespace Go.Proofs.YtceekohkjgiabaaGreatDoor
open Go
theorem af_wf : Rows.acceptFaultsRow.wfByText (OpenSpec.ofChange Rows.acceptFaultsSpec) = true := by kernel_rfl
theorem af_main : Tryz.prog.mainIs = some (true, "c8090291b676921ad00555f839ac2cd77d573fc3ccd332e52a7597bb079c677e".toList) := by kernel_rfl
theorem af_looks : true = Tryz.prog.looks [] := by kernel_rfl
theorem af_goes : false = Rows.acceptFaultsRow.goesBy Tryz.prog := by kernel_rfl
theorem af_fn : Tryz.prog.funcNamed Rows.acceptFaultsRow.func = some 3 := by kernel_rfl
theorem af_inst : Tryz.f3.isInstance Tryz.prog Rows.acceptFaultsRow.origin Rows.acceptFaultsRow.targs := of_decide_eq_true (by kernel_rfl)
theorem af_wrap : Tryz.f3.isWrapper Tryz.prog Rows.acceptFaultsRow.wrapper Rows.acceptFaultsRow.mainSum := by unfold Func.isWrapper; first | (rw [if_pos (by decide +kernel)]; kernel_rfl) | (rw [if_neg (by decide +kernel)]; exact ⟨rfl, rfl⟩)
end Go.Proofs.YtceekohkjgiabaaGreatDoor
