/- Parts of the proof. -/
import Derived.Test.YtdlmhmmhdbbliaaGreatDoorRows
import Derived.SevenTiedAt
import Derived.JoinedOf
import Derived.KernelRfl
set_option maxHeartbeats 4000000
set_option linter.unusedVariables false
set_option linter.unusedSimpArgs false
namespace Go.Proofs.YtdlmhmmhdbbliaaGreatDoor
open Go
theorem ZBB:Rows.footerSaysRow.wfByText (OpenSpec.ofChange Rows.footerSaysSpec)=true:=by kernel_rfl
theorem ZzC:Tryz.prog.mainIs=some (true, "7d74553a43dc03c478512c6bea16ce338c67dbe607f783aa2dcb45a14c62eba4".toList):=by kernel_rfl
theorem Zw8:true=Tryz.prog.looks []:=by kernel_rfl
theorem ZzE:false=Rows.footerSaysRow.goesBy Tryz.prog:=by kernel_rfl
theorem ZAQ:Tryz.prog.funcNamed Rows.footerSaysRow.func=some 4:=by kernel_rfl
theorem ZzD:Tryz.f4.isInstance Tryz.prog Rows.footerSaysRow.origin Rows.footerSaysRow.targs:=of_decide_eq_true (by kernel_rfl)
theorem ZzB:Tryz.f4.isWrapper Tryz.prog Rows.footerSaysRow.wrapper Rows.footerSaysRow.mainSum:=by unfold Func.isWrapper;first|(rw[if_pos (by decide +kernel)];kernel_rfl)|(rw[if_neg (by decide +kernel)];exact⟨rfl,rfl⟩)
end Go.Proofs.YtdlmhmmhdbbliaaGreatDoor
