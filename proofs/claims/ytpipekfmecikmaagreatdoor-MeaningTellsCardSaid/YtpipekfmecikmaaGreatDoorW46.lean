/- Parts of the proof. -/
import Derived.Test.YtpipekfmecikmaaGreatDoorRows
import Derived.SevenTiedAt
import Derived.JoinedOf
import Derived.KernelRfl
set_option maxHeartbeats 4000000
set_option linter.unusedVariables false
set_option linter.unusedSimpArgs false
namespace Go.Proofs.YtpipekfmecikmaaGreatDoor
open Go
theorem ZCh:Rows.meaningTellsRow.wfByText (OpenSpec.ofChange Rows.meaningTellsSpec)=true:=by kernel_rfl
theorem ZAn:Tryz.prog.mainIs=some (true, "c15faa29f47f312d0e243cd074e7801d46628aefb43134b5bf9f8ca659cde5db".toList):=by kernel_rfl
theorem Zw7:true=Tryz.prog.looks []:=by kernel_rfl
theorem ZAp:false=Rows.meaningTellsRow.goesBy Tryz.prog:=by kernel_rfl
theorem ZBo:Tryz.prog.funcNamed Rows.meaningTellsRow.func=some 4:=by kernel_rfl
theorem ZAo:Tryz.f4.isInstance Tryz.prog Rows.meaningTellsRow.origin Rows.meaningTellsRow.targs:=of_decide_eq_true (by kernel_rfl)
theorem ZAm:Tryz.f4.isWrapper Tryz.prog Rows.meaningTellsRow.wrapper Rows.meaningTellsRow.mainSum:=by unfold Func.isWrapper;first|(rw[if_pos (by decide +kernel)];kernel_rfl)|(rw[if_neg (by decide +kernel)];exact⟨rfl,rfl⟩)
end Go.Proofs.YtpipekfmecikmaaGreatDoor
