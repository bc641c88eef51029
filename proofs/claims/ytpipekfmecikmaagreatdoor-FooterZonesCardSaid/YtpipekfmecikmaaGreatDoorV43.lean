/- Parts of the proof. -/
import Derived.Test.YtpipekfmecikmaaGreatDoorRows
import Derived.SevenTiedAt
import Derived.JoinedOf
import Derived.KernelRfl
set_option maxHeartbeats 4000000
set_option linter.unusedVariables false
set_option linter.unusedSimpArgs false
namespace Go.Proofs.YtpipekfmecikmaaGreatDoor
open Go
theorem ZAu:Rows.footerZonesRow.wfByText (OpenSpec.ofChange Rows.footerZonesSpec)=true:=by kernel_rfl
theorem ZyD:Tryz.prog.mainIs=some (true, "c15faa29f47f312d0e243cd074e7801d46628aefb43134b5bf9f8ca659cde5db".toList):=by kernel_rfl
theorem ZvF:true=Tryz.prog.looks []:=by kernel_rfl
theorem ZyF:false=Rows.footerZonesRow.goesBy Tryz.prog:=by kernel_rfl
theorem ZzH:Tryz.prog.funcNamed Rows.footerZonesRow.func=some 3:=by kernel_rfl
theorem ZyE:Tryz.f3.isInstance Tryz.prog Rows.footerZonesRow.origin Rows.footerZonesRow.targs:=of_decide_eq_true (by kernel_rfl)
theorem ZyC:Tryz.f3.isWrapper Tryz.prog Rows.footerZonesRow.wrapper Rows.footerZonesRow.mainSum:=by unfold Func.isWrapper;first|(rw[if_pos (by decide +kernel)];kernel_rfl)|(rw[if_neg (by decide +kernel)];exact⟨rfl,rfl⟩)
end Go.Proofs.YtpipekfmecikmaaGreatDoor
