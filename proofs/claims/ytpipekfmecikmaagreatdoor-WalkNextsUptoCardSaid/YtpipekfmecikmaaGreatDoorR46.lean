/- Parts of the proof. -/
import Derived.Test.YtpipekfmecikmaaGreatDoorRows
import Derived.SevenTiedAt
import Derived.JoinedOf
import Derived.KernelRfl
set_option maxHeartbeats 4000000
set_option linter.all false
namespace Go.Proofs.YtpipekfmecikmaaGreatDoor
open Go
theorem ZDm:Rows.walkNextsUptoRow.wfByText (Rows.OpenSpec.upto Rows.walkNextsSpec)=true:=by kernel_rfl
theorem ZAk:Tryz.prog.mainIs=some (true, "c15faa29f47f312d0e243cd074e7801d46628aefb43134b5bf9f8ca659cde5db".toList):=by kernel_rfl
theorem ZwM:true=Tryz.prog.looks []:=by kernel_rfl
theorem ZAm:false=Rows.walkNextsUptoRow.goesBy Tryz.prog:=by kernel_rfl
theorem ZBy:Tryz.prog.funcNamed Rows.walkNextsUptoRow.func=some 5:=by kernel_rfl
theorem ZAl:Tryz.f5.isInstance Tryz.prog Rows.walkNextsUptoRow.origin Rows.walkNextsUptoRow.targs:=of_decide_eq_true (by kernel_rfl)
theorem ZAj:Tryz.f5.isWrapper Tryz.prog Rows.walkNextsUptoRow.wrapper Rows.walkNextsUptoRow.mainSum:=by unfold Func.isWrapper;first|(rw[if_pos (by decide +kernel)];kernel_rfl)|(rw[if_neg (by decide +kernel)];exact⟨rfl,rfl⟩)
end Go.Proofs.YtpipekfmecikmaaGreatDoor
