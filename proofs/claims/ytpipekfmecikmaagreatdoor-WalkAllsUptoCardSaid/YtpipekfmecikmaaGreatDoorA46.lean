/- Parts of the proof. -/
import Derived.Test.YtpipekfmecikmaaGreatDoorRows
import Derived.SevenTiedAt
import Derived.JoinedOf
import Derived.KernelRfl
set_option maxHeartbeats 0
set_option linter.all false
namespace Go.Proofs.YtpipekfmecikmaaGreatDoor
open Go Proofs.Tryz
theorem ZD0:Rows.walkAllsUptoRow.wfByText (Rows.OpenSpec.upto Rows.walkAllsSpec)=true:=by kernel_rfl
theorem ZAY:prog.mainIs=some (true, "c15faa29f47f312d0e243cd074e7801d46628aefb43134b5bf9f8ca659cde5db".toList):=by kernel_rfl
theorem Zxi:true=prog.looks []:=by kernel_rfl
theorem ZA0:false=Rows.walkAllsUptoRow.goesBy prog:=by kernel_rfl
theorem ZCa:prog.funcNamed Rows.walkAllsUptoRow.func=some 6:=by kernel_rfl
theorem ZAZ:Tryz.f6.isInstance prog Rows.walkAllsUptoRow.origin Rows.walkAllsUptoRow.targs:=of_decide_eq_true (by kernel_rfl)
theorem ZAX:Tryz.f6.isWrapper prog Rows.walkAllsUptoRow.wrapper Rows.walkAllsUptoRow.mainSum:=by unfold Func.isWrapper;first|(rw[if_pos (by decide +kernel)];kernel_rfl)|(rw[if_neg (by decide +kernel)];exact⟨rfl,rfl⟩)
