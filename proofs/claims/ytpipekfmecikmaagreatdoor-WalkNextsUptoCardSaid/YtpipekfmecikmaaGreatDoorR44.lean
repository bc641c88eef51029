/- Parts of the proof. -/
import Derived.Test.YtpipekfmecikmaaGreatDoorRows
import Derived.SevenTiedAt
import Derived.JoinedOf
import Derived.KernelRfl
set_option maxHeartbeats 4000000
set_option linter.all false
namespace Go.Proofs.YtpipekfmecikmaaGreatDoor
open Go
theorem ZbS {a b:Bool}(c:a=true)(d:b=true):(a&&b)=true:=by rw[c,d];rfl
theorem af1:Rows.walkNextsUptoRow.wf (Rows.OpenSpec.upto Rows.walkNextsSpec)=true:=by kernel_rfl
theorem af2:laidOutB Tryz.prog=true:=by kernel_rfl
theorem af3:mapsRowed Tryz.prog=true:=by kernel_rfl
theorem af5:namedTie Tryz.prog Rows.walkNextsUptoRow.named Rows.walkNextsSpec.vars=true:=by kernel_rfl
theorem af10:(Rows.walkNextsUptoRow.inPlace==Tryz.prog.inPlace 5)=true:=by kernel_rfl
theorem af11:(Rows.walkNextsUptoRow.unfollowed==Tryz.prog.unfollowed 5)=true:=by kernel_rfl
theorem af12:(Rows.walkNextsUptoRow.recurses==Tryz.prog.recurses 5)=true:=by kernel_rfl
end Go.Proofs.YtpipekfmecikmaaGreatDoor
