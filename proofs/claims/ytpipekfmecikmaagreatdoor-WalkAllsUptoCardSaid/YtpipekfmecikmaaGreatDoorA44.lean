/- Parts of the proof. -/
import Derived.Test.YtpipekfmecikmaaGreatDoorRows
import Derived.SevenTiedAt
import Derived.JoinedOf
import Derived.KernelRfl
set_option maxHeartbeats 0
set_option linter.all false
namespace Go.Proofs.YtpipekfmecikmaaGreatDoor
open Go Proofs.Tryz
theorem ZbY {a b:Bool}(c:a=true)(d:b=true):(a&&b)=true:=by rw[c,d];rfl
theorem af1:Rows.walkAllsUptoRow.wf (Rows.OpenSpec.upto Rows.walkAllsSpec)=true:=by kernel_rfl
theorem af2:laidOutB prog=true:=by kernel_rfl
theorem af3:mapsRowed prog=true:=by kernel_rfl
theorem af5:namedTie prog Rows.walkAllsUptoRow.named Rows.walkAllsSpec.vars=true:=by kernel_rfl
theorem af10:(Rows.walkAllsUptoRow.inPlace==prog.inPlace 6)=true:=by kernel_rfl
theorem af11:(Rows.walkAllsUptoRow.unfollowed==prog.unfollowed 6)=true:=by kernel_rfl
theorem af12:(Rows.walkAllsUptoRow.recurses==prog.recurses 6)=true:=by kernel_rfl
