/- Parts of the proof. -/
import Derived.Test.YtpipekfmecikmaaGreatDoorRows
import Derived.SevenTiedAt
import Derived.JoinedOf
import Derived.KernelRfl
set_option maxHeartbeats 4000000
set_option linter.unusedVariables false
set_option linter.unusedSimpArgs false
namespace Go.Proofs.YtpipekfmecikmaaGreatDoor
open Go
theorem ZbP {a b:Bool}(c:a=true)(d:b=true):(a&&b)=true:=by rw[c,d];rfl
theorem af1:Rows.meaningTellsRow.wf (OpenSpec.ofChange Rows.meaningTellsSpec)=true:=by kernel_rfl
theorem af2:laidOutB Tryz.prog=true:=by kernel_rfl
theorem af3:mapsRowed Tryz.prog=true:=by kernel_rfl
theorem af5:namedTie Tryz.prog Rows.meaningTellsRow.named Rows.meaningTellsSpec.vars=true:=by kernel_rfl
theorem af10:(Rows.meaningTellsRow.inPlace==Tryz.prog.inPlace 4)=true:=by kernel_rfl
theorem af11:(Rows.meaningTellsRow.unfollowed==Tryz.prog.unfollowed 4)=true:=by kernel_rfl
theorem af12:(Rows.meaningTellsRow.recurses==Tryz.prog.recurses 4)=true:=by kernel_rfl
end Go.Proofs.YtpipekfmecikmaaGreatDoor
