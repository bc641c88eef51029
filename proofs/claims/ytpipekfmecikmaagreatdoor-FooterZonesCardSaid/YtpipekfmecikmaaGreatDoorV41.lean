/- Parts of the proof. -/
import Derived.Test.YtpipekfmecikmaaGreatDoorRows
import Derived.SevenTiedAt
import Derived.JoinedOf
import Derived.KernelRfl
set_option maxHeartbeats 4000000
set_option linter.unusedVariables false
set_option linter.unusedSimpArgs false
namespace Go.Proofs.YtpipekfmecikmaaGreatDoor
open Go
theorem ZbF {a b:Bool}(ha:a=true)(hb:b=true):(a&&b)=true:=by rw[ha,hb];rfl
theorem af1:Rows.footerZonesRow.wf (OpenSpec.ofChange Rows.footerZonesSpec)=true:=by kernel_rfl
theorem af2:laidOutB Tryz.prog=true:=by kernel_rfl
theorem af3:mapsRowed Tryz.prog=true:=by kernel_rfl
theorem af5:namedTie Tryz.prog Rows.footerZonesRow.named Rows.footerZonesSpec.vars=true:=by kernel_rfl
theorem af10:(Rows.footerZonesRow.inPlace==Tryz.prog.inPlace 3)=true:=by kernel_rfl
theorem af11:(Rows.footerZonesRow.unfollowed==Tryz.prog.unfollowed 3)=true:=by kernel_rfl
theorem af12:(Rows.footerZonesRow.recurses==Tryz.prog.recurses 3)=true:=by kernel_rfl
end Go.Proofs.YtpipekfmecikmaaGreatDoor
