/- Parts of the proof. -/
import Derived.Test.YtpipekfmecikmaaGreatDoorRows
import Derived.SevenTiedAt
import Derived.JoinedOf
import Derived.KernelRfl
set_option maxHeartbeats 4000000
set_option linter.all false
namespace Go.Proofs.YtpipekfmecikmaaGreatDoor
open Go
theorem af13:(Rows.walkNextsUptoRow.named==Tryz.prog.varsNamed 5)=true:=by kernel_rfl
theorem af23:(Rows.walkNextsUptoRow.plainKeys==Tryz.prog.plainKeys)=true:=by kernel_rfl
theorem af25:Tryz.prog.stopsHeard=true:=by kernel_rfl
theorem af26:Tryz.prog.mayEnter=true:=by kernel_rfl
theorem af27:(Rows.walkNextsUptoRow.lifted==Tryz.prog.liftsFinal)=true:=by kernel_rfl
theorem af28:(Tryz.prog.make==some Rows.walkNextsUptoRow.make)=true:=by kernel_rfl
end Go.Proofs.YtpipekfmecikmaaGreatDoor
