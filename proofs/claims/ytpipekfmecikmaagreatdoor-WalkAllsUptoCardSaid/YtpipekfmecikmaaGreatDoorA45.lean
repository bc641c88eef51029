/- Parts of the proof. -/
import Derived.Test.YtpipekfmecikmaaGreatDoorRows
import Derived.SevenTiedAt
import Derived.JoinedOf
import Derived.KernelRfl
set_option maxHeartbeats 0
set_option linter.all false
namespace Go.Proofs.YtpipekfmecikmaaGreatDoor
open Go Proofs.Tryz
theorem af13:(Rows.walkAllsUptoRow.named==prog.varsNamed 6)=true:=by kernel_rfl
theorem af23:(Rows.walkAllsUptoRow.plainKeys==prog.plainKeys)=true:=by kernel_rfl
theorem af25:prog.stopsHeard=true:=by kernel_rfl
theorem af26:prog.mayEnter=true:=by kernel_rfl
theorem af27:(Rows.walkAllsUptoRow.lifted==prog.liftsFinal)=true:=by kernel_rfl
theorem af28:(prog.make==some Rows.walkAllsUptoRow.make)=true:=by kernel_rfl
