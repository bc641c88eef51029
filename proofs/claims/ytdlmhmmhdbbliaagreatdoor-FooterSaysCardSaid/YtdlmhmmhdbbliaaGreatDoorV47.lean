/- Parts of the proof. -/
import Derived.Test.YtdlmhmmhdbbliaaGreatDoorRows
import Derived.SevenTiedAt
import Derived.JoinedOf
import Derived.KernelRfl
set_option maxHeartbeats 4000000
set_option linter.unusedVariables false
set_option linter.unusedSimpArgs false
namespace Go.Proofs.YtdlmhmmhdbbliaaGreatDoor
open Go
theorem ZbZ {a b:Bool}(ha:a=true)(hb:b=true):(a&&b)=true:=by rw[ha,hb];rfl
theorem af1:Rows.footerSaysRow.wf (OpenSpec.ofChange Rows.footerSaysSpec)=true:=by kernel_rfl
theorem af2:laidOutB Tryz.prog=true:=by kernel_rfl
theorem af3:mapsRowed Tryz.prog=true:=by kernel_rfl
theorem af5:namedTie Tryz.prog Rows.footerSaysRow.named Rows.footerSaysSpec.vars=true:=by kernel_rfl
theorem af10:(Rows.footerSaysRow.inPlace==Tryz.prog.inPlace 4)=true:=by kernel_rfl
theorem af11:(Rows.footerSaysRow.unfollowed==Tryz.prog.unfollowed 4)=true:=by kernel_rfl
theorem af12:(Rows.footerSaysRow.recurses==Tryz.prog.recurses 4)=true:=by kernel_rfl
end Go.Proofs.YtdlmhmmhdbbliaaGreatDoor
