/- Parts of the proof. -/
import Derived.Test.YtpipekfmecikmaaGreatDoorR14
set_option maxHeartbeats 4000000
set_option linter.all false
namespace Go.Proofs.YtpipekfmecikmaaGreatDoor
open Go Go.RowKit Go.Wk
attribute [local irreducible] W RL Does Zaq Zai retQ Calls Pu Stp RD Qy Ay Zaj
end Go.Proofs.YtpipekfmecikmaaGreatDoor
