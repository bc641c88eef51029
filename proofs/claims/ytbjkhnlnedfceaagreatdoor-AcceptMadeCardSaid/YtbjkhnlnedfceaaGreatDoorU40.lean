/- Plain: the answers of the chapter's examples. -/
import Derived.Test.YtbjkhnlnedfceaaGreatDoorU39
set_option maxHeartbeats 4000000
set_option linter.unusedVariables false
set_option linter.unusedSimpArgs false
namespace Go.Proofs.YtbjkhnlnedfceaaGreatDoor
open Go Go.RowKit Go.Wk
theorem q1 : formsD d1 = [1, 2, 3] := by decide +kernel
theorem q2 : formsD d2 = [1, 2] := by decide +kernel
theorem q3 : formsD d3 = [1] := by decide +kernel
theorem q3i : inD d3 2 = some (⟨2, 0, 1⟩, 17) := by decide +kernel
theorem q4 : faultB d4 ⟨1, 0, 0⟩ 14 = true := by decide +kernel
theorem q5 : faultB d5 ⟨2, 0, 1⟩ 9 = true := by decide +kernel
theorem q6 : faultB d6 ⟨2, 0, 1⟩ 13 = true := by decide +kernel
theorem q7 : faultB d7 ⟨2, 0, 0⟩ 12 = true := by decide +kernel
theorem q8 : faultB d8 ⟨2, 0, 1⟩ 3 = true := by decide +kernel
theorem q9 : faultB d9 ⟨3, 0, 0⟩ 10 = true := by decide +kernel
theorem q10 : formsD d10 = [3] := by decide +kernel
theorem q11 : faultB d11 ⟨4, 0, 0⟩ 9 = true := by decide +kernel
end Go.Proofs.YtbjkhnlnedfceaaGreatDoor
