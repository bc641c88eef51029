/- Plain: AcceptMany's sources, their answers. -/
import Derived.Test.YtbffjibfcgcoeaaGreatDoorQ36
set_option linter.unusedVariables false
set_option linter.unusedSimpArgs false
namespace Go.Proofs.YtbffjibfcgcoeaaGreatDoor
open Go Go.RowKit Go.Wk
def lettersD (n : Nat) : DSource := exS (mRs n) [mE1, mE2] [] []
def offsetsD (n : Nat) : DSource := exS [nR 5 3600, nR 8 7200, nR 10 0] (mXl n) [] []
def dL0 : DLink := ⟨ByteArray.empty, ByteArray.empty⟩
def linksM : DSource := ⟨[], [], List.replicate 1001 dL0, []⟩
def erasM : DSource := exS [] (List.replicate 61 dE0) [] []
theorem m1 : accD (lettersD 62) = none := by decide +kernel
theorem m2 : faultB (lettersD 63) ⟨2, 0, 0⟩ 7 = true := by decide +kernel
theorem m3 : accD (offsetsD 40) = none := by decide +kernel
theorem m4 : faultB (offsetsD 41) ⟨2, 0, 0⟩ 7 = true := by decide +kernel
theorem m5 : faultB linksM ⟨3, 1000, 0⟩ 7 = true := by decide +kernel
theorem m6 : faultB erasM ⟨2, 0, 60⟩ 7 = true := by decide +kernel
theorem o1' : okD (lettersD 62) = true := by decide +kernel
theorem o2' : okD (lettersD 63) = true := by decide +kernel
theorem o3' : okD (offsetsD 40) = true := by decide +kernel
theorem o4' : okD (offsetsD 41) = true := by decide +kernel
theorem o5' : okD linksM = true := by decide +kernel
theorem o6' : okD erasM = true := by decide +kernel
end Go.Proofs.YtbffjibfcgcoeaaGreatDoor
