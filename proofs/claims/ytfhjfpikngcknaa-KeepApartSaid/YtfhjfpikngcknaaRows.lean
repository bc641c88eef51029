/-
  No cell of these rows narrows 'for every input' (looked for: loops, veiled, ifaces, maps, wideKeys, modest, calm, conditions, laid).
  DERIVED. THE GIVEN ROWS OF THIS SEAT. 6 by the template 'for every input the law returns true; each argument reads behind the call as it read before'; 0 by the template 'total and deterministic' (their statements: YtfhjfpikngcknaaTotals.lean).
  GIVEN WITH THE SEED: the statements are not yours to turn. If you find one false, say at which input.
  Laid BY PROGRAM, IN A SANDBOX (cutbox-rows.mjs): the forced cells as the released guide's own fill.sh prints them over the translation 1981d316377c1e97… (all of the seat's roots in one cut). By AI agents, Wed Nov 11 2026. No macro, syntax, notation, axiom, sorry.
-/
import Derived.Test.YtfhjfpikngcknaaChecked
import GoSem.Claim
import GoSem.ClaimJoined
import GoSem.ClaimMapViews
import Derived.JoinedTies
import Derived.KernelRfl
namespace Go.Proofs.Ytfhjfpikngcknaa
/- THE CELL 'sum', in the pinned program and in every row, IS THE sha256 OF THE DUMP (.gsa) THAT YtfhjfpikngcknaaProg.lean LOADS. Nothing in Lean hashes anything: it is a label: what it is worth is what the hold of that sum in a sandbox is worth. -/
noncomputable def Try.pinned : Pinned := { name := "ytfhjfpikngcknaa", sum := "1981d316377c1e971752060c16213de1e21bfee947bbbd4d7bc743f3c0781af8", checked := Try.checked }
namespace Rows
def none {H : Type} : Left H := { results := [], args := [] }

/-- 'analemmalaw34.MergeSources': WHATEVER THE INPUT: true; the input reads as it did. -/
def mergeSourcesSpec : ChangeSpec := { name := "mergeSources", fn := fun _ => fun
  | [d1, d2] => { results := [.lit (.bool true)], args := [d1, d2] }
  | _ => none }
def mergeSourcesRow : OpenClaim := { program := "ytfhjfpikngcknaa", sum := "1981d316377c1e971752060c16213de1e21bfee947bbbd4d7bc743f3c0781af8", func := "analemma/analemmalaw34.MergeSources", spec := "mergeSources", unfollowed := true, recurses := true, apart := false }
def MergeSourcesSaid : Prop := mergeSourcesRow.holds Try.pinned (OpenSpec.ofChange mergeSourcesSpec)

/-- ITS FALSE NEIGHBOUR: 'it returns false'. Refute it at one input. -/
def mergeSourcesWrong : ChangeSpec := { name := "mergeSources", fn := fun _ => fun
  | [d1, d2] => { results := [.lit (.bool false)], args := [d1, d2] }
  | _ => none }
def MergeSourcesWrongFalsely : Prop := mergeSourcesRow.holds Try.pinned (OpenSpec.ofChange mergeSourcesWrong)

/-- 'analemmalaw34.MergeNothing': WHATEVER THE INPUT: true; the input reads as it did. -/
def mergeNothingSpec : ChangeSpec := { name := "mergeNothing", fn := fun _ => fun
  | [d1, d2, d3] => { results := [.lit (.bool true)], args := [d1, d2, d3] }
  | _ => none }
def mergeNothingRow : OpenClaim := { program := "ytfhjfpikngcknaa", sum := "1981d316377c1e971752060c16213de1e21bfee947bbbd4d7bc743f3c0781af8", func := "analemma/analemmalaw34.MergeNothing", spec := "mergeNothing", unfollowed := true, recurses := true, apart := false }
def MergeNothingSaid : Prop := mergeNothingRow.holds Try.pinned (OpenSpec.ofChange mergeNothingSpec)

/-- ITS FALSE NEIGHBOUR: 'it returns false'. Refute it at one input. -/
def mergeNothingWrong : ChangeSpec := { name := "mergeNothing", fn := fun _ => fun
  | [d1, d2, d3] => { results := [.lit (.bool false)], args := [d1, d2, d3] }
  | _ => none }
def MergeNothingWrongFalsely : Prop := mergeNothingRow.holds Try.pinned (OpenSpec.ofChange mergeNothingWrong)

/-- 'analemmalaw33.KeepSources': WHATEVER THE INPUT: true; the input reads as it did. -/
def keepSourcesSpec : ChangeSpec := { name := "keepSources", fn := fun _ => fun
  | [d1, d2, d3] => { results := [.lit (.bool true)], args := [d1, d2, d3] }
  | _ => none }
def keepSourcesRow : OpenClaim := { program := "ytfhjfpikngcknaa", sum := "1981d316377c1e971752060c16213de1e21bfee947bbbd4d7bc743f3c0781af8", func := "analemma/analemmalaw33.KeepSources", spec := "keepSources", unfollowed := true, recurses := true, apart := false }
def KeepSourcesSaid : Prop := keepSourcesRow.holds Try.pinned (OpenSpec.ofChange keepSourcesSpec)

/-- ITS FALSE NEIGHBOUR: 'it returns false'. Refute it at one input. -/
def keepSourcesWrong : ChangeSpec := { name := "keepSources", fn := fun _ => fun
  | [d1, d2, d3] => { results := [.lit (.bool false)], args := [d1, d2, d3] }
  | _ => none }
def KeepSourcesWrongFalsely : Prop := keepSourcesRow.holds Try.pinned (OpenSpec.ofChange keepSourcesWrong)

/-- 'analemmalaw33.KeepApart': WHATEVER THE INPUT: true; the input reads as it did. -/
def keepApartSpec : ChangeSpec := { name := "keepApart", fn := fun _ => fun
  | [d] => { results := [.lit (.bool true)], args := [d] }
  | _ => none }
def keepApartRow : OpenClaim := { program := "ytfhjfpikngcknaa", sum := "1981d316377c1e971752060c16213de1e21bfee947bbbd4d7bc743f3c0781af8", func := "analemma/analemmalaw33.KeepApart", spec := "keepApart", inPlace := ["internal/abi.NoEscape", "internal/bytealg.MakeNoZero"], unfollowed := true, recurses := true, apart := false }
def KeepApartSaid : Prop := keepApartRow.holds Try.pinned (OpenSpec.ofChange keepApartSpec)

/-- ITS FALSE NEIGHBOUR: 'it returns false'. Refute it at one input. -/
def keepApartWrong : ChangeSpec := { name := "keepApart", fn := fun _ => fun
  | [d] => { results := [.lit (.bool false)], args := [d] }
  | _ => none }
def KeepApartWrongFalsely : Prop := keepApartRow.holds Try.pinned (OpenSpec.ofChange keepApartWrong)

/-- 'analemmalaw33.KeepParts': WHATEVER THE INPUT: true; the input reads as it did. -/
def keepPartsSpec : ChangeSpec := { name := "keepParts", fn := fun _ => fun
  | [d1, d2] => { results := [.lit (.bool true)], args := [d1, d2] }
  | _ => none }
def keepPartsRow : OpenClaim := { program := "ytfhjfpikngcknaa", sum := "1981d316377c1e971752060c16213de1e21bfee947bbbd4d7bc743f3c0781af8", func := "analemma/analemmalaw33.KeepParts", spec := "keepParts", inPlace := ["internal/abi.NoEscape", "internal/bytealg.MakeNoZero"], unfollowed := true, recurses := true, apart := false }
def KeepPartsSaid : Prop := keepPartsRow.holds Try.pinned (OpenSpec.ofChange keepPartsSpec)

/-- ITS FALSE NEIGHBOUR: 'it returns false'. Refute it at one input. -/
def keepPartsWrong : ChangeSpec := { name := "keepParts", fn := fun _ => fun
  | [d1, d2] => { results := [.lit (.bool false)], args := [d1, d2] }
  | _ => none }
def KeepPartsWrongFalsely : Prop := keepPartsRow.holds Try.pinned (OpenSpec.ofChange keepPartsWrong)

/-- 'analemmalaw33.KeepOptions': WHATEVER THE INPUT: true; the input reads as it did. -/
def keepOptionsSpec : ChangeSpec := { name := "keepOptions", fn := fun _ => fun
  | [d1, d2, d3] => { results := [.lit (.bool true)], args := [d1, d2, d3] }
  | _ => none }
def keepOptionsRow : OpenClaim := { program := "ytfhjfpikngcknaa", sum := "1981d316377c1e971752060c16213de1e21bfee947bbbd4d7bc743f3c0781af8", func := "analemma/analemmalaw33.KeepOptions", spec := "keepOptions", inPlace := ["internal/abi.NoEscape", "internal/bytealg.MakeNoZero"], unfollowed := true, recurses := true, apart := false }
def KeepOptionsSaid : Prop := keepOptionsRow.holds Try.pinned (OpenSpec.ofChange keepOptionsSpec)

/-- ITS FALSE NEIGHBOUR: 'it returns false'. Refute it at one input. -/
def keepOptionsWrong : ChangeSpec := { name := "keepOptions", fn := fun _ => fun
  | [d1, d2, d3] => { results := [.lit (.bool false)], args := [d1, d2, d3] }
  | _ => none }
def KeepOptionsWrongFalsely : Prop := keepOptionsRow.holds Try.pinned (OpenSpec.ofChange keepOptionsWrong)

/- THE SECOND FORM. 'bulk': how many values and letters a reading holds, each counted each time it is reached (what is shared counts as often as it is met; a slice's spare places count too). A statement '..UptoSaid' is the law's where the arguments, and the package variables that the reading takes, are together of bulk at most 1048576: NARROWER than '..Said'. Prove '..Said' where nothing that the law and all that it calls make is longer than what came in: it says more and counts as full. Else prove '..UptoSaid'. A law counts once. -/
mutual
def uptoBulk {H : Type} : DataW H → Nat
  | .lit (.string bytes) => bytes.length + 1
  | .lit _ => 1
  | .nil => 1
  | .ptr d => uptoBulk d + 1
  | .slice elems spare => uptoBulkAll elems + uptoBulkAll spare + 1
  | .agg parts => uptoBulkAll parts + 1
  | .iface _ d => uptoBulk d + 1
  | .map entries => uptoBulkEntries entries + 1
  | .held _ => 1
def uptoBulkAll {H : Type} : List (DataW H) → Nat
  | [] => 0
  | d :: r => uptoBulk d + uptoBulkAll r
def uptoBulkEntries {H : Type} : List (Lit × DataW H) → Nat
  | [] => 0
  | x :: r => uptoBulkEntry x + uptoBulkEntries r
def uptoBulkEntry {H : Type} : Lit × DataW H → Nat
  | (.string bytes, d) => bytes.length + uptoBulk d + 1
  | (_, d) => uptoBulk d + 1
 end
def uptoSmall : (H : Type) → List (DataW H) → Bool := fun _ ds => decide (uptoBulkAll ds ≤ 1048576)
def OpenSpec.upto (s : _root_.Go.ChangeSpec) : _root_.Go.OpenSpec := { _root_.Go.OpenSpec.ofChange s with cond := some uptoSmall }

/-- 'analemmalaw34.MergeSources', WHERE WHAT IT READS IS OF BULK AT MOST 1048576: true; the input reads as it did. -/
def mergeSourcesUptoRow : OpenClaim := { program := "ytfhjfpikngcknaa", sum := "1981d316377c1e971752060c16213de1e21bfee947bbbd4d7bc743f3c0781af8", func := "analemma/analemmalaw34.MergeSources", spec := "mergeSources", unfollowed := true, recurses := true, apart := false, narrowed := true }
def MergeSourcesUptoSaid : Prop := mergeSourcesUptoRow.holds Try.pinned (OpenSpec.upto mergeSourcesSpec)

/-- 'analemmalaw34.MergeNothing', WHERE WHAT IT READS IS OF BULK AT MOST 1048576: true; the input reads as it did. -/
def mergeNothingUptoRow : OpenClaim := { program := "ytfhjfpikngcknaa", sum := "1981d316377c1e971752060c16213de1e21bfee947bbbd4d7bc743f3c0781af8", func := "analemma/analemmalaw34.MergeNothing", spec := "mergeNothing", unfollowed := true, recurses := true, apart := false, narrowed := true }
def MergeNothingUptoSaid : Prop := mergeNothingUptoRow.holds Try.pinned (OpenSpec.upto mergeNothingSpec)

/-- 'analemmalaw33.KeepSources', WHERE WHAT IT READS IS OF BULK AT MOST 1048576: true; the input reads as it did. -/
def keepSourcesUptoRow : OpenClaim := { program := "ytfhjfpikngcknaa", sum := "1981d316377c1e971752060c16213de1e21bfee947bbbd4d7bc743f3c0781af8", func := "analemma/analemmalaw33.KeepSources", spec := "keepSources", unfollowed := true, recurses := true, apart := false, narrowed := true }
def KeepSourcesUptoSaid : Prop := keepSourcesUptoRow.holds Try.pinned (OpenSpec.upto keepSourcesSpec)

/-- 'analemmalaw33.KeepApart', WHERE WHAT IT READS IS OF BULK AT MOST 1048576: true; the input reads as it did. -/
def keepApartUptoRow : OpenClaim := { program := "ytfhjfpikngcknaa", sum := "1981d316377c1e971752060c16213de1e21bfee947bbbd4d7bc743f3c0781af8", func := "analemma/analemmalaw33.KeepApart", spec := "keepApart", inPlace := ["internal/abi.NoEscape", "internal/bytealg.MakeNoZero"], unfollowed := true, recurses := true, apart := false, narrowed := true }
def KeepApartUptoSaid : Prop := keepApartUptoRow.holds Try.pinned (OpenSpec.upto keepApartSpec)

/-- 'analemmalaw33.KeepParts', WHERE WHAT IT READS IS OF BULK AT MOST 1048576: true; the input reads as it did. -/
def keepPartsUptoRow : OpenClaim := { program := "ytfhjfpikngcknaa", sum := "1981d316377c1e971752060c16213de1e21bfee947bbbd4d7bc743f3c0781af8", func := "analemma/analemmalaw33.KeepParts", spec := "keepParts", inPlace := ["internal/abi.NoEscape", "internal/bytealg.MakeNoZero"], unfollowed := true, recurses := true, apart := false, narrowed := true }
def KeepPartsUptoSaid : Prop := keepPartsUptoRow.holds Try.pinned (OpenSpec.upto keepPartsSpec)

/-- 'analemmalaw33.KeepOptions', WHERE WHAT IT READS IS OF BULK AT MOST 1048576: true; the input reads as it did. -/
def keepOptionsUptoRow : OpenClaim := { program := "ytfhjfpikngcknaa", sum := "1981d316377c1e971752060c16213de1e21bfee947bbbd4d7bc743f3c0781af8", func := "analemma/analemmalaw33.KeepOptions", spec := "keepOptions", inPlace := ["internal/abi.NoEscape", "internal/bytealg.MakeNoZero"], unfollowed := true, recurses := true, apart := false, narrowed := true }
def KeepOptionsUptoSaid : Prop := keepOptionsUptoRow.holds Try.pinned (OpenSpec.upto keepOptionsSpec)

end Rows
end Go.Proofs.Ytfhjfpikngcknaa
