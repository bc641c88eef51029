/-
  DERIVED. GIVEN WITH THE SEED: THE CARDS: each row of YtfhjfpikngcknaaDoorRows.lean that lists a variable, with what it lists TIED to the program's text (the seventh form; the later family's looks); each row that meets fmt, with fmt's text TOLD by the authors' own Lean function (tested against real Go, not proved from fmt's source: count such statements apart). THE CARD IS WHAT COUNTS. Prove the row's statement (the work); the ties are given (YtfhjfpikngcknaaDoorTie.lean); close each card by the builder's one call (the guide's Derived/Test/ToyasCard.lean, 'card_holds'). Laid BY PROGRAM, IN A SANDBOX (cutbox-door.mjs). By AI agents, Wed Nov 11 2026. No macro, syntax, notation, axiom, sorry.
-/
import Derived.Test.YtfhjfpikngcknaaDoorRows
import GoSem.ClaimSeven
namespace Go.Proofs.YtfhjfpikngcknaaDoor
namespace Rows

/-- THE TIED CARD OF 'analemmalaw34.MergeTwice'. -/
def mergeTwiceCard : Claim7 := { stood := { row := mergeTwiceRow, standIns := [], harness := (true, "659476e8a7c07dfcb40e31c5f2349bb712ecc0686f3756661c4df7bf1d165b19"), looks := false }, kinds := [], alts := [], laidByText := true, laidKinds := [.data, .data, .data], laidTests := true, laidLooks := .later }
def MergeTwiceCardSaid : Prop := Claim7.holds Tryd.pinned (.plain (OpenSpec.ofChange mergeTwiceSpec)) mergeTwiceCard

/-- THE TIED CARD OF 'analemmalaw34.MergeSets'. -/
def mergeSetsCard : Claim7 := { stood := { row := mergeSetsRow, standIns := [], harness := (true, "659476e8a7c07dfcb40e31c5f2349bb712ecc0686f3756661c4df7bf1d165b19"), looks := false }, kinds := [], alts := [], laidByText := true, laidKinds := [.data, .data, .data], laidTests := true, laidLooks := .later }
def MergeSetsCardSaid : Prop := Claim7.holds Tryd.pinned (.plain (OpenSpec.ofChange mergeSetsSpec)) mergeSetsCard

/-- THE SECOND FORM's CARD OF 'analemmalaw34.MergeTwice'. -/
def mergeTwiceUptoCard : Claim7 := { stood := { row := mergeTwiceUptoRow, standIns := [], harness := (true, "659476e8a7c07dfcb40e31c5f2349bb712ecc0686f3756661c4df7bf1d165b19"), looks := false }, kinds := [], alts := [], laidByText := true, laidKinds := [.data, .data, .data], laidTests := true, laidLooks := .later }
def MergeTwiceUptoCardSaid : Prop := Claim7.holds Tryd.pinned (.plain (OpenSpec.upto mergeTwiceSpec)) mergeTwiceUptoCard

/-- THE SECOND FORM's CARD OF 'analemmalaw34.MergeSets'. -/
def mergeSetsUptoCard : Claim7 := { stood := { row := mergeSetsUptoRow, standIns := [], harness := (true, "659476e8a7c07dfcb40e31c5f2349bb712ecc0686f3756661c4df7bf1d165b19"), looks := false }, kinds := [], alts := [], laidByText := true, laidKinds := [.data, .data, .data], laidTests := true, laidLooks := .later }
def MergeSetsUptoCardSaid : Prop := Claim7.holds Tryd.pinned (.plain (OpenSpec.upto mergeSetsSpec)) mergeSetsUptoCard
end Rows
end Go.Proofs.YtfhjfpikngcknaaDoor
