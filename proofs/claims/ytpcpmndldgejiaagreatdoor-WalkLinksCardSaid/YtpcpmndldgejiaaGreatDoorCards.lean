/-
  DERIVED. GIVEN WITH THE SEED: THE CARDS: each row of YtpcpmndldgejiaaGreatDoorRows.lean that lists a variable, with what it lists TIED to the program's text (the seventh form; the later family's looks); each row that meets fmt, with fmt's text TOLD by the authors' own Lean function (tested against real Go, not proved from fmt's source: count such statements apart). THE CARD IS WHAT COUNTS. Prove the row's statement (the work); the ties are given (YtpcpmndldgejiaaGreatDoorTie.lean); close each card by the builder's one call (the guide's Derived/Test/ToyasCard.lean, 'card_holds'). Laid BY PROGRAM, IN A SANDBOX (cutbox-door.mjs). By AI agents, Wed Nov 11 2026. No macro, syntax, notation, axiom, sorry.
-/
import Derived.Test.YtpcpmndldgejiaaGreatDoorRows
import GoSem.ClaimSeven
namespace Go.Proofs.YtpcpmndldgejiaaGreatDoor
namespace Rows

/-- THE TIED CARD OF 'analemmalaw27.WalkParts'. -/
def walkPartsCard : Claim7 := { stood := { row := walkPartsRow, standIns := [], harness := (true, "8a5dec105e49d7e495462c86ad0c88b4974a58e2781ed46907fe7fb400c90281"), looks := true }, kinds := [], alts := [], laidByText := true, laidKinds := [.data, .data, .data, .data, .sentinel, .sentinel, .data, .funcs, .funcs, .pinned], laidTests := true, laidLooks := .later }
def WalkPartsCardSaid : Prop := Claim7.holds Tryz.pinned (.plain (OpenSpec.ofChange walkPartsSpec)) walkPartsCard

/-- THE TIED CARD OF 'analemmalaw27.WalkLinks'. -/
def walkLinksCard : Claim7 := { stood := { row := walkLinksRow, standIns := [], harness := (true, "8a5dec105e49d7e495462c86ad0c88b4974a58e2781ed46907fe7fb400c90281"), looks := true }, kinds := [], alts := [], laidByText := true, laidKinds := [.data, .data, .data, .data, .sentinel, .sentinel, .data, .funcs, .funcs, .pinned], laidTests := true, laidLooks := .later }
def WalkLinksCardSaid : Prop := Claim7.holds Tryz.pinned (.plain (OpenSpec.ofChange walkLinksSpec)) walkLinksCard

/-- THE TIED CARD OF 'analemmalaw27.WalkBetween'. -/
def walkBetweenCard : Claim7 := { stood := { row := walkBetweenRow, standIns := [], harness := (true, "8a5dec105e49d7e495462c86ad0c88b4974a58e2781ed46907fe7fb400c90281"), looks := true }, kinds := [], alts := [], laidByText := true, laidKinds := [.data, .data, .data, .data, .sentinel, .sentinel, .data, .funcs, .funcs, .funcs, .pinned], laidTests := true, laidLooks := .later }
def WalkBetweenCardSaid : Prop := Claim7.holds Tryz.pinned (.plain (OpenSpec.ofChange walkBetweenSpec)) walkBetweenCard

/-- THE TIED CARD OF 'analemmalaw27.WalkRefuses'. -/
def walkRefusesCard : Claim7 := { stood := { row := walkRefusesRow, standIns := [], harness := (true, "8a5dec105e49d7e495462c86ad0c88b4974a58e2781ed46907fe7fb400c90281"), looks := true }, kinds := [], alts := [], laidByText := true, laidKinds := [.data, .data, .data, .data, .sentinel, .sentinel, .data, .funcs, .funcs, .funcs, .pinned], laidTests := true, laidLooks := .later }
def WalkRefusesCardSaid : Prop := Claim7.holds Tryz.pinned (.plain (OpenSpec.ofChange walkRefusesSpec)) walkRefusesCard

/-- THE TIED CARD OF 'analemmalaw34.MergeMeanings'. -/
def mergeMeaningsCard : Claim7 := { stood := { row := mergeMeaningsRow, standIns := [], harness := (true, "8a5dec105e49d7e495462c86ad0c88b4974a58e2781ed46907fe7fb400c90281"), looks := true }, kinds := [], alts := [], laidByText := true, laidKinds := [.data, .data, .data, .data, .sentinel, .sentinel, .data, .funcs, .funcs, .funcs, .pinned], laidTests := true, laidLooks := .later }
def MergeMeaningsCardSaid : Prop := Claim7.holds Tryz.pinned (.plain (OpenSpec.ofChange mergeMeaningsSpec)) mergeMeaningsCard

/-- THE SECOND FORM's CARD OF 'analemmalaw27.WalkParts'. -/
def walkPartsUptoCard : Claim7 := { stood := { row := walkPartsUptoRow, standIns := [], harness := (true, "8a5dec105e49d7e495462c86ad0c88b4974a58e2781ed46907fe7fb400c90281"), looks := true }, kinds := [], alts := [], laidByText := true, laidKinds := [.data, .data, .data, .data, .sentinel, .sentinel, .data, .funcs, .funcs, .pinned], laidTests := true, laidLooks := .later }
def WalkPartsUptoCardSaid : Prop := Claim7.holds Tryz.pinned (.plain (OpenSpec.upto walkPartsSpec)) walkPartsUptoCard

/-- THE SECOND FORM's CARD OF 'analemmalaw27.WalkLinks'. -/
def walkLinksUptoCard : Claim7 := { stood := { row := walkLinksUptoRow, standIns := [], harness := (true, "8a5dec105e49d7e495462c86ad0c88b4974a58e2781ed46907fe7fb400c90281"), looks := true }, kinds := [], alts := [], laidByText := true, laidKinds := [.data, .data, .data, .data, .sentinel, .sentinel, .data, .funcs, .funcs, .pinned], laidTests := true, laidLooks := .later }
def WalkLinksUptoCardSaid : Prop := Claim7.holds Tryz.pinned (.plain (OpenSpec.upto walkLinksSpec)) walkLinksUptoCard

/-- THE SECOND FORM's CARD OF 'analemmalaw27.WalkBetween'. -/
def walkBetweenUptoCard : Claim7 := { stood := { row := walkBetweenUptoRow, standIns := [], harness := (true, "8a5dec105e49d7e495462c86ad0c88b4974a58e2781ed46907fe7fb400c90281"), looks := true }, kinds := [], alts := [], laidByText := true, laidKinds := [.data, .data, .data, .data, .sentinel, .sentinel, .data, .funcs, .funcs, .funcs, .pinned], laidTests := true, laidLooks := .later }
def WalkBetweenUptoCardSaid : Prop := Claim7.holds Tryz.pinned (.plain (OpenSpec.upto walkBetweenSpec)) walkBetweenUptoCard

/-- THE SECOND FORM's CARD OF 'analemmalaw27.WalkRefuses'. -/
def walkRefusesUptoCard : Claim7 := { stood := { row := walkRefusesUptoRow, standIns := [], harness := (true, "8a5dec105e49d7e495462c86ad0c88b4974a58e2781ed46907fe7fb400c90281"), looks := true }, kinds := [], alts := [], laidByText := true, laidKinds := [.data, .data, .data, .data, .sentinel, .sentinel, .data, .funcs, .funcs, .funcs, .pinned], laidTests := true, laidLooks := .later }
def WalkRefusesUptoCardSaid : Prop := Claim7.holds Tryz.pinned (.plain (OpenSpec.upto walkRefusesSpec)) walkRefusesUptoCard

/-- THE SECOND FORM's CARD OF 'analemmalaw34.MergeMeanings'. -/
def mergeMeaningsUptoCard : Claim7 := { stood := { row := mergeMeaningsUptoRow, standIns := [], harness := (true, "8a5dec105e49d7e495462c86ad0c88b4974a58e2781ed46907fe7fb400c90281"), looks := true }, kinds := [], alts := [], laidByText := true, laidKinds := [.data, .data, .data, .data, .sentinel, .sentinel, .data, .funcs, .funcs, .funcs, .pinned], laidTests := true, laidLooks := .later }
def MergeMeaningsUptoCardSaid : Prop := Claim7.holds Tryz.pinned (.plain (OpenSpec.upto mergeMeaningsSpec)) mergeMeaningsUptoCard
end Rows
end Go.Proofs.YtpcpmndldgejiaaGreatDoor
