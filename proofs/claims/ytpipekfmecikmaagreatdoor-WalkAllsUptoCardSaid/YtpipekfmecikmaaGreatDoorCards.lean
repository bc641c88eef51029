/-
  DERIVED. GIVEN WITH THE SEED: THE CARDS: each row of YtpipekfmecikmaaGreatDoorRows.lean that lists a variable, with what it lists TIED to the program's text (the seventh form; the later family's looks); each row that meets fmt, with fmt's text TOLD by the authors' own Lean function (tested against real Go, not proved from fmt's source: count such statements apart). THE CARD IS WHAT COUNTS. Prove the row's statement (the work); the ties are given (YtpipekfmecikmaaGreatDoorTie.lean); close each card by the builder's one call (the guide's Derived/Test/ToyasCard.lean, 'card_holds'). Laid BY PROGRAM, IN A SANDBOX (cutbox-door.mjs). By AI agents, Wed Nov 11 2026. No macro, syntax, notation, axiom, sorry.
-/
import Derived.Test.YtpipekfmecikmaaGreatDoorRows
import GoSem.ClaimSeven
namespace Go.Proofs.YtpipekfmecikmaaGreatDoor
namespace Rows

/-- THE TIED CARD OF 'analemmalaw38.FooterZones'. -/
def footerZonesCard : Claim7 := { stood := { row := footerZonesRow, standIns := [], harness := (true, "c15faa29f47f312d0e243cd074e7801d46628aefb43134b5bf9f8ca659cde5db"), looks := true }, kinds := [], alts := [], laidByText := true, laidKinds := [.data, .data, .data, .data, .sentinel, .sentinel, .data, .funcs, .funcs, .funcs, .pinned], laidTests := true, laidLooks := .later }
def FooterZonesCardSaid : Prop := Claim7.holds Tryz.pinned (.plain (OpenSpec.ofChange footerZonesSpec)) footerZonesCard

/-- THE TIED CARD OF 'analemmalaw26.MeaningTells'. -/
def meaningTellsCard : Claim7 := { stood := { row := meaningTellsRow, standIns := [], harness := (true, "c15faa29f47f312d0e243cd074e7801d46628aefb43134b5bf9f8ca659cde5db"), looks := true }, kinds := [], alts := [], laidByText := true, laidKinds := [.data, .data, .data, .data, .sentinel, .sentinel, .data, .funcs, .funcs, .funcs, .pinned], laidTests := true, laidLooks := .later }
def MeaningTellsCardSaid : Prop := Claim7.holds Tryz.pinned (.plain (OpenSpec.ofChange meaningTellsSpec)) meaningTellsCard

/-- THE TIED CARD OF 'analemmalaw27.WalkNexts'. -/
def walkNextsCard : Claim7 := { stood := { row := walkNextsRow, standIns := [], harness := (true, "c15faa29f47f312d0e243cd074e7801d46628aefb43134b5bf9f8ca659cde5db"), looks := true }, kinds := [], alts := [], laidByText := true, laidKinds := [.data, .data, .data, .data, .sentinel, .sentinel, .data, .funcs, .funcs, .pinned], laidTests := true, laidLooks := .later }
def WalkNextsCardSaid : Prop := Claim7.holds Tryz.pinned (.plain (OpenSpec.ofChange walkNextsSpec)) walkNextsCard

/-- THE TIED CARD OF 'analemmalaw27.WalkAlls'. -/
def walkAllsCard : Claim7 := { stood := { row := walkAllsRow, standIns := [], harness := (true, "c15faa29f47f312d0e243cd074e7801d46628aefb43134b5bf9f8ca659cde5db"), looks := true }, kinds := [], alts := [], laidByText := true, laidKinds := [.data, .data, .data, .data, .sentinel, .sentinel, .data, .funcs, .funcs, .pinned], laidTests := true, laidLooks := .later }
def WalkAllsCardSaid : Prop := Claim7.holds Tryz.pinned (.plain (OpenSpec.ofChange walkAllsSpec)) walkAllsCard

/-- THE SECOND FORM's CARD OF 'analemmalaw38.FooterZones'. -/
def footerZonesUptoCard : Claim7 := { stood := { row := footerZonesUptoRow, standIns := [], harness := (true, "c15faa29f47f312d0e243cd074e7801d46628aefb43134b5bf9f8ca659cde5db"), looks := true }, kinds := [], alts := [], laidByText := true, laidKinds := [.data, .data, .data, .data, .sentinel, .sentinel, .data, .funcs, .funcs, .funcs, .pinned], laidTests := true, laidLooks := .later }
def FooterZonesUptoCardSaid : Prop := Claim7.holds Tryz.pinned (.plain (OpenSpec.upto footerZonesSpec)) footerZonesUptoCard

/-- THE SECOND FORM's CARD OF 'analemmalaw26.MeaningTells'. -/
def meaningTellsUptoCard : Claim7 := { stood := { row := meaningTellsUptoRow, standIns := [], harness := (true, "c15faa29f47f312d0e243cd074e7801d46628aefb43134b5bf9f8ca659cde5db"), looks := true }, kinds := [], alts := [], laidByText := true, laidKinds := [.data, .data, .data, .data, .sentinel, .sentinel, .data, .funcs, .funcs, .funcs, .pinned], laidTests := true, laidLooks := .later }
def MeaningTellsUptoCardSaid : Prop := Claim7.holds Tryz.pinned (.plain (OpenSpec.upto meaningTellsSpec)) meaningTellsUptoCard

/-- THE SECOND FORM's CARD OF 'analemmalaw27.WalkNexts'. -/
def walkNextsUptoCard : Claim7 := { stood := { row := walkNextsUptoRow, standIns := [], harness := (true, "c15faa29f47f312d0e243cd074e7801d46628aefb43134b5bf9f8ca659cde5db"), looks := true }, kinds := [], alts := [], laidByText := true, laidKinds := [.data, .data, .data, .data, .sentinel, .sentinel, .data, .funcs, .funcs, .pinned], laidTests := true, laidLooks := .later }
def WalkNextsUptoCardSaid : Prop := Claim7.holds Tryz.pinned (.plain (OpenSpec.upto walkNextsSpec)) walkNextsUptoCard

/-- THE SECOND FORM's CARD OF 'analemmalaw27.WalkAlls'. -/
def walkAllsUptoCard : Claim7 := { stood := { row := walkAllsUptoRow, standIns := [], harness := (true, "c15faa29f47f312d0e243cd074e7801d46628aefb43134b5bf9f8ca659cde5db"), looks := true }, kinds := [], alts := [], laidByText := true, laidKinds := [.data, .data, .data, .data, .sentinel, .sentinel, .data, .funcs, .funcs, .pinned], laidTests := true, laidLooks := .later }
def WalkAllsUptoCardSaid : Prop := Claim7.holds Tryz.pinned (.plain (OpenSpec.upto walkAllsSpec)) walkAllsUptoCard
end Rows
end Go.Proofs.YtpipekfmecikmaaGreatDoor
