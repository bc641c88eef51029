/-
  DERIVED. GIVEN WITH THE SEED: THE CARDS: each row of YtbjkhnlnedfceaaGreatDoorRows.lean that lists a variable, with what it lists TIED to the program's text (the seventh form; the later family's looks); each row that meets fmt, with fmt's text TOLD by the authors' own Lean function (tested against real Go, not proved from fmt's source: count such statements apart). THE CARD IS WHAT COUNTS. Prove the row's statement (the work); the ties are given (YtbjkhnlnedfceaaGreatDoorTie.lean); close each card by the builder's one call (the guide's Derived/Test/ToyasCard.lean, 'card_holds'). Laid BY PROGRAM, IN A SANDBOX (cutbox-door.mjs). By AI agents, Wed Nov 11 2026. No macro, syntax, notation, axiom, sorry.
-/
import Derived.Test.YtbjkhnlnedfceaaGreatDoorRows
import GoSem.ClaimSeven
namespace Go.Proofs.YtbjkhnlnedfceaaGreatDoor
namespace Rows

/-- THE TIED CARD OF 'analemmalaw25.AcceptForms'. -/
def acceptFormsCard : Claim7 := { stood := { row := acceptFormsRow, standIns := [], harness := (true, "0901baf4cbacce30a391e44ab0793e8f249d4ab4fc5eff90f00b414525469979"), looks := true }, kinds := [], alts := [], laidByText := true, laidKinds := [.data, .data, .data, .data, .sentinel, .sentinel, .data, .funcs, .funcs, .widerDeep, .pinned], laidTests := true, laidLooks := .later }
def AcceptFormsCardSaid : Prop := Claim7.holds Tryz.pinned (.plain (OpenSpec.ofChange acceptFormsSpec)) acceptFormsCard

/-- THE TIED CARD OF 'analemmalaw25.AcceptSpoilt'. -/
def acceptSpoiltCard : Claim7 := { stood := { row := acceptSpoiltRow, standIns := [], harness := (true, "0901baf4cbacce30a391e44ab0793e8f249d4ab4fc5eff90f00b414525469979"), looks := true }, kinds := [], alts := [], laidByText := true, laidKinds := [.data, .data, .data, .data, .sentinel, .sentinel, .data, .funcs, .funcs, .widerDeep, .pinned], laidTests := true, laidLooks := .later }
def AcceptSpoiltCardSaid : Prop := Claim7.holds Tryz.pinned (.plain (OpenSpec.ofChange acceptSpoiltSpec)) acceptSpoiltCard

/-- THE TIED CARD OF 'analemmalaw25.AcceptEnds'. -/
def acceptEndsCard : Claim7 := { stood := { row := acceptEndsRow, standIns := [], harness := (true, "0901baf4cbacce30a391e44ab0793e8f249d4ab4fc5eff90f00b414525469979"), looks := true }, kinds := [], alts := [], laidByText := true, laidKinds := [.data, .data, .data, .data, .sentinel, .sentinel, .data, .funcs, .funcs, .widerDeep, .pinned], laidTests := true, laidLooks := .later }
def AcceptEndsCardSaid : Prop := Claim7.holds Tryz.pinned (.plain (OpenSpec.ofChange acceptEndsSpec)) acceptEndsCard

/-- THE TIED CARD OF 'analemmalaw25.AcceptMade'. -/
def acceptMadeCard : Claim7 := { stood := { row := acceptMadeRow, standIns := [], harness := (true, "0901baf4cbacce30a391e44ab0793e8f249d4ab4fc5eff90f00b414525469979"), looks := true }, kinds := [], alts := [], laidByText := true, laidKinds := [.data, .data, .data, .data, .sentinel, .sentinel, .data, .funcs, .funcs, .widerDeep, .pinned], laidTests := true, laidLooks := .later }
def AcceptMadeCardSaid : Prop := Claim7.holds Tryz.pinned (.plain (OpenSpec.ofChange acceptMadeSpec)) acceptMadeCard

/-- THE TIED CARD OF 'analemmalaw33.KeepAccepted'. -/
def keepAcceptedCard : Claim7 := { stood := { row := keepAcceptedRow, standIns := [], harness := (true, "0901baf4cbacce30a391e44ab0793e8f249d4ab4fc5eff90f00b414525469979"), looks := true }, kinds := [], alts := [], laidByText := true, laidKinds := [.data, .data, .data, .data, .sentinel, .sentinel, .data, .funcs, .funcs, .widerDeep, .pinned], laidTests := true, laidLooks := .later }
def KeepAcceptedCardSaid : Prop := Claim7.holds Tryz.pinned (.plain (OpenSpec.ofChange keepAcceptedSpec)) keepAcceptedCard

/-- THE SECOND FORM's CARD OF 'analemmalaw25.AcceptForms'. -/
def acceptFormsUptoCard : Claim7 := { stood := { row := acceptFormsUptoRow, standIns := [], harness := (true, "0901baf4cbacce30a391e44ab0793e8f249d4ab4fc5eff90f00b414525469979"), looks := true }, kinds := [], alts := [], laidByText := true, laidKinds := [.data, .data, .data, .data, .sentinel, .sentinel, .data, .funcs, .funcs, .widerDeep, .pinned], laidTests := true, laidLooks := .later }
def AcceptFormsUptoCardSaid : Prop := Claim7.holds Tryz.pinned (.plain (OpenSpec.upto acceptFormsSpec)) acceptFormsUptoCard

/-- THE SECOND FORM's CARD OF 'analemmalaw25.AcceptSpoilt'. -/
def acceptSpoiltUptoCard : Claim7 := { stood := { row := acceptSpoiltUptoRow, standIns := [], harness := (true, "0901baf4cbacce30a391e44ab0793e8f249d4ab4fc5eff90f00b414525469979"), looks := true }, kinds := [], alts := [], laidByText := true, laidKinds := [.data, .data, .data, .data, .sentinel, .sentinel, .data, .funcs, .funcs, .widerDeep, .pinned], laidTests := true, laidLooks := .later }
def AcceptSpoiltUptoCardSaid : Prop := Claim7.holds Tryz.pinned (.plain (OpenSpec.upto acceptSpoiltSpec)) acceptSpoiltUptoCard

/-- THE SECOND FORM's CARD OF 'analemmalaw25.AcceptEnds'. -/
def acceptEndsUptoCard : Claim7 := { stood := { row := acceptEndsUptoRow, standIns := [], harness := (true, "0901baf4cbacce30a391e44ab0793e8f249d4ab4fc5eff90f00b414525469979"), looks := true }, kinds := [], alts := [], laidByText := true, laidKinds := [.data, .data, .data, .data, .sentinel, .sentinel, .data, .funcs, .funcs, .widerDeep, .pinned], laidTests := true, laidLooks := .later }
def AcceptEndsUptoCardSaid : Prop := Claim7.holds Tryz.pinned (.plain (OpenSpec.upto acceptEndsSpec)) acceptEndsUptoCard

/-- THE SECOND FORM's CARD OF 'analemmalaw25.AcceptMade'. -/
def acceptMadeUptoCard : Claim7 := { stood := { row := acceptMadeUptoRow, standIns := [], harness := (true, "0901baf4cbacce30a391e44ab0793e8f249d4ab4fc5eff90f00b414525469979"), looks := true }, kinds := [], alts := [], laidByText := true, laidKinds := [.data, .data, .data, .data, .sentinel, .sentinel, .data, .funcs, .funcs, .widerDeep, .pinned], laidTests := true, laidLooks := .later }
def AcceptMadeUptoCardSaid : Prop := Claim7.holds Tryz.pinned (.plain (OpenSpec.upto acceptMadeSpec)) acceptMadeUptoCard

/-- THE SECOND FORM's CARD OF 'analemmalaw33.KeepAccepted'. -/
def keepAcceptedUptoCard : Claim7 := { stood := { row := keepAcceptedUptoRow, standIns := [], harness := (true, "0901baf4cbacce30a391e44ab0793e8f249d4ab4fc5eff90f00b414525469979"), looks := true }, kinds := [], alts := [], laidByText := true, laidKinds := [.data, .data, .data, .data, .sentinel, .sentinel, .data, .funcs, .funcs, .widerDeep, .pinned], laidTests := true, laidLooks := .later }
def KeepAcceptedUptoCardSaid : Prop := Claim7.holds Tryz.pinned (.plain (OpenSpec.upto keepAcceptedSpec)) keepAcceptedUptoCard
end Rows
end Go.Proofs.YtbjkhnlnedfceaaGreatDoor
