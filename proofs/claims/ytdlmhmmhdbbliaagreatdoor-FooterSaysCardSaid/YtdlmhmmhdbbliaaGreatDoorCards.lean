/-
  DERIVED. GIVEN WITH THE SEED: THE CARDS: each row of YtdlmhmmhdbbliaaGreatDoorRows.lean that lists a variable, with what it lists TIED to the program's text (the seventh form; the later family's looks); each row that meets fmt, with fmt's text TOLD by the authors' own Lean function (tested against real Go, not proved from fmt's source: count such statements apart). THE CARD IS WHAT COUNTS. Prove the row's statement (the work); the ties are given (YtdlmhmmhdbbliaaGreatDoorTie.lean); close each card by the builder's one call (the guide's Derived/Test/ToyasCard.lean, 'card_holds'). Laid BY PROGRAM, IN A SANDBOX (cutbox-door.mjs). By AI agents, Wed Nov 11 2026. No macro, syntax, notation, axiom, sorry.
-/
import Derived.Test.YtdlmhmmhdbbliaaGreatDoorRows
import GoSem.ClaimSeven
namespace Go.Proofs.YtdlmhmmhdbbliaaGreatDoor
namespace Rows

/-- THE TIED CARD OF 'analemmalaw38.FooterFar'. -/
def footerFarCard : Claim7 := { stood := { row := footerFarRow, standIns := [], harness := (true, "7d74553a43dc03c478512c6bea16ce338c67dbe607f783aa2dcb45a14c62eba4"), looks := true }, kinds := [], alts := [], laidByText := true, laidKinds := [.data, .data, .data, .data, .sentinel, .sentinel, .data, .funcs, .funcs, .funcs, .funcs, .pinned], laidTests := true, laidLooks := .later }
def FooterFarCardSaid : Prop := Claim7.holds Tryz.pinned (.plain (OpenSpec.ofChange footerFarSpec)) footerFarCard

/-- THE TIED CARD OF 'analemmalaw38.FooterSays'. -/
def footerSaysCard : Claim7 := { stood := { row := footerSaysRow, standIns := [], harness := (true, "7d74553a43dc03c478512c6bea16ce338c67dbe607f783aa2dcb45a14c62eba4"), looks := true }, kinds := [], alts := [], laidByText := true, laidKinds := [.data, .data, .data, .data, .sentinel, .sentinel, .data, .funcs, .data, .funcs, .funcs, .funcs, .pinned], laidTests := true, laidLooks := .later }
def FooterSaysCardSaid : Prop := Claim7.holds Tryz.pinned (.plain (OpenSpec.ofChange footerSaysSpec)) footerSaysCard

/-- THE SECOND FORM's CARD OF 'analemmalaw38.FooterFar'. -/
def footerFarUptoCard : Claim7 := { stood := { row := footerFarUptoRow, standIns := [], harness := (true, "7d74553a43dc03c478512c6bea16ce338c67dbe607f783aa2dcb45a14c62eba4"), looks := true }, kinds := [], alts := [], laidByText := true, laidKinds := [.data, .data, .data, .data, .sentinel, .sentinel, .data, .funcs, .funcs, .funcs, .funcs, .pinned], laidTests := true, laidLooks := .later }
def FooterFarUptoCardSaid : Prop := Claim7.holds Tryz.pinned (.plain (OpenSpec.upto footerFarSpec)) footerFarUptoCard

/-- THE SECOND FORM's CARD OF 'analemmalaw38.FooterSays'. -/
def footerSaysUptoCard : Claim7 := { stood := { row := footerSaysUptoRow, standIns := [], harness := (true, "7d74553a43dc03c478512c6bea16ce338c67dbe607f783aa2dcb45a14c62eba4"), looks := true }, kinds := [], alts := [], laidByText := true, laidKinds := [.data, .data, .data, .data, .sentinel, .sentinel, .data, .funcs, .data, .funcs, .funcs, .funcs, .pinned], laidTests := true, laidLooks := .later }
def FooterSaysUptoCardSaid : Prop := Claim7.holds Tryz.pinned (.plain (OpenSpec.upto footerSaysSpec)) footerSaysUptoCard
end Rows
end Go.Proofs.YtdlmhmmhdbbliaaGreatDoor
