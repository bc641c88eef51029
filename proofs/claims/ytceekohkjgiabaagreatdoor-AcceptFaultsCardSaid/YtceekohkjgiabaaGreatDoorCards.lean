/-
  DERIVED. GIVEN WITH THE SEED: THE CARDS: each row of YtceekohkjgiabaaGreatDoorRows.lean that lists a variable, with what it lists TIED to the program's text (the seventh form; the later family's looks); each row that meets fmt, with fmt's text TOLD by the authors' own Lean function (tested against real Go, not proved from fmt's source: count such statements apart). THE CARD IS WHAT COUNTS. Prove the row's statement (the work); the ties are given (YtceekohkjgiabaaGreatDoorTie.lean); close each card by the builder's one call (the guide's Derived/Test/ToyasCard.lean, 'card_holds'). Laid BY PROGRAM, IN A SANDBOX (cutbox-door.mjs). By AI agents, Wed Nov 11 2026. No macro, syntax, notation, axiom, sorry.
-/
import Derived.Test.YtceekohkjgiabaaGreatDoorRows
import GoSem.ClaimSeven
namespace Go.Proofs.YtceekohkjgiabaaGreatDoor
namespace Rows

/-- THE TIED CARD OF 'analemmalaw25.AcceptFaults'. -/
def acceptFaultsCard : Claim7 := { stood := { row := acceptFaultsRow, standIns := [], harness := (true, "c8090291b676921ad00555f839ac2cd77d573fc3ccd332e52a7597bb079c677e"), looks := true }, kinds := [], alts := [], laidByText := true, laidKinds := [.data, .data, .data, .data, .sentinel, .sentinel, .data, .funcs, .funcs, .widerDeep, .pinned], laidTests := true, laidLooks := .later }
def AcceptFaultsCardSaid : Prop := Claim7.holds Tryz.pinned (.plain (OpenSpec.ofChange acceptFaultsSpec)) acceptFaultsCard

/-- THE SECOND FORM's CARD OF 'analemmalaw25.AcceptFaults'. -/
def acceptFaultsUptoCard : Claim7 := { stood := { row := acceptFaultsUptoRow, standIns := [], harness := (true, "c8090291b676921ad00555f839ac2cd77d573fc3ccd332e52a7597bb079c677e"), looks := true }, kinds := [], alts := [], laidByText := true, laidKinds := [.data, .data, .data, .data, .sentinel, .sentinel, .data, .funcs, .funcs, .widerDeep, .pinned], laidTests := true, laidLooks := .later }
def AcceptFaultsUptoCardSaid : Prop := Claim7.holds Tryz.pinned (.plain (OpenSpec.upto acceptFaultsSpec)) acceptFaultsUptoCard
end Rows
end Go.Proofs.YtceekohkjgiabaaGreatDoor
