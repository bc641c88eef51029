/-
  DERIVED. GIVEN WITH THE SEED: THE CARDS: each row of YtbjomhdhkpgbaaaGreatDoorRows.lean that lists a variable, with what it lists TIED to the program's text (the seventh form; the later family's looks); each row that meets fmt, with fmt's text TOLD by the authors' own Lean function (tested against real Go, not proved from fmt's source: count such statements apart). THE CARD IS WHAT COUNTS. Prove the row's statement (the work); the ties are given (YtbjomhdhkpgbaaaGreatDoorTie.lean); close each card by the builder's one call (the guide's Derived/Test/ToyasCard.lean, 'card_holds'). Laid BY PROGRAM, IN A SANDBOX (cutbox-door.mjs). By AI agents, Wed Nov 11 2026. No macro, syntax, notation, axiom, sorry.
-/
import Derived.Test.YtbjomhdhkpgbaaaGreatDoorRows
import GoSem.ClaimSeven
namespace Go.Proofs.YtbjomhdhkpgbaaaGreatDoor
namespace Rows

/-- THE TIED CARD OF 'analemmalaw31.TranslateBack'. -/
def translateBackCard : Claim7 := { stood := { row := translateBackRow, standIns := [], harness := (true, "3d169eba04c2ae9ab9c5e3713ae2372aebf789426dd2a12541f32d536c18ae94"), looks := true }, kinds := [], alts := [], laidByText := true, laidKinds := [.data, .data, .data, .data, .sentinel, .sentinel, .data, .funcs, .funcs, .widerDeep, .pinned], laidTests := true, laidLooks := .later }
def TranslateBackCardSaid : Prop := Claim7.holds Tryz.pinned (.plain (OpenSpec.ofChange translateBackSpec)) translateBackCard

/-- THE TIED CARD OF 'analemmalaw31.TranslateNothing'. -/
def translateNothingCard : Claim7 := { stood := { row := translateNothingRow, standIns := [], harness := (true, "3d169eba04c2ae9ab9c5e3713ae2372aebf789426dd2a12541f32d536c18ae94"), looks := true }, kinds := [], alts := [], laidByText := true, laidKinds := [.data, .data, .data, .data, .sentinel, .sentinel, .data, .funcs, .funcs, .widerDeep, .pinned], laidTests := true, laidLooks := .later }
def TranslateNothingCardSaid : Prop := Claim7.holds Tryz.pinned (.plain (OpenSpec.ofChange translateNothingSpec)) translateNothingCard

/-- THE TIED CARD OF 'analemmalaw31.TranslateRefuses'. -/
def translateRefusesCard : Claim7 := { stood := { row := translateRefusesRow, standIns := [], harness := (true, "3d169eba04c2ae9ab9c5e3713ae2372aebf789426dd2a12541f32d536c18ae94"), looks := true }, kinds := [], alts := [], laidByText := true, laidKinds := [.data, .data, .data, .data, .sentinel, .sentinel, .data, .funcs, .funcs, .widerDeep, .pinned], laidTests := true, laidLooks := .later }
def TranslateRefusesCardSaid : Prop := Claim7.holds Tryz.pinned (.plain (OpenSpec.ofChange translateRefusesSpec)) translateRefusesCard

/-- THE TIED CARD OF 'analemmalaw31.TranslateKeeps'. -/
def translateKeepsCard : Claim7 := { stood := { row := translateKeepsRow, standIns := [], harness := (true, "3d169eba04c2ae9ab9c5e3713ae2372aebf789426dd2a12541f32d536c18ae94"), looks := true }, kinds := [], alts := [], laidByText := true, laidKinds := [.data, .data, .data, .data, .sentinel, .sentinel, .data, .funcs, .funcs, .widerDeep, .pinned], laidTests := true, laidLooks := .later }
def TranslateKeepsCardSaid : Prop := Claim7.holds Tryz.pinned (.plain (OpenSpec.ofChange translateKeepsSpec)) translateKeepsCard

/-- THE TIED CARD OF 'analemmalaw31.TranslateMeans'. -/
def translateMeansCard : Claim7 := { stood := { row := translateMeansRow, standIns := [], harness := (true, "3d169eba04c2ae9ab9c5e3713ae2372aebf789426dd2a12541f32d536c18ae94"), looks := true }, kinds := [], alts := [], laidByText := true, laidKinds := [.data, .data, .data, .data, .sentinel, .sentinel, .data, .funcs, .funcs, .widerDeep, .funcs, .pinned], laidTests := true, laidLooks := .later }
def TranslateMeansCardSaid : Prop := Claim7.holds Tryz.pinned (.plain (OpenSpec.ofChange translateMeansSpec)) translateMeansCard

/-- THE SECOND FORM's CARD OF 'analemmalaw31.TranslateBack'. -/
def translateBackUptoCard : Claim7 := { stood := { row := translateBackUptoRow, standIns := [], harness := (true, "3d169eba04c2ae9ab9c5e3713ae2372aebf789426dd2a12541f32d536c18ae94"), looks := true }, kinds := [], alts := [], laidByText := true, laidKinds := [.data, .data, .data, .data, .sentinel, .sentinel, .data, .funcs, .funcs, .widerDeep, .pinned], laidTests := true, laidLooks := .later }
def TranslateBackUptoCardSaid : Prop := Claim7.holds Tryz.pinned (.plain (OpenSpec.upto translateBackSpec)) translateBackUptoCard

/-- THE SECOND FORM's CARD OF 'analemmalaw31.TranslateNothing'. -/
def translateNothingUptoCard : Claim7 := { stood := { row := translateNothingUptoRow, standIns := [], harness := (true, "3d169eba04c2ae9ab9c5e3713ae2372aebf789426dd2a12541f32d536c18ae94"), looks := true }, kinds := [], alts := [], laidByText := true, laidKinds := [.data, .data, .data, .data, .sentinel, .sentinel, .data, .funcs, .funcs, .widerDeep, .pinned], laidTests := true, laidLooks := .later }
def TranslateNothingUptoCardSaid : Prop := Claim7.holds Tryz.pinned (.plain (OpenSpec.upto translateNothingSpec)) translateNothingUptoCard

/-- THE SECOND FORM's CARD OF 'analemmalaw31.TranslateRefuses'. -/
def translateRefusesUptoCard : Claim7 := { stood := { row := translateRefusesUptoRow, standIns := [], harness := (true, "3d169eba04c2ae9ab9c5e3713ae2372aebf789426dd2a12541f32d536c18ae94"), looks := true }, kinds := [], alts := [], laidByText := true, laidKinds := [.data, .data, .data, .data, .sentinel, .sentinel, .data, .funcs, .funcs, .widerDeep, .pinned], laidTests := true, laidLooks := .later }
def TranslateRefusesUptoCardSaid : Prop := Claim7.holds Tryz.pinned (.plain (OpenSpec.upto translateRefusesSpec)) translateRefusesUptoCard

/-- THE SECOND FORM's CARD OF 'analemmalaw31.TranslateKeeps'. -/
def translateKeepsUptoCard : Claim7 := { stood := { row := translateKeepsUptoRow, standIns := [], harness := (true, "3d169eba04c2ae9ab9c5e3713ae2372aebf789426dd2a12541f32d536c18ae94"), looks := true }, kinds := [], alts := [], laidByText := true, laidKinds := [.data, .data, .data, .data, .sentinel, .sentinel, .data, .funcs, .funcs, .widerDeep, .pinned], laidTests := true, laidLooks := .later }
def TranslateKeepsUptoCardSaid : Prop := Claim7.holds Tryz.pinned (.plain (OpenSpec.upto translateKeepsSpec)) translateKeepsUptoCard

/-- THE SECOND FORM's CARD OF 'analemmalaw31.TranslateMeans'. -/
def translateMeansUptoCard : Claim7 := { stood := { row := translateMeansUptoRow, standIns := [], harness := (true, "3d169eba04c2ae9ab9c5e3713ae2372aebf789426dd2a12541f32d536c18ae94"), looks := true }, kinds := [], alts := [], laidByText := true, laidKinds := [.data, .data, .data, .data, .sentinel, .sentinel, .data, .funcs, .funcs, .widerDeep, .funcs, .pinned], laidTests := true, laidLooks := .later }
def TranslateMeansUptoCardSaid : Prop := Claim7.holds Tryz.pinned (.plain (OpenSpec.upto translateMeansSpec)) translateMeansUptoCard
end Rows
end Go.Proofs.YtbjomhdhkpgbaaaGreatDoor
