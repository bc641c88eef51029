/-
  DERIVED. GIVEN WITH THE SEED: THE CARDS: each row of YtonjepladadmhaaGreatDoorRows.lean that lists a variable, with what it lists TIED to the program's text (the seventh form; the later family's looks); each row that meets fmt, with fmt's text TOLD by the authors' own Lean function (tested against real Go, not proved from fmt's source: count such statements apart). THE CARD IS WHAT COUNTS. Prove the row's statement (the work); the ties are given (YtonjepladadmhaaGreatDoorTie.lean); close each card by the builder's one call (the guide's Derived/Test/ToyasCard.lean, 'card_holds'). Laid BY PROGRAM, IN A SANDBOX (cutbox-door.mjs). By AI agents, Wed Nov 11 2026. No macro, syntax, notation, axiom, sorry.
-/
import Derived.Test.YtonjepladadmhaaGreatDoorRows
import GoSem.ClaimSeven
namespace Go.Proofs.YtonjepladadmhaaGreatDoor
namespace Rows

/-- THE TIED CARD OF 'analemmalaw38.FooterDates'. -/
def footerDatesCard : Claim7 := { stood := { row := footerDatesRow, standIns := [], harness := (true, "7143ea7a04e8564767e755774745d91ecae7f27fc0907a286c1f2d839165fc56"), looks := true }, kinds := [], alts := [], laidByText := true, laidKinds := [.data, .data, .data, .data, .sentinel, .sentinel, .data, .funcs, .funcs, .funcs, .pinned], laidTests := true, laidLooks := .later }
def FooterDatesCardSaid : Prop := Claim7.holds Tryz.pinned (.plain (OpenSpec.ofChange footerDatesSpec)) footerDatesCard

/-- THE TIED CARD OF 'analemmalaw38.FooterYears'. -/
def footerYearsCard : Claim7 := { stood := { row := footerYearsRow, standIns := [], harness := (true, "7143ea7a04e8564767e755774745d91ecae7f27fc0907a286c1f2d839165fc56"), looks := true }, kinds := [], alts := [], laidByText := true, laidKinds := [.data, .data, .data, .data, .sentinel, .sentinel, .data, .funcs, .funcs, .funcs, .pinned], laidTests := true, laidLooks := .later }
def FooterYearsCardSaid : Prop := Claim7.holds Tryz.pinned (.plain (OpenSpec.ofChange footerYearsSpec)) footerYearsCard

/-- THE TIED CARD OF 'analemmalaw38.FooterRefuses'. -/
def footerRefusesCard : Claim7 := { stood := { row := footerRefusesRow, standIns := [], harness := (true, "7143ea7a04e8564767e755774745d91ecae7f27fc0907a286c1f2d839165fc56"), looks := true }, kinds := [], alts := [], laidByText := true, laidKinds := [.data, .data, .data, .data, .sentinel, .sentinel, .data, .funcs, .funcs, .funcs, .pinned], laidTests := true, laidLooks := .later }
def FooterRefusesCardSaid : Prop := Claim7.holds Tryz.pinned (.plain (OpenSpec.ofChange footerRefusesSpec)) footerRefusesCard

/-- THE TIED CARD OF 'analemmalaw38.FooterEvents'. -/
def footerEventsCard : Claim7 := { stood := { row := footerEventsRow, standIns := [], harness := (true, "7143ea7a04e8564767e755774745d91ecae7f27fc0907a286c1f2d839165fc56"), looks := true }, kinds := [], alts := [], laidByText := true, laidKinds := [.data, .data, .data, .data, .sentinel, .sentinel, .data, .funcs, .funcs, .funcs, .pinned], laidTests := true, laidLooks := .later }
def FooterEventsCardSaid : Prop := Claim7.holds Tryz.pinned (.plain (OpenSpec.ofChange footerEventsSpec)) footerEventsCard

/-- THE TIED CARD OF 'analemmalaw26.MeaningSteps'. -/
def meaningStepsCard : Claim7 := { stood := { row := meaningStepsRow, standIns := [], harness := (true, "7143ea7a04e8564767e755774745d91ecae7f27fc0907a286c1f2d839165fc56"), looks := true }, kinds := [], alts := [], laidByText := true, laidKinds := [.data, .data, .data, .data, .sentinel, .sentinel, .data, .funcs, .funcs, .funcs, .pinned], laidTests := true, laidLooks := .later }
def MeaningStepsCardSaid : Prop := Claim7.holds Tryz.pinned (.plain (OpenSpec.ofChange meaningStepsSpec)) meaningStepsCard

/-- THE TIED CARD OF 'analemmalaw26.MeaningStays'. -/
def meaningStaysCard : Claim7 := { stood := { row := meaningStaysRow, standIns := [], harness := (true, "7143ea7a04e8564767e755774745d91ecae7f27fc0907a286c1f2d839165fc56"), looks := true }, kinds := [], alts := [], laidByText := true, laidKinds := [.data, .data, .data, .data, .sentinel, .sentinel, .data, .funcs, .funcs, .funcs, .pinned], laidTests := true, laidLooks := .later }
def MeaningStaysCardSaid : Prop := Claim7.holds Tryz.pinned (.plain (OpenSpec.ofChange meaningStaysSpec)) meaningStaysCard

/-- THE TIED CARD OF 'analemmalaw26.MeaningRefuses'. -/
def meaningRefusesCard : Claim7 := { stood := { row := meaningRefusesRow, standIns := [], harness := (true, "7143ea7a04e8564767e755774745d91ecae7f27fc0907a286c1f2d839165fc56"), looks := true }, kinds := [], alts := [], laidByText := true, laidKinds := [.data, .data, .data, .data, .sentinel, .sentinel, .data, .funcs, .funcs, .funcs, .pinned], laidTests := true, laidLooks := .later }
def MeaningRefusesCardSaid : Prop := Claim7.holds Tryz.pinned (.plain (OpenSpec.ofChange meaningRefusesSpec)) meaningRefusesCard

/-- THE TIED CARD OF 'analemmalaw26.MeaningFirst'. -/
def meaningFirstCard : Claim7 := { stood := { row := meaningFirstRow, standIns := [], harness := (true, "7143ea7a04e8564767e755774745d91ecae7f27fc0907a286c1f2d839165fc56"), looks := true }, kinds := [], alts := [], laidByText := true, laidKinds := [.data, .data, .data, .data, .sentinel, .sentinel, .data, .funcs, .funcs, .funcs, .pinned], laidTests := true, laidLooks := .later }
def MeaningFirstCardSaid : Prop := Claim7.holds Tryz.pinned (.plain (OpenSpec.ofChange meaningFirstSpec)) meaningFirstCard

/-- THE TIED CARD OF 'analemmalaw26.MeaningSaves'. -/
def meaningSavesCard : Claim7 := { stood := { row := meaningSavesRow, standIns := [], harness := (true, "7143ea7a04e8564767e755774745d91ecae7f27fc0907a286c1f2d839165fc56"), looks := true }, kinds := [], alts := [], laidByText := true, laidKinds := [.data, .data, .data, .data, .sentinel, .sentinel, .data, .funcs, .funcs, .funcs, .pinned], laidTests := true, laidLooks := .later }
def MeaningSavesCardSaid : Prop := Claim7.holds Tryz.pinned (.plain (OpenSpec.ofChange meaningSavesSpec)) meaningSavesCard

/-- THE SECOND FORM's CARD OF 'analemmalaw38.FooterDates'. -/
def footerDatesUptoCard : Claim7 := { stood := { row := footerDatesUptoRow, standIns := [], harness := (true, "7143ea7a04e8564767e755774745d91ecae7f27fc0907a286c1f2d839165fc56"), looks := true }, kinds := [], alts := [], laidByText := true, laidKinds := [.data, .data, .data, .data, .sentinel, .sentinel, .data, .funcs, .funcs, .funcs, .pinned], laidTests := true, laidLooks := .later }
def FooterDatesUptoCardSaid : Prop := Claim7.holds Tryz.pinned (.plain (OpenSpec.upto footerDatesSpec)) footerDatesUptoCard

/-- THE SECOND FORM's CARD OF 'analemmalaw38.FooterYears'. -/
def footerYearsUptoCard : Claim7 := { stood := { row := footerYearsUptoRow, standIns := [], harness := (true, "7143ea7a04e8564767e755774745d91ecae7f27fc0907a286c1f2d839165fc56"), looks := true }, kinds := [], alts := [], laidByText := true, laidKinds := [.data, .data, .data, .data, .sentinel, .sentinel, .data, .funcs, .funcs, .funcs, .pinned], laidTests := true, laidLooks := .later }
def FooterYearsUptoCardSaid : Prop := Claim7.holds Tryz.pinned (.plain (OpenSpec.upto footerYearsSpec)) footerYearsUptoCard

/-- THE SECOND FORM's CARD OF 'analemmalaw38.FooterRefuses'. -/
def footerRefusesUptoCard : Claim7 := { stood := { row := footerRefusesUptoRow, standIns := [], harness := (true, "7143ea7a04e8564767e755774745d91ecae7f27fc0907a286c1f2d839165fc56"), looks := true }, kinds := [], alts := [], laidByText := true, laidKinds := [.data, .data, .data, .data, .sentinel, .sentinel, .data, .funcs, .funcs, .funcs, .pinned], laidTests := true, laidLooks := .later }
def FooterRefusesUptoCardSaid : Prop := Claim7.holds Tryz.pinned (.plain (OpenSpec.upto footerRefusesSpec)) footerRefusesUptoCard

/-- THE SECOND FORM's CARD OF 'analemmalaw38.FooterEvents'. -/
def footerEventsUptoCard : Claim7 := { stood := { row := footerEventsUptoRow, standIns := [], harness := (true, "7143ea7a04e8564767e755774745d91ecae7f27fc0907a286c1f2d839165fc56"), looks := true }, kinds := [], alts := [], laidByText := true, laidKinds := [.data, .data, .data, .data, .sentinel, .sentinel, .data, .funcs, .funcs, .funcs, .pinned], laidTests := true, laidLooks := .later }
def FooterEventsUptoCardSaid : Prop := Claim7.holds Tryz.pinned (.plain (OpenSpec.upto footerEventsSpec)) footerEventsUptoCard

/-- THE SECOND FORM's CARD OF 'analemmalaw26.MeaningSteps'. -/
def meaningStepsUptoCard : Claim7 := { stood := { row := meaningStepsUptoRow, standIns := [], harness := (true, "7143ea7a04e8564767e755774745d91ecae7f27fc0907a286c1f2d839165fc56"), looks := true }, kinds := [], alts := [], laidByText := true, laidKinds := [.data, .data, .data, .data, .sentinel, .sentinel, .data, .funcs, .funcs, .funcs, .pinned], laidTests := true, laidLooks := .later }
def MeaningStepsUptoCardSaid : Prop := Claim7.holds Tryz.pinned (.plain (OpenSpec.upto meaningStepsSpec)) meaningStepsUptoCard

/-- THE SECOND FORM's CARD OF 'analemmalaw26.MeaningStays'. -/
def meaningStaysUptoCard : Claim7 := { stood := { row := meaningStaysUptoRow, standIns := [], harness := (true, "7143ea7a04e8564767e755774745d91ecae7f27fc0907a286c1f2d839165fc56"), looks := true }, kinds := [], alts := [], laidByText := true, laidKinds := [.data, .data, .data, .data, .sentinel, .sentinel, .data, .funcs, .funcs, .funcs, .pinned], laidTests := true, laidLooks := .later }
def MeaningStaysUptoCardSaid : Prop := Claim7.holds Tryz.pinned (.plain (OpenSpec.upto meaningStaysSpec)) meaningStaysUptoCard

/-- THE SECOND FORM's CARD OF 'analemmalaw26.MeaningRefuses'. -/
def meaningRefusesUptoCard : Claim7 := { stood := { row := meaningRefusesUptoRow, standIns := [], harness := (true, "7143ea7a04e8564767e755774745d91ecae7f27fc0907a286c1f2d839165fc56"), looks := true }, kinds := [], alts := [], laidByText := true, laidKinds := [.data, .data, .data, .data, .sentinel, .sentinel, .data, .funcs, .funcs, .funcs, .pinned], laidTests := true, laidLooks := .later }
def MeaningRefusesUptoCardSaid : Prop := Claim7.holds Tryz.pinned (.plain (OpenSpec.upto meaningRefusesSpec)) meaningRefusesUptoCard

/-- THE SECOND FORM's CARD OF 'analemmalaw26.MeaningFirst'. -/
def meaningFirstUptoCard : Claim7 := { stood := { row := meaningFirstUptoRow, standIns := [], harness := (true, "7143ea7a04e8564767e755774745d91ecae7f27fc0907a286c1f2d839165fc56"), looks := true }, kinds := [], alts := [], laidByText := true, laidKinds := [.data, .data, .data, .data, .sentinel, .sentinel, .data, .funcs, .funcs, .funcs, .pinned], laidTests := true, laidLooks := .later }
def MeaningFirstUptoCardSaid : Prop := Claim7.holds Tryz.pinned (.plain (OpenSpec.upto meaningFirstSpec)) meaningFirstUptoCard

/-- THE SECOND FORM's CARD OF 'analemmalaw26.MeaningSaves'. -/
def meaningSavesUptoCard : Claim7 := { stood := { row := meaningSavesUptoRow, standIns := [], harness := (true, "7143ea7a04e8564767e755774745d91ecae7f27fc0907a286c1f2d839165fc56"), looks := true }, kinds := [], alts := [], laidByText := true, laidKinds := [.data, .data, .data, .data, .sentinel, .sentinel, .data, .funcs, .funcs, .funcs, .pinned], laidTests := true, laidLooks := .later }
def MeaningSavesUptoCardSaid : Prop := Claim7.holds Tryz.pinned (.plain (OpenSpec.upto meaningSavesSpec)) meaningSavesUptoCard
end Rows
end Go.Proofs.YtonjepladadmhaaGreatDoor
