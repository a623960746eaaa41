/-
  DERIVED. GIVEN WITH THE SEED: THE CARDS: each row of YtlnbbhaclhpjjaaDoorRows.lean that lists a variable, with what it lists TIED to the program's text (the seventh form; the later family's looks); each row that meets fmt, with fmt's text TOLD by the authors' own Lean function (tested against real Go, not proved from fmt's source: count such statements apart). THE CARD IS WHAT COUNTS. Prove the row's statement (the work); the ties are given (YtlnbbhaclhpjjaaDoorTie.lean); close each card by the builder's one call (the guide's Derived/Test/ToyasCard.lean, 'card_holds'). Laid BY PROGRAM, IN A SANDBOX (cutbox-door.mjs). By AI agents, Wed Nov 11 2026. No macro, syntax, notation, axiom, sorry.
-/
import Derived.Test.YtlnbbhaclhpjjaaDoorRows
import GoSem.ClaimSeven
namespace Go.Proofs.YtlnbbhaclhpjjaaDoor
namespace Rows

/-- THE TIED CARD OF 'laws.FnExactFormatEntry'. -/
def fnExactFormatEntryCard : Claim7 := { stood := { row := fnExactFormatEntryRow, standIns := [], harness := (true, "9225c3820229fb8c67b08a4241ab4f595cad25dd3aa8d7d430d2cea8dfa6bc6a"), looks := true }, kinds := [], alts := [], laidByText := true, laidKinds := [.data, .data, .data], laidTests := true, laidLooks := .later }
def FnExactFormatEntryCardSaid : Prop := Claim7.holds Tryd.pinned (.plain (OpenSpec.ofChange fnExactFormatEntrySpec)) fnExactFormatEntryCard

/-- THE TIED CARD OF 'laws.FnExactDeskLine'. -/
def fnExactDeskLineCard : Claim7 := { stood := { row := fnExactDeskLineRow, standIns := [], harness := (true, "9225c3820229fb8c67b08a4241ab4f595cad25dd3aa8d7d430d2cea8dfa6bc6a"), looks := true }, kinds := [], alts := [], laidByText := true, laidKinds := [.data, .data, .data], laidTests := true, laidLooks := .later }
def FnExactDeskLineCardSaid : Prop := Claim7.holds Tryd.pinned (.plain (OpenSpec.ofChange fnExactDeskLineSpec)) fnExactDeskLineCard

/-- THE TIED CARD OF 'laws.FnExactFormatShip'. -/
def fnExactFormatShipCard : Claim7 := { stood := { row := fnExactFormatShipRow, standIns := [], harness := (true, "9225c3820229fb8c67b08a4241ab4f595cad25dd3aa8d7d430d2cea8dfa6bc6a"), looks := true }, kinds := [], alts := [], laidByText := true, laidKinds := [.data, .data, .data], laidTests := true, laidLooks := .later }
def FnExactFormatShipCardSaid : Prop := Claim7.holds Tryd.pinned (.plain (OpenSpec.ofChange fnExactFormatShipSpec)) fnExactFormatShipCard

/-- THE TIED CARD OF 'laws.FnExactFormatWindows'. -/
def fnExactFormatWindowsCard : Claim7 := { stood := { row := fnExactFormatWindowsRow, standIns := [], harness := (true, "9225c3820229fb8c67b08a4241ab4f595cad25dd3aa8d7d430d2cea8dfa6bc6a"), looks := true }, kinds := [], alts := [], laidByText := true, laidKinds := [.data, .data, .data], laidTests := true, laidLooks := .later }
def FnExactFormatWindowsCardSaid : Prop := Claim7.holds Tryd.pinned (.plain (OpenSpec.ofChange fnExactFormatWindowsSpec)) fnExactFormatWindowsCard

/-- THE TIED CARD OF 'laws.FnExactJournalText'. -/
def fnExactJournalTextCard : Claim7 := { stood := { row := fnExactJournalTextRow, standIns := [], harness := (true, "9225c3820229fb8c67b08a4241ab4f595cad25dd3aa8d7d430d2cea8dfa6bc6a"), looks := true }, kinds := [], alts := [], laidByText := true, laidKinds := [.data, .data, .data], laidTests := true, laidLooks := .later }
def FnExactJournalTextCardSaid : Prop := Claim7.holds Tryd.pinned (.plain (OpenSpec.ofChange fnExactJournalTextSpec)) fnExactJournalTextCard

/-- THE TIED CARD OF 'laws.FnExactFormatChart'. -/
def fnExactFormatChartCard : Claim7 := { stood := { row := fnExactFormatChartRow, standIns := [], harness := (true, "9225c3820229fb8c67b08a4241ab4f595cad25dd3aa8d7d430d2cea8dfa6bc6a"), looks := true }, kinds := [], alts := [], laidByText := true, laidKinds := [.data, .data, .data], laidTests := true, laidLooks := .later }
def FnExactFormatChartCardSaid : Prop := Claim7.holds Tryd.pinned (.plain (OpenSpec.ofChange fnExactFormatChartSpec)) fnExactFormatChartCard

/-- THE TIED CARD OF 'laws.FnExactFormatPassage'. -/
def fnExactFormatPassageCard : Claim7 := { stood := { row := fnExactFormatPassageRow, standIns := [], harness := (true, "9225c3820229fb8c67b08a4241ab4f595cad25dd3aa8d7d430d2cea8dfa6bc6a"), looks := true }, kinds := [], alts := [], laidByText := true, laidKinds := [.data, .data, .data], laidTests := true, laidLooks := .later }
def FnExactFormatPassageCardSaid : Prop := Claim7.holds Tryd.pinned (.plain (OpenSpec.ofChange fnExactFormatPassageSpec)) fnExactFormatPassageCard

/-- THE TIED CARD OF 'laws.FnExactParseEntry'. -/
def fnExactParseEntryCard : Claim7 := { stood := { row := fnExactParseEntryRow, standIns := [], harness := (true, "9225c3820229fb8c67b08a4241ab4f595cad25dd3aa8d7d430d2cea8dfa6bc6a"), looks := true }, kinds := [], alts := [], laidByText := true, laidKinds := [.data, .data, .data, .sentinel, .sentinel], laidTests := true, laidLooks := .later }
def FnExactParseEntryCardSaid : Prop := Claim7.holds Tryd.pinned (.plain (OpenSpec.ofChange fnExactParseEntrySpec)) fnExactParseEntryCard

/-- THE TIED CARD OF 'laws.FnExactParseShip'. -/
def fnExactParseShipCard : Claim7 := { stood := { row := fnExactParseShipRow, standIns := [], harness := (true, "9225c3820229fb8c67b08a4241ab4f595cad25dd3aa8d7d430d2cea8dfa6bc6a"), looks := true }, kinds := [], alts := [], laidByText := true, laidKinds := [.data, .data, .data, .sentinel, .sentinel], laidTests := true, laidLooks := .later }
def FnExactParseShipCardSaid : Prop := Claim7.holds Tryd.pinned (.plain (OpenSpec.ofChange fnExactParseShipSpec)) fnExactParseShipCard

/-- THE SECOND FORM's CARD OF 'laws.FnExactFormatEntry'. -/
def fnExactFormatEntryUptoCard : Claim7 := { stood := { row := fnExactFormatEntryUptoRow, standIns := [], harness := (true, "9225c3820229fb8c67b08a4241ab4f595cad25dd3aa8d7d430d2cea8dfa6bc6a"), looks := true }, kinds := [], alts := [], laidByText := true, laidKinds := [.data, .data, .data], laidTests := true, laidLooks := .later }
def FnExactFormatEntryUptoCardSaid : Prop := Claim7.holds Tryd.pinned (.plain (OpenSpec.upto fnExactFormatEntrySpec)) fnExactFormatEntryUptoCard

/-- THE SECOND FORM's CARD OF 'laws.FnExactDeskLine'. -/
def fnExactDeskLineUptoCard : Claim7 := { stood := { row := fnExactDeskLineUptoRow, standIns := [], harness := (true, "9225c3820229fb8c67b08a4241ab4f595cad25dd3aa8d7d430d2cea8dfa6bc6a"), looks := true }, kinds := [], alts := [], laidByText := true, laidKinds := [.data, .data, .data], laidTests := true, laidLooks := .later }
def FnExactDeskLineUptoCardSaid : Prop := Claim7.holds Tryd.pinned (.plain (OpenSpec.upto fnExactDeskLineSpec)) fnExactDeskLineUptoCard

/-- THE SECOND FORM's CARD OF 'laws.FnExactFormatShip'. -/
def fnExactFormatShipUptoCard : Claim7 := { stood := { row := fnExactFormatShipUptoRow, standIns := [], harness := (true, "9225c3820229fb8c67b08a4241ab4f595cad25dd3aa8d7d430d2cea8dfa6bc6a"), looks := true }, kinds := [], alts := [], laidByText := true, laidKinds := [.data, .data, .data], laidTests := true, laidLooks := .later }
def FnExactFormatShipUptoCardSaid : Prop := Claim7.holds Tryd.pinned (.plain (OpenSpec.upto fnExactFormatShipSpec)) fnExactFormatShipUptoCard

/-- THE SECOND FORM's CARD OF 'laws.FnExactFormatWindows'. -/
def fnExactFormatWindowsUptoCard : Claim7 := { stood := { row := fnExactFormatWindowsUptoRow, standIns := [], harness := (true, "9225c3820229fb8c67b08a4241ab4f595cad25dd3aa8d7d430d2cea8dfa6bc6a"), looks := true }, kinds := [], alts := [], laidByText := true, laidKinds := [.data, .data, .data], laidTests := true, laidLooks := .later }
def FnExactFormatWindowsUptoCardSaid : Prop := Claim7.holds Tryd.pinned (.plain (OpenSpec.upto fnExactFormatWindowsSpec)) fnExactFormatWindowsUptoCard

/-- THE SECOND FORM's CARD OF 'laws.FnExactJournalText'. -/
def fnExactJournalTextUptoCard : Claim7 := { stood := { row := fnExactJournalTextUptoRow, standIns := [], harness := (true, "9225c3820229fb8c67b08a4241ab4f595cad25dd3aa8d7d430d2cea8dfa6bc6a"), looks := true }, kinds := [], alts := [], laidByText := true, laidKinds := [.data, .data, .data], laidTests := true, laidLooks := .later }
def FnExactJournalTextUptoCardSaid : Prop := Claim7.holds Tryd.pinned (.plain (OpenSpec.upto fnExactJournalTextSpec)) fnExactJournalTextUptoCard

/-- THE SECOND FORM's CARD OF 'laws.FnExactFormatChart'. -/
def fnExactFormatChartUptoCard : Claim7 := { stood := { row := fnExactFormatChartUptoRow, standIns := [], harness := (true, "9225c3820229fb8c67b08a4241ab4f595cad25dd3aa8d7d430d2cea8dfa6bc6a"), looks := true }, kinds := [], alts := [], laidByText := true, laidKinds := [.data, .data, .data], laidTests := true, laidLooks := .later }
def FnExactFormatChartUptoCardSaid : Prop := Claim7.holds Tryd.pinned (.plain (OpenSpec.upto fnExactFormatChartSpec)) fnExactFormatChartUptoCard

/-- THE SECOND FORM's CARD OF 'laws.FnExactFormatPassage'. -/
def fnExactFormatPassageUptoCard : Claim7 := { stood := { row := fnExactFormatPassageUptoRow, standIns := [], harness := (true, "9225c3820229fb8c67b08a4241ab4f595cad25dd3aa8d7d430d2cea8dfa6bc6a"), looks := true }, kinds := [], alts := [], laidByText := true, laidKinds := [.data, .data, .data], laidTests := true, laidLooks := .later }
def FnExactFormatPassageUptoCardSaid : Prop := Claim7.holds Tryd.pinned (.plain (OpenSpec.upto fnExactFormatPassageSpec)) fnExactFormatPassageUptoCard

/-- THE SECOND FORM's CARD OF 'laws.FnExactParseEntry'. -/
def fnExactParseEntryUptoCard : Claim7 := { stood := { row := fnExactParseEntryUptoRow, standIns := [], harness := (true, "9225c3820229fb8c67b08a4241ab4f595cad25dd3aa8d7d430d2cea8dfa6bc6a"), looks := true }, kinds := [], alts := [], laidByText := true, laidKinds := [.data, .data, .data, .sentinel, .sentinel], laidTests := true, laidLooks := .later }
def FnExactParseEntryUptoCardSaid : Prop := Claim7.holds Tryd.pinned (.plain (OpenSpec.upto fnExactParseEntrySpec)) fnExactParseEntryUptoCard

/-- THE SECOND FORM's CARD OF 'laws.FnExactParseShip'. -/
def fnExactParseShipUptoCard : Claim7 := { stood := { row := fnExactParseShipUptoRow, standIns := [], harness := (true, "9225c3820229fb8c67b08a4241ab4f595cad25dd3aa8d7d430d2cea8dfa6bc6a"), looks := true }, kinds := [], alts := [], laidByText := true, laidKinds := [.data, .data, .data, .sentinel, .sentinel], laidTests := true, laidLooks := .later }
def FnExactParseShipUptoCardSaid : Prop := Claim7.holds Tryd.pinned (.plain (OpenSpec.upto fnExactParseShipSpec)) fnExactParseShipUptoCard
end Rows
end Go.Proofs.YtlnbbhaclhpjjaaDoor
