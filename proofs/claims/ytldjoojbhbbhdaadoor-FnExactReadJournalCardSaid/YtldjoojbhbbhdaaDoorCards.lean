/-
  DERIVED. GIVEN WITH THE SEED: THE CARDS: each row of YtldjoojbhbbhdaaDoorRows.lean that lists a variable, with what it lists TIED to the program's text (the seventh form; the later family's looks); each row that meets fmt, with fmt's text TOLD by the authors' own Lean function (tested against real Go, not proved from fmt's source: count such statements apart). THE CARD IS WHAT COUNTS. Prove the row's statement (the work); the ties are given (YtldjoojbhbbhdaaDoorTie.lean); close each card by the builder's one call (the guide's Derived/Test/ToyasCard.lean, 'card_holds'). Laid BY PROGRAM, IN A SANDBOX (cutbox-door.mjs). By AI agents, Wed Nov 11 2026. No macro, syntax, notation, axiom, sorry.
-/
import Derived.Test.YtldjoojbhbbhdaaDoorRows
import GoSem.ClaimSeven
namespace Go.Proofs.YtldjoojbhbbhdaaDoor
namespace Rows

/-- THE TIED CARD OF 'laws.FnExactParseWindows'. -/
def fnExactParseWindowsCard : Claim7 := { stood := { row := fnExactParseWindowsRow, standIns := [], harness := (true, "54a894b565f15aaa329dc9838c30f751f55e641143079dd3fa050c26dbf46a39"), looks := true }, kinds := [], alts := [], laidByText := true, laidKinds := [.data, .data, .data, .sentinel, .sentinel], laidTests := true, laidLooks := .later }
def FnExactParseWindowsCardSaid : Prop := Claim7.holds Tryd.pinned (.plain (OpenSpec.ofChange fnExactParseWindowsSpec)) fnExactParseWindowsCard

/-- THE TIED CARD OF 'laws.FnExactReadJournal'. -/
def fnExactReadJournalCard : Claim7 := { stood := { row := fnExactReadJournalRow, standIns := [], harness := (true, "54a894b565f15aaa329dc9838c30f751f55e641143079dd3fa050c26dbf46a39"), looks := true }, kinds := [], alts := [], laidByText := true, laidKinds := [.data, .data, .data, .handle, .sentinel, .sentinel], laidTests := true, laidLooks := .later }
def FnExactReadJournalCardSaid : Prop := Claim7.holds Tryd.pinned (.plain (OpenSpec.ofChange fnExactReadJournalSpec)) fnExactReadJournalCard

/-- THE TIED CARD OF 'laws.FnExactParseChart'. -/
def fnExactParseChartCard : Claim7 := { stood := { row := fnExactParseChartRow, standIns := [], harness := (true, "54a894b565f15aaa329dc9838c30f751f55e641143079dd3fa050c26dbf46a39"), looks := true }, kinds := [], alts := [], laidByText := true, laidKinds := [.data, .data, .data, .sentinel, .sentinel], laidTests := true, laidLooks := .later }
def FnExactParseChartCardSaid : Prop := Claim7.holds Tryd.pinned (.plain (OpenSpec.ofChange fnExactParseChartSpec)) fnExactParseChartCard

/-- THE SECOND FORM's CARD OF 'laws.FnExactParseWindows'. -/
def fnExactParseWindowsUptoCard : Claim7 := { stood := { row := fnExactParseWindowsUptoRow, standIns := [], harness := (true, "54a894b565f15aaa329dc9838c30f751f55e641143079dd3fa050c26dbf46a39"), looks := true }, kinds := [], alts := [], laidByText := true, laidKinds := [.data, .data, .data, .sentinel, .sentinel], laidTests := true, laidLooks := .later }
def FnExactParseWindowsUptoCardSaid : Prop := Claim7.holds Tryd.pinned (.plain (OpenSpec.upto fnExactParseWindowsSpec)) fnExactParseWindowsUptoCard

/-- THE SECOND FORM's CARD OF 'laws.FnExactReadJournal'. -/
def fnExactReadJournalUptoCard : Claim7 := { stood := { row := fnExactReadJournalUptoRow, standIns := [], harness := (true, "54a894b565f15aaa329dc9838c30f751f55e641143079dd3fa050c26dbf46a39"), looks := true }, kinds := [], alts := [], laidByText := true, laidKinds := [.data, .data, .data, .handle, .sentinel, .sentinel], laidTests := true, laidLooks := .later }
def FnExactReadJournalUptoCardSaid : Prop := Claim7.holds Tryd.pinned (.plain (OpenSpec.upto fnExactReadJournalSpec)) fnExactReadJournalUptoCard

/-- THE SECOND FORM's CARD OF 'laws.FnExactParseChart'. -/
def fnExactParseChartUptoCard : Claim7 := { stood := { row := fnExactParseChartUptoRow, standIns := [], harness := (true, "54a894b565f15aaa329dc9838c30f751f55e641143079dd3fa050c26dbf46a39"), looks := true }, kinds := [], alts := [], laidByText := true, laidKinds := [.data, .data, .data, .sentinel, .sentinel], laidTests := true, laidLooks := .later }
def FnExactParseChartUptoCardSaid : Prop := Claim7.holds Tryd.pinned (.plain (OpenSpec.upto fnExactParseChartSpec)) fnExactParseChartUptoCard
end Rows
end Go.Proofs.YtldjoojbhbbhdaaDoor
