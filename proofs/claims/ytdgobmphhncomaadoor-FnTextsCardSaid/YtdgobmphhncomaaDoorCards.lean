/-
  DERIVED. GIVEN WITH THE SEED: THE CARDS: each row of YtdgobmphhncomaaDoorRows.lean that lists a variable, with what it lists TIED to the program's text (the seventh form; the later family's looks); each row that meets fmt, with fmt's text TOLD by the authors' own Lean function (tested against real Go, not proved from fmt's source: count such statements apart). THE CARD IS WHAT COUNTS. Prove the row's statement (the work); the ties are given (YtdgobmphhncomaaDoorTie.lean); close each card by the builder's one call (the guide's Derived/Test/ToyasCard.lean, 'card_holds'). Laid BY PROGRAM, IN A SANDBOX (cutbox-door.mjs). By AI agents, Wed Nov 11 2026. No macro, syntax, notation, axiom, sorry.
-/
import Derived.Test.YtdgobmphhncomaaDoorRows
import GoSem.ClaimSeven
namespace Go.Proofs.YtdgobmphhncomaaDoor
namespace Rows

/-- THE TIED CARD OF 'laws.FnTexts'. -/
def fnTextsCard : Claim7 := { stood := { row := fnTextsRow, standIns := [], harness := (true, "52cd9dba7ec8fe61de6046ca98b99964baff47b545df909accfcad846baa9725"), looks := true }, kinds := [], alts := [], laidByText := true, laidKinds := [.data, .data, .data, .sentinel, .sentinel], laidTests := true, laidLooks := .later }
def FnTextsCardSaid : Prop := Claim7.holds Tryd.pinned (.plain (OpenSpec.ofChange fnTextsSpec)) fnTextsCard

/-- THE TIED CARD OF 'laws.FnDamaged'. -/
def fnDamagedCard : Claim7 := { stood := { row := fnDamagedRow, standIns := [], harness := (true, "52cd9dba7ec8fe61de6046ca98b99964baff47b545df909accfcad846baa9725"), looks := true }, kinds := [], alts := [], laidByText := true, laidKinds := [.data, .data, .data, .handle, .sentinel, .sentinel], laidTests := true, laidLooks := .later }
def FnDamagedCardSaid : Prop := Claim7.holds Tryd.pinned (.plain (OpenSpec.ofChange fnDamagedSpec)) fnDamagedCard

/-- THE TIED CARD OF 'laws.FnExactStrategyLines'. -/
def fnExactStrategyLinesCard : Claim7 := { stood := { row := fnExactStrategyLinesRow, standIns := [], harness := (true, "52cd9dba7ec8fe61de6046ca98b99964baff47b545df909accfcad846baa9725"), looks := true }, kinds := [], alts := [], laidByText := true, laidKinds := [.data, .data, .data], laidTests := true, laidLooks := .later }
def FnExactStrategyLinesCardSaid : Prop := Claim7.holds Tryd.pinned (.plain (OpenSpec.ofChange fnExactStrategyLinesSpec)) fnExactStrategyLinesCard

/-- THE SECOND FORM's CARD OF 'laws.FnTexts'. -/
def fnTextsUptoCard : Claim7 := { stood := { row := fnTextsUptoRow, standIns := [], harness := (true, "52cd9dba7ec8fe61de6046ca98b99964baff47b545df909accfcad846baa9725"), looks := true }, kinds := [], alts := [], laidByText := true, laidKinds := [.data, .data, .data, .sentinel, .sentinel], laidTests := true, laidLooks := .later }
def FnTextsUptoCardSaid : Prop := Claim7.holds Tryd.pinned (.plain (OpenSpec.upto fnTextsSpec)) fnTextsUptoCard

/-- THE SECOND FORM's CARD OF 'laws.FnDamaged'. -/
def fnDamagedUptoCard : Claim7 := { stood := { row := fnDamagedUptoRow, standIns := [], harness := (true, "52cd9dba7ec8fe61de6046ca98b99964baff47b545df909accfcad846baa9725"), looks := true }, kinds := [], alts := [], laidByText := true, laidKinds := [.data, .data, .data, .handle, .sentinel, .sentinel], laidTests := true, laidLooks := .later }
def FnDamagedUptoCardSaid : Prop := Claim7.holds Tryd.pinned (.plain (OpenSpec.upto fnDamagedSpec)) fnDamagedUptoCard

/-- THE SECOND FORM's CARD OF 'laws.FnExactStrategyLines'. -/
def fnExactStrategyLinesUptoCard : Claim7 := { stood := { row := fnExactStrategyLinesUptoRow, standIns := [], harness := (true, "52cd9dba7ec8fe61de6046ca98b99964baff47b545df909accfcad846baa9725"), looks := true }, kinds := [], alts := [], laidByText := true, laidKinds := [.data, .data, .data], laidTests := true, laidLooks := .later }
def FnExactStrategyLinesUptoCardSaid : Prop := Claim7.holds Tryd.pinned (.plain (OpenSpec.upto fnExactStrategyLinesSpec)) fnExactStrategyLinesUptoCard
end Rows
end Go.Proofs.YtdgobmphhncomaaDoor
