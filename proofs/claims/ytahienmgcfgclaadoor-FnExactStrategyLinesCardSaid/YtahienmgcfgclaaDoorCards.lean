/-
  DERIVED. GIVEN WITH THE SEED: THE CARDS: each row of YtahienmgcfgclaaDoorRows.lean that lists a variable, with what it lists TIED to the program's text (the seventh form; the later family's looks); each row that meets fmt, with fmt's text TOLD by the authors' own Lean function (tested against real Go, not proved from fmt's source: count such statements apart). THE CARD IS WHAT COUNTS. Prove the row's statement (the work); the ties are given (YtahienmgcfgclaaDoorTie.lean); close each card by the builder's one call (the guide's Derived/Test/ToyasCard.lean, 'card_holds'). Laid BY PROGRAM, IN A SANDBOX (cutbox-door.mjs). By AI agents, Wed Nov 11 2026. No macro, syntax, notation, axiom, sorry.
-/
import Derived.Test.YtahienmgcfgclaaDoorRows
import GoSem.ClaimSeven
namespace Go.Proofs.YtahienmgcfgclaaDoor
namespace Rows

/-- THE TIED CARD OF 'laws.FnExactStrategyLines'. -/
def fnExactStrategyLinesCard : Claim7 := { stood := { row := fnExactStrategyLinesRow, standIns := [], harness := (true, "8106d97c7547f2eb334c63c0092086bd04edbfe76ebeea5ce7282fbf41e64b6a"), looks := true }, kinds := [], alts := [], laidByText := true, laidKinds := [.data, .data, .data], laidTests := true, laidLooks := .later }
def FnExactStrategyLinesCardSaid : Prop := Claim7.holds Tryd.pinned (.plain (OpenSpec.ofChange fnExactStrategyLinesSpec)) fnExactStrategyLinesCard

/-- THE SECOND FORM's CARD OF 'laws.FnExactStrategyLines'. -/
def fnExactStrategyLinesUptoCard : Claim7 := { stood := { row := fnExactStrategyLinesUptoRow, standIns := [], harness := (true, "8106d97c7547f2eb334c63c0092086bd04edbfe76ebeea5ce7282fbf41e64b6a"), looks := true }, kinds := [], alts := [], laidByText := true, laidKinds := [.data, .data, .data], laidTests := true, laidLooks := .later }
def FnExactStrategyLinesUptoCardSaid : Prop := Claim7.holds Tryd.pinned (.plain (OpenSpec.upto fnExactStrategyLinesSpec)) fnExactStrategyLinesUptoCard
end Rows
end Go.Proofs.YtahienmgcfgclaaDoor
