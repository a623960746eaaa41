/-
  DERIVED. GIVEN WITH THE SEED: THE CARDS: each row of YthkepjhahmknfaaGreatDoorRows.lean that lists a variable, with what it lists TIED to the program's text (the seventh form; the later family's looks); each row that meets fmt, with fmt's text TOLD by the authors' own Lean function (tested against real Go, not proved from fmt's source: count such statements apart). THE CARD IS WHAT COUNTS. Prove the row's statement (the work); the ties are given (YthkepjhahmknfaaGreatDoorTie.lean); close each card by the builder's one call (the guide's Derived/Test/ToyasCard.lean, 'card_holds'). Laid BY PROGRAM, IN A SANDBOX (cutbox-door.mjs). By AI agents, Wed Nov 11 2026. No macro, syntax, notation, axiom, sorry.
-/
import Derived.Test.YthkepjhahmknfaaGreatDoorRows
import GoSem.ClaimSeven
namespace Go.Proofs.YthkepjhahmknfaaGreatDoor
namespace Rows

/-- THE TIED CARD OF 'laws.FnExactPlanLines'. -/
def fnExactPlanLinesCard : Claim7 := { stood := { row := fnExactPlanLinesRow, standIns := [], harness := (true, "7141b2001a5c4aab36133da7171bc8b36dc2b792625fd4c6c0d92dd8cbc53dee"), looks := true }, kinds := [], alts := [], laidByText := true, laidKinds := [.data, .data, .data], laidTests := true, laidLooks := .later }
def FnExactPlanLinesCardSaid : Prop := Claim7.holds Tryz.pinned (.plain (OpenSpec.ofChange fnExactPlanLinesSpec)) fnExactPlanLinesCard

/-- THE SECOND FORM's CARD OF 'laws.FnExactPlanLines'. -/
def fnExactPlanLinesUptoCard : Claim7 := { stood := { row := fnExactPlanLinesUptoRow, standIns := [], harness := (true, "7141b2001a5c4aab36133da7171bc8b36dc2b792625fd4c6c0d92dd8cbc53dee"), looks := true }, kinds := [], alts := [], laidByText := true, laidKinds := [.data, .data, .data], laidTests := true, laidLooks := .later }
def FnExactPlanLinesUptoCardSaid : Prop := Claim7.holds Tryz.pinned (.plain (OpenSpec.upto fnExactPlanLinesSpec)) fnExactPlanLinesUptoCard
end Rows
end Go.Proofs.YthkepjhahmknfaaGreatDoor
