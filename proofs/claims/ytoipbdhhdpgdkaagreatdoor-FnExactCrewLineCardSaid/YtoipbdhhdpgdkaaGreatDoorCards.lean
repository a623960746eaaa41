/-
  DERIVED. GIVEN WITH THE SEED: THE CARDS: each row of YtoipbdhhdpgdkaaGreatDoorRows.lean that lists a variable, with what it lists TIED to the program's text (the seventh form; the later family's looks); each row that meets fmt, with fmt's text TOLD by the authors' own Lean function (tested against real Go, not proved from fmt's source: count such statements apart). THE CARD IS WHAT COUNTS. Prove the row's statement (the work); the ties are given (YtoipbdhhdpgdkaaGreatDoorTie.lean); close each card by the builder's one call (the guide's Derived/Test/ToyasCard.lean, 'card_holds'). Laid BY PROGRAM, IN A SANDBOX (cutbox-door.mjs). By AI agents, Wed Nov 11 2026. No macro, syntax, notation, axiom, sorry.
-/
import Derived.Test.YtoipbdhhdpgdkaaGreatDoorRows
import GoSem.ClaimSeven
namespace Go.Proofs.YtoipbdhhdpgdkaaGreatDoor
namespace Rows

/-- THE TIED CARD OF 'laws.FnExactCrewLine'. -/
def fnExactCrewLineCard : Claim7 := { stood := { row := fnExactCrewLineRow, standIns := [], harness := (true, "64adebeea46e46317d7def9d7d4baf8d7fcf666dbbb804a53e86c2e923c2c882"), looks := true }, kinds := [], alts := [], laidByText := true, laidKinds := [.data, .data, .data], laidTests := true, laidLooks := .later }
def FnExactCrewLineCardSaid : Prop := Claim7.holds Tryz.pinned (.plain (OpenSpec.ofChange fnExactCrewLineSpec)) fnExactCrewLineCard

/-- THE SECOND FORM's CARD OF 'laws.FnExactCrewLine'. -/
def fnExactCrewLineUptoCard : Claim7 := { stood := { row := fnExactCrewLineUptoRow, standIns := [], harness := (true, "64adebeea46e46317d7def9d7d4baf8d7fcf666dbbb804a53e86c2e923c2c882"), looks := true }, kinds := [], alts := [], laidByText := true, laidKinds := [.data, .data, .data], laidTests := true, laidLooks := .later }
def FnExactCrewLineUptoCardSaid : Prop := Claim7.holds Tryz.pinned (.plain (OpenSpec.upto fnExactCrewLineSpec)) fnExactCrewLineUptoCard
end Rows
end Go.Proofs.YtoipbdhhdpgdkaaGreatDoor
