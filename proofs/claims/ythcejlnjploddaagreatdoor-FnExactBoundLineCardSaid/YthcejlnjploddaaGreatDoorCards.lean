/-
  DERIVED. GIVEN WITH THE SEED: THE CARDS: each row of YthcejlnjploddaaGreatDoorRows.lean that lists a variable, with what it lists TIED to the program's text (the seventh form; the later family's looks); each row that meets fmt, with fmt's text TOLD by the authors' own Lean function (tested against real Go, not proved from fmt's source: count such statements apart). THE CARD IS WHAT COUNTS. Prove the row's statement (the work); the ties are given (YthcejlnjploddaaGreatDoorTie.lean); close each card by the builder's one call (the guide's Derived/Test/ToyasCard.lean, 'card_holds'). Laid BY PROGRAM, IN A SANDBOX (cutbox-door.mjs). By AI agents, Wed Nov 11 2026. No macro, syntax, notation, axiom, sorry.
-/
import Derived.Test.YthcejlnjploddaaGreatDoorRows
import GoSem.ClaimSeven
namespace Go.Proofs.YthcejlnjploddaaGreatDoor
namespace Rows

/-- THE TIED CARD OF 'laws.FnExactBoundLine'. -/
def fnExactBoundLineCard : Claim7 := { stood := { row := fnExactBoundLineRow, standIns := [], harness := (true, "2d2fb6dcd1ec41630f63b0544fd16a268ff81ba84145862456eaa37fb93dd502"), looks := true }, kinds := [], alts := [], laidByText := true, laidKinds := [.data, .data, .data], laidTests := true, laidLooks := .later }
def FnExactBoundLineCardSaid : Prop := Claim7.holds Tryz.pinned (.plain (OpenSpec.ofChange fnExactBoundLineSpec)) fnExactBoundLineCard

/-- THE SECOND FORM's CARD OF 'laws.FnExactBoundLine'. -/
def fnExactBoundLineUptoCard : Claim7 := { stood := { row := fnExactBoundLineUptoRow, standIns := [], harness := (true, "2d2fb6dcd1ec41630f63b0544fd16a268ff81ba84145862456eaa37fb93dd502"), looks := true }, kinds := [], alts := [], laidByText := true, laidKinds := [.data, .data, .data], laidTests := true, laidLooks := .later }
def FnExactBoundLineUptoCardSaid : Prop := Claim7.holds Tryz.pinned (.plain (OpenSpec.upto fnExactBoundLineSpec)) fnExactBoundLineUptoCard
end Rows
end Go.Proofs.YthcejlnjploddaaGreatDoor
