/-
  DERIVED. GIVEN WITH THE SEED: THE CARDS: each row of YtdgobmphhncomaaGreatDoorRows.lean that lists a variable, with what it lists TIED to the program's text (the seventh form; the later family's looks); each row that meets fmt, with fmt's text TOLD by the authors' own Lean function (tested against real Go, not proved from fmt's source: count such statements apart). THE CARD IS WHAT COUNTS. Prove the row's statement (the work); the ties are given (YtdgobmphhncomaaGreatDoorTie.lean); close each card by the builder's one call (the guide's Derived/Test/ToyasCard.lean, 'card_holds'). Laid BY PROGRAM, IN A SANDBOX (cutbox-door.mjs). By AI agents, Wed Nov 11 2026. No macro, syntax, notation, axiom, sorry.
-/
import Derived.Test.YtdgobmphhncomaaGreatDoorRows
import GoSem.ClaimSeven
namespace Go.Proofs.YtdgobmphhncomaaGreatDoor
namespace Rows

/-- THE TIED CARD OF 'laws.FnDesks'. -/
def fnDesksCard : Claim7 := { stood := { row := fnDesksRow, standIns := [], harness := (true, "ba4fe5946d9e5d693eb9d3296a2fef6fec0ec1a36a6f5ec7d6f4cbf166b9452c"), looks := true }, kinds := [], alts := [], laidByText := true, laidKinds := [.data, .data, .data, .handle, .sentinel, .sentinel], laidTests := true, laidLooks := .later }
def FnDesksCardSaid : Prop := Claim7.holds Tryz.pinned (.plain (OpenSpec.ofChange fnDesksSpec)) fnDesksCard

/-- THE SECOND FORM's CARD OF 'laws.FnDesks'. -/
def fnDesksUptoCard : Claim7 := { stood := { row := fnDesksUptoRow, standIns := [], harness := (true, "ba4fe5946d9e5d693eb9d3296a2fef6fec0ec1a36a6f5ec7d6f4cbf166b9452c"), looks := true }, kinds := [], alts := [], laidByText := true, laidKinds := [.data, .data, .data, .handle, .sentinel, .sentinel], laidTests := true, laidLooks := .later }
def FnDesksUptoCardSaid : Prop := Claim7.holds Tryz.pinned (.plain (OpenSpec.upto fnDesksSpec)) fnDesksUptoCard
end Rows
end Go.Proofs.YtdgobmphhncomaaGreatDoor
