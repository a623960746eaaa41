/-
  DERIVED. GIVEN WITH THE SEED: THE CARDS: each row of YtjaofdfehibjhaaGreatDoorRows.lean that lists a variable, with what it lists TIED to the program's text (the seventh form; the later family's looks); each row that meets fmt, with fmt's text TOLD by the authors' own Lean function (tested against real Go, not proved from fmt's source: count such statements apart). THE CARD IS WHAT COUNTS. Prove the row's statement (the work); the ties are given (YtjaofdfehibjhaaGreatDoorTie.lean); close each card by the builder's one call (the guide's Derived/Test/ToyasCard.lean, 'card_holds'). Laid BY PROGRAM, IN A SANDBOX (cutbox-door.mjs). By AI agents, Wed Nov 11 2026. No macro, syntax, notation, axiom, sorry.
-/
import Derived.Test.YtjaofdfehibjhaaGreatDoorRows
import GoSem.ClaimSeven
namespace Go.Proofs.YtjaofdfehibjhaaGreatDoor
namespace Rows

/-- THE TIED CARD OF 'laws.FnStrategies'. -/
def fnStrategiesCard : Claim7 := { stood := { row := fnStrategiesRow, standIns := [], harness := (true, "f6d6a0743b7897703441fa2643874f4d7ab8eac165f6f73038d87d36d6162485"), looks := true }, kinds := [], alts := [], laidByText := true, laidKinds := [.data, .data, .data], laidTests := true, laidLooks := .later }
def FnStrategiesCardSaid : Prop := Claim7.holds Tryz.pinned (.plain (OpenSpec.ofChange fnStrategiesSpec)) fnStrategiesCard

/-- THE SECOND FORM's CARD OF 'laws.FnStrategies'. -/
def fnStrategiesUptoCard : Claim7 := { stood := { row := fnStrategiesUptoRow, standIns := [], harness := (true, "f6d6a0743b7897703441fa2643874f4d7ab8eac165f6f73038d87d36d6162485"), looks := true }, kinds := [], alts := [], laidByText := true, laidKinds := [.data, .data, .data], laidTests := true, laidLooks := .later }
def FnStrategiesUptoCardSaid : Prop := Claim7.holds Tryz.pinned (.plain (OpenSpec.upto fnStrategiesSpec)) fnStrategiesUptoCard
end Rows
end Go.Proofs.YtjaofdfehibjhaaGreatDoor
