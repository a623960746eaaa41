/-
  DERIVED. GIVEN WITH THE SEED: THE CARDS: each row of YtldjoojbhbbhdaaGreatDoorRows.lean that lists a variable, with what it lists TIED to the program's text (the seventh form; the later family's looks); each row that meets fmt, with fmt's text TOLD by the authors' own Lean function (tested against real Go, not proved from fmt's source: count such statements apart). THE CARD IS WHAT COUNTS. Prove the row's statement (the work); the ties are given (YtldjoojbhbbhdaaGreatDoorTie.lean); close each card by the builder's one call (the guide's Derived/Test/ToyasCard.lean, 'card_holds'). Laid BY PROGRAM, IN A SANDBOX (cutbox-door.mjs). By AI agents, Wed Nov 11 2026. No macro, syntax, notation, axiom, sorry.
-/
import Derived.Test.YtldjoojbhbbhdaaGreatDoorRows
import GoSem.ClaimSeven
namespace Go.Proofs.YtldjoojbhbbhdaaGreatDoor
namespace Rows

/-- THE TIED CARD OF 'laws.FnExactRebuildDesk'. -/
def fnExactRebuildDeskCard : Claim7 := { stood := { row := fnExactRebuildDeskRow, standIns := [], harness := (true, "488a8445a7669ca2714401dc6c7dde678fec265557708ba38c19f9341a74a8e3"), looks := true }, kinds := [], alts := [], laidByText := true, laidKinds := [.data, .data, .data, .handle, .sentinel, .sentinel], laidTests := true, laidLooks := .later }
def FnExactRebuildDeskCardSaid : Prop := Claim7.holds Tryz.pinned (.plain (OpenSpec.ofChange fnExactRebuildDeskSpec)) fnExactRebuildDeskCard

/-- THE TIED CARD OF 'laws.FnExactSureLines'. -/
def fnExactSureLinesCard : Claim7 := { stood := { row := fnExactSureLinesRow, standIns := [], harness := (true, "488a8445a7669ca2714401dc6c7dde678fec265557708ba38c19f9341a74a8e3"), looks := true }, kinds := [], alts := [], laidByText := true, laidKinds := [.data, .data, .data], laidTests := true, laidLooks := .later }
def FnExactSureLinesCardSaid : Prop := Claim7.holds Tryz.pinned (.plain (OpenSpec.ofChange fnExactSureLinesSpec)) fnExactSureLinesCard

/-- THE SECOND FORM's CARD OF 'laws.FnExactRebuildDesk'. -/
def fnExactRebuildDeskUptoCard : Claim7 := { stood := { row := fnExactRebuildDeskUptoRow, standIns := [], harness := (true, "488a8445a7669ca2714401dc6c7dde678fec265557708ba38c19f9341a74a8e3"), looks := true }, kinds := [], alts := [], laidByText := true, laidKinds := [.data, .data, .data, .handle, .sentinel, .sentinel], laidTests := true, laidLooks := .later }
def FnExactRebuildDeskUptoCardSaid : Prop := Claim7.holds Tryz.pinned (.plain (OpenSpec.upto fnExactRebuildDeskSpec)) fnExactRebuildDeskUptoCard

/-- THE SECOND FORM's CARD OF 'laws.FnExactSureLines'. -/
def fnExactSureLinesUptoCard : Claim7 := { stood := { row := fnExactSureLinesUptoRow, standIns := [], harness := (true, "488a8445a7669ca2714401dc6c7dde678fec265557708ba38c19f9341a74a8e3"), looks := true }, kinds := [], alts := [], laidByText := true, laidKinds := [.data, .data, .data], laidTests := true, laidLooks := .later }
def FnExactSureLinesUptoCardSaid : Prop := Claim7.holds Tryz.pinned (.plain (OpenSpec.upto fnExactSureLinesSpec)) fnExactSureLinesUptoCard
end Rows
end Go.Proofs.YtldjoojbhbbhdaaGreatDoor
