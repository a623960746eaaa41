/-
  No cell of these rows narrows 'for every input' (looked for: loops, veiled, ifaces, maps, wideKeys, modest, calm, conditions, laid).
  DERIVED. THE GIVEN ROWS OF THIS SEAT. 12 by the template 'for every input the law returns true; each argument reads behind the call as it read before'; 0 by the template 'total and deterministic' (their statements: YtnklncheopbfbaaTotals.lean).
  GIVEN WITH THE SEED: the statements are not yours to turn. If you find one false, say at which input.
  Laid BY PROGRAM, IN A SANDBOX (cutbox-rows.mjs): the forced cells as the released guide's own fill.sh prints them over the translation 48d5e23dd0292812… (all of the seat's roots in one cut). By AI agents, Wed Nov 11 2026. No macro, syntax, notation, axiom, sorry.
-/
import Derived.Test.YtnklncheopbfbaaChecked
import GoSem.Claim
import GoSem.ClaimJoined
import GoSem.ClaimMapViews
import Derived.JoinedTies
import Derived.KernelRfl
namespace Go.Proofs.Ytnklncheopbfbaa
/- THE CELL 'sum', in the pinned program and in every row, IS THE sha256 OF THE DUMP (.gsa) THAT YtnklncheopbfbaaProg.lean LOADS. Nothing in Lean hashes anything: it is a label: what it is worth is what the hold of that sum in a sandbox is worth. -/
noncomputable def Try.pinned : Pinned := { name := "ytnklncheopbfbaa", sum := "48d5e23dd02928126b9ba372d1b34964c53a3a6fbd62e84e31bb0bcfb4c84075", checked := Try.checked }
namespace Rows
def none {H : Type} : Left H := { results := [], args := [] }

/-- 'laws.FnExactSumOfText': WHATEVER THE INPUT: true; the input reads as it did. -/
def fnExactSumOfTextSpec : ChangeSpec := { name := "fnExactSumOfText", fn := fun _ => fun
  | [d] => { results := [.lit (.bool true)], args := [d] }
  | _ => none }
def fnExactSumOfTextRow : OpenClaim := { program := "ytnklncheopbfbaa", sum := "48d5e23dd02928126b9ba372d1b34964c53a3a6fbd62e84e31bb0bcfb4c84075", func := "loop.example/g00831/laws.FnExactSumOfText", spec := "fnExactSumOfText", apart := false }
def FnExactSumOfTextSaid : Prop := fnExactSumOfTextRow.holds Try.pinned (OpenSpec.ofChange fnExactSumOfTextSpec)

/-- ITS FALSE NEIGHBOUR: 'it returns false'. Refute it at one input. -/
def fnExactSumOfTextWrong : ChangeSpec := { name := "fnExactSumOfText", fn := fun _ => fun
  | [d] => { results := [.lit (.bool false)], args := [d] }
  | _ => none }
def FnExactSumOfTextWrongFalsely : Prop := fnExactSumOfTextRow.holds Try.pinned (OpenSpec.ofChange fnExactSumOfTextWrong)

/-- 'laws.FnExactPicksOk': WHATEVER THE INPUT: true; the input reads as it did. -/
def fnExactPicksOkSpec : ChangeSpec := { name := "fnExactPicksOk", fn := fun _ => fun
  | [d] => { results := [.lit (.bool true)], args := [d] }
  | _ => none }
def fnExactPicksOkRow : OpenClaim := { program := "ytnklncheopbfbaa", sum := "48d5e23dd02928126b9ba372d1b34964c53a3a6fbd62e84e31bb0bcfb4c84075", func := "loop.example/g00831/laws.FnExactPicksOk", spec := "fnExactPicksOk", apart := false }
def FnExactPicksOkSaid : Prop := fnExactPicksOkRow.holds Try.pinned (OpenSpec.ofChange fnExactPicksOkSpec)

/-- ITS FALSE NEIGHBOUR: 'it returns false'. Refute it at one input. -/
def fnExactPicksOkWrong : ChangeSpec := { name := "fnExactPicksOk", fn := fun _ => fun
  | [d] => { results := [.lit (.bool false)], args := [d] }
  | _ => none }
def FnExactPicksOkWrongFalsely : Prop := fnExactPicksOkRow.holds Try.pinned (OpenSpec.ofChange fnExactPicksOkWrong)

/-- 'laws.FnExactSaferPicks': WHATEVER THE INPUT: true; the input reads as it did. -/
def fnExactSaferPicksSpec : ChangeSpec := { name := "fnExactSaferPicks", fn := fun _ => fun
  | [d1, d2] => { results := [.lit (.bool true)], args := [d1, d2] }
  | _ => none }
def fnExactSaferPicksRow : OpenClaim := { program := "ytnklncheopbfbaa", sum := "48d5e23dd02928126b9ba372d1b34964c53a3a6fbd62e84e31bb0bcfb4c84075", func := "loop.example/g00831/laws.FnExactSaferPicks", spec := "fnExactSaferPicks", apart := false }
def FnExactSaferPicksSaid : Prop := fnExactSaferPicksRow.holds Try.pinned (OpenSpec.ofChange fnExactSaferPicksSpec)

/-- ITS FALSE NEIGHBOUR: 'it returns false'. Refute it at one input. -/
def fnExactSaferPicksWrong : ChangeSpec := { name := "fnExactSaferPicks", fn := fun _ => fun
  | [d1, d2] => { results := [.lit (.bool false)], args := [d1, d2] }
  | _ => none }
def FnExactSaferPicksWrongFalsely : Prop := fnExactSaferPicksRow.holds Try.pinned (OpenSpec.ofChange fnExactSaferPicksWrong)

/-- 'laws.FnExactAccountOk': WHATEVER THE INPUT: true; the input reads as it did. -/
def fnExactAccountOkSpec : ChangeSpec := { name := "fnExactAccountOk", fn := fun _ => fun
  | [d] => { results := [.lit (.bool true)], args := [d] }
  | _ => none }
def fnExactAccountOkRow : OpenClaim := { program := "ytnklncheopbfbaa", sum := "48d5e23dd02928126b9ba372d1b34964c53a3a6fbd62e84e31bb0bcfb4c84075", func := "loop.example/g00831/laws.FnExactAccountOk", spec := "fnExactAccountOk", apart := false }
def FnExactAccountOkSaid : Prop := fnExactAccountOkRow.holds Try.pinned (OpenSpec.ofChange fnExactAccountOkSpec)

/-- ITS FALSE NEIGHBOUR: 'it returns false'. Refute it at one input. -/
def fnExactAccountOkWrong : ChangeSpec := { name := "fnExactAccountOk", fn := fun _ => fun
  | [d] => { results := [.lit (.bool false)], args := [d] }
  | _ => none }
def FnExactAccountOkWrongFalsely : Prop := fnExactAccountOkRow.holds Try.pinned (OpenSpec.ofChange fnExactAccountOkWrong)

/-- 'laws.FnExactHitsClosure': WHATEVER THE INPUT: true; the input reads as it did. -/
def fnExactHitsClosureSpec : ChangeSpec := { name := "fnExactHitsClosure", fn := fun _ => fun
  | [d1, d2] => { results := [.lit (.bool true)], args := [d1, d2] }
  | _ => none }
def fnExactHitsClosureRow : OpenClaim := { program := "ytnklncheopbfbaa", sum := "48d5e23dd02928126b9ba372d1b34964c53a3a6fbd62e84e31bb0bcfb4c84075", func := "loop.example/g00831/laws.FnExactHitsClosure", spec := "fnExactHitsClosure", unfollowed := true, recurses := true, apart := false }
def FnExactHitsClosureSaid : Prop := fnExactHitsClosureRow.holds Try.pinned (OpenSpec.ofChange fnExactHitsClosureSpec)

/-- ITS FALSE NEIGHBOUR: 'it returns false'. Refute it at one input. -/
def fnExactHitsClosureWrong : ChangeSpec := { name := "fnExactHitsClosure", fn := fun _ => fun
  | [d1, d2] => { results := [.lit (.bool false)], args := [d1, d2] }
  | _ => none }
def FnExactHitsClosureWrongFalsely : Prop := fnExactHitsClosureRow.holds Try.pinned (OpenSpec.ofChange fnExactHitsClosureWrong)

/-- 'laws.FnExactDeskOk': WHATEVER THE INPUT: true; the input reads as it did. -/
def fnExactDeskOkSpec : ChangeSpec := { name := "fnExactDeskOk", fn := fun _ => fun
  | [d] => { results := [.lit (.bool true)], args := [d] }
  | _ => none }
def fnExactDeskOkRow : OpenClaim := { program := "ytnklncheopbfbaa", sum := "48d5e23dd02928126b9ba372d1b34964c53a3a6fbd62e84e31bb0bcfb4c84075", func := "loop.example/g00831/laws.FnExactDeskOk", spec := "fnExactDeskOk", apart := false }
def FnExactDeskOkSaid : Prop := fnExactDeskOkRow.holds Try.pinned (OpenSpec.ofChange fnExactDeskOkSpec)

/-- ITS FALSE NEIGHBOUR: 'it returns false'. Refute it at one input. -/
def fnExactDeskOkWrong : ChangeSpec := { name := "fnExactDeskOk", fn := fun _ => fun
  | [d] => { results := [.lit (.bool false)], args := [d] }
  | _ => none }
def FnExactDeskOkWrongFalsely : Prop := fnExactDeskOkRow.holds Try.pinned (OpenSpec.ofChange fnExactDeskOkWrong)

/-- 'laws.FnExactDeskNew': WHATEVER THE INPUT: true; the input reads as it did. -/
def fnExactDeskNewSpec : ChangeSpec := { name := "fnExactDeskNew", fn := fun _ => fun
  | [d] => { results := [.lit (.bool true)], args := [d] }
  | _ => none }
def fnExactDeskNewRow : OpenClaim := { program := "ytnklncheopbfbaa", sum := "48d5e23dd02928126b9ba372d1b34964c53a3a6fbd62e84e31bb0bcfb4c84075", func := "loop.example/g00831/laws.FnExactDeskNew", spec := "fnExactDeskNew", apart := false }
def FnExactDeskNewSaid : Prop := fnExactDeskNewRow.holds Try.pinned (OpenSpec.ofChange fnExactDeskNewSpec)

/-- ITS FALSE NEIGHBOUR: 'it returns false'. Refute it at one input. -/
def fnExactDeskNewWrong : ChangeSpec := { name := "fnExactDeskNew", fn := fun _ => fun
  | [d] => { results := [.lit (.bool false)], args := [d] }
  | _ => none }
def FnExactDeskNewWrongFalsely : Prop := fnExactDeskNewRow.holds Try.pinned (OpenSpec.ofChange fnExactDeskNewWrong)

/-- 'laws.FnExactSameDesks': WHATEVER THE INPUT: true; the input reads as it did. -/
def fnExactSameDesksSpec : ChangeSpec := { name := "fnExactSameDesks", fn := fun _ => fun
  | [d1, d2] => { results := [.lit (.bool true)], args := [d1, d2] }
  | _ => none }
def fnExactSameDesksRow : OpenClaim := { program := "ytnklncheopbfbaa", sum := "48d5e23dd02928126b9ba372d1b34964c53a3a6fbd62e84e31bb0bcfb4c84075", func := "loop.example/g00831/laws.FnExactSameDesks", spec := "fnExactSameDesks", apart := false }
def FnExactSameDesksSaid : Prop := fnExactSameDesksRow.holds Try.pinned (OpenSpec.ofChange fnExactSameDesksSpec)

/-- ITS FALSE NEIGHBOUR: 'it returns false'. Refute it at one input. -/
def fnExactSameDesksWrong : ChangeSpec := { name := "fnExactSameDesks", fn := fun _ => fun
  | [d1, d2] => { results := [.lit (.bool false)], args := [d1, d2] }
  | _ => none }
def FnExactSameDesksWrongFalsely : Prop := fnExactSameDesksRow.holds Try.pinned (OpenSpec.ofChange fnExactSameDesksWrong)

/-- 'laws.FnExactWorstLine': WHATEVER THE INPUT: true; the input reads as it did. -/
def fnExactWorstLineSpec : ChangeSpec := { name := "fnExactWorstLine", fn := fun _ => fun
  | [d] => { results := [.lit (.bool true)], args := [d] }
  | _ => none }
def fnExactWorstLineRow : OpenClaim := { program := "ytnklncheopbfbaa", sum := "48d5e23dd02928126b9ba372d1b34964c53a3a6fbd62e84e31bb0bcfb4c84075", func := "loop.example/g00831/laws.FnExactWorstLine", spec := "fnExactWorstLine", apart := false }
def FnExactWorstLineSaid : Prop := fnExactWorstLineRow.holds Try.pinned (OpenSpec.ofChange fnExactWorstLineSpec)

/-- ITS FALSE NEIGHBOUR: 'it returns false'. Refute it at one input. -/
def fnExactWorstLineWrong : ChangeSpec := { name := "fnExactWorstLine", fn := fun _ => fun
  | [d] => { results := [.lit (.bool false)], args := [d] }
  | _ => none }
def FnExactWorstLineWrongFalsely : Prop := fnExactWorstLineRow.holds Try.pinned (OpenSpec.ofChange fnExactWorstLineWrong)

/-- 'laws.FnExactSpreadOf': WHATEVER THE INPUT: true; the input reads as it did. -/
def fnExactSpreadOfSpec : ChangeSpec := { name := "fnExactSpreadOf", fn := fun _ => fun
  | [d] => { results := [.lit (.bool true)], args := [d] }
  | _ => none }
def fnExactSpreadOfRow : OpenClaim := { program := "ytnklncheopbfbaa", sum := "48d5e23dd02928126b9ba372d1b34964c53a3a6fbd62e84e31bb0bcfb4c84075", func := "loop.example/g00831/laws.FnExactSpreadOf", spec := "fnExactSpreadOf", apart := false }
def FnExactSpreadOfSaid : Prop := fnExactSpreadOfRow.holds Try.pinned (OpenSpec.ofChange fnExactSpreadOfSpec)

/-- ITS FALSE NEIGHBOUR: 'it returns false'. Refute it at one input. -/
def fnExactSpreadOfWrong : ChangeSpec := { name := "fnExactSpreadOf", fn := fun _ => fun
  | [d] => { results := [.lit (.bool false)], args := [d] }
  | _ => none }
def FnExactSpreadOfWrongFalsely : Prop := fnExactSpreadOfRow.holds Try.pinned (OpenSpec.ofChange fnExactSpreadOfWrong)

/-- 'laws.FnExactAddAccounts': WHATEVER THE INPUT: true; the input reads as it did. -/
def fnExactAddAccountsSpec : ChangeSpec := { name := "fnExactAddAccounts", fn := fun _ => fun
  | [d1, d2] => { results := [.lit (.bool true)], args := [d1, d2] }
  | _ => none }
def fnExactAddAccountsRow : OpenClaim := { program := "ytnklncheopbfbaa", sum := "48d5e23dd02928126b9ba372d1b34964c53a3a6fbd62e84e31bb0bcfb4c84075", func := "loop.example/g00831/laws.FnExactAddAccounts", spec := "fnExactAddAccounts", apart := false }
def FnExactAddAccountsSaid : Prop := fnExactAddAccountsRow.holds Try.pinned (OpenSpec.ofChange fnExactAddAccountsSpec)

/-- ITS FALSE NEIGHBOUR: 'it returns false'. Refute it at one input. -/
def fnExactAddAccountsWrong : ChangeSpec := { name := "fnExactAddAccounts", fn := fun _ => fun
  | [d1, d2] => { results := [.lit (.bool false)], args := [d1, d2] }
  | _ => none }
def FnExactAddAccountsWrongFalsely : Prop := fnExactAddAccountsRow.holds Try.pinned (OpenSpec.ofChange fnExactAddAccountsWrong)

/-- 'laws.FnExactShutOut': WHATEVER THE INPUT: true; the input reads as it did. -/
def fnExactShutOutSpec : ChangeSpec := { name := "fnExactShutOut", fn := fun _ => fun
  | [d1, d2] => { results := [.lit (.bool true)], args := [d1, d2] }
  | _ => none }
def fnExactShutOutRow : OpenClaim := { program := "ytnklncheopbfbaa", sum := "48d5e23dd02928126b9ba372d1b34964c53a3a6fbd62e84e31bb0bcfb4c84075", func := "loop.example/g00831/laws.FnExactShutOut", spec := "fnExactShutOut", unfollowed := true, recurses := true, apart := false }
def FnExactShutOutSaid : Prop := fnExactShutOutRow.holds Try.pinned (OpenSpec.ofChange fnExactShutOutSpec)

/-- ITS FALSE NEIGHBOUR: 'it returns false'. Refute it at one input. -/
def fnExactShutOutWrong : ChangeSpec := { name := "fnExactShutOut", fn := fun _ => fun
  | [d1, d2] => { results := [.lit (.bool false)], args := [d1, d2] }
  | _ => none }
def FnExactShutOutWrongFalsely : Prop := fnExactShutOutRow.holds Try.pinned (OpenSpec.ofChange fnExactShutOutWrong)

/- THE SECOND FORM. 'bulk': how many values and letters a reading holds, each counted each time it is reached (what is shared counts as often as it is met; a slice's spare places count too). A statement '..UptoSaid' is the law's where the arguments, and the package variables that the reading takes, are together of bulk at most 1048576: NARROWER than '..Said'. Prove '..Said' where nothing that the law and all that it calls make is longer than what came in: it says more and counts as full. Else prove '..UptoSaid'. A law counts once. -/
mutual
def uptoBulk {H : Type} : DataW H → Nat
  | .lit (.string bytes) => bytes.length + 1
  | .lit _ => 1
  | .nil => 1
  | .ptr d => uptoBulk d + 1
  | .slice elems spare => uptoBulkAll elems + uptoBulkAll spare + 1
  | .agg parts => uptoBulkAll parts + 1
  | .iface _ d => uptoBulk d + 1
  | .map entries => uptoBulkEntries entries + 1
  | .held _ => 1
def uptoBulkAll {H : Type} : List (DataW H) → Nat
  | [] => 0
  | d :: r => uptoBulk d + uptoBulkAll r
def uptoBulkEntries {H : Type} : List (Lit × DataW H) → Nat
  | [] => 0
  | x :: r => uptoBulkEntry x + uptoBulkEntries r
def uptoBulkEntry {H : Type} : Lit × DataW H → Nat
  | (.string bytes, d) => bytes.length + uptoBulk d + 1
  | (_, d) => uptoBulk d + 1
 end
def uptoSmall : (H : Type) → List (DataW H) → Bool := fun _ ds => decide (uptoBulkAll ds ≤ 1048576)
def OpenSpec.upto (s : _root_.Go.ChangeSpec) : _root_.Go.OpenSpec := { _root_.Go.OpenSpec.ofChange s with cond := some uptoSmall }

/-- 'laws.FnExactSumOfText', WHERE WHAT IT READS IS OF BULK AT MOST 1048576: true; the input reads as it did. -/
def fnExactSumOfTextUptoRow : OpenClaim := { program := "ytnklncheopbfbaa", sum := "48d5e23dd02928126b9ba372d1b34964c53a3a6fbd62e84e31bb0bcfb4c84075", func := "loop.example/g00831/laws.FnExactSumOfText", spec := "fnExactSumOfText", apart := false, narrowed := true }
def FnExactSumOfTextUptoSaid : Prop := fnExactSumOfTextUptoRow.holds Try.pinned (OpenSpec.upto fnExactSumOfTextSpec)

/-- 'laws.FnExactPicksOk', WHERE WHAT IT READS IS OF BULK AT MOST 1048576: true; the input reads as it did. -/
def fnExactPicksOkUptoRow : OpenClaim := { program := "ytnklncheopbfbaa", sum := "48d5e23dd02928126b9ba372d1b34964c53a3a6fbd62e84e31bb0bcfb4c84075", func := "loop.example/g00831/laws.FnExactPicksOk", spec := "fnExactPicksOk", apart := false, narrowed := true }
def FnExactPicksOkUptoSaid : Prop := fnExactPicksOkUptoRow.holds Try.pinned (OpenSpec.upto fnExactPicksOkSpec)

/-- 'laws.FnExactSaferPicks', WHERE WHAT IT READS IS OF BULK AT MOST 1048576: true; the input reads as it did. -/
def fnExactSaferPicksUptoRow : OpenClaim := { program := "ytnklncheopbfbaa", sum := "48d5e23dd02928126b9ba372d1b34964c53a3a6fbd62e84e31bb0bcfb4c84075", func := "loop.example/g00831/laws.FnExactSaferPicks", spec := "fnExactSaferPicks", apart := false, narrowed := true }
def FnExactSaferPicksUptoSaid : Prop := fnExactSaferPicksUptoRow.holds Try.pinned (OpenSpec.upto fnExactSaferPicksSpec)

/-- 'laws.FnExactAccountOk', WHERE WHAT IT READS IS OF BULK AT MOST 1048576: true; the input reads as it did. -/
def fnExactAccountOkUptoRow : OpenClaim := { program := "ytnklncheopbfbaa", sum := "48d5e23dd02928126b9ba372d1b34964c53a3a6fbd62e84e31bb0bcfb4c84075", func := "loop.example/g00831/laws.FnExactAccountOk", spec := "fnExactAccountOk", apart := false, narrowed := true }
def FnExactAccountOkUptoSaid : Prop := fnExactAccountOkUptoRow.holds Try.pinned (OpenSpec.upto fnExactAccountOkSpec)

/-- 'laws.FnExactHitsClosure', WHERE WHAT IT READS IS OF BULK AT MOST 1048576: true; the input reads as it did. -/
def fnExactHitsClosureUptoRow : OpenClaim := { program := "ytnklncheopbfbaa", sum := "48d5e23dd02928126b9ba372d1b34964c53a3a6fbd62e84e31bb0bcfb4c84075", func := "loop.example/g00831/laws.FnExactHitsClosure", spec := "fnExactHitsClosure", unfollowed := true, recurses := true, apart := false, narrowed := true }
def FnExactHitsClosureUptoSaid : Prop := fnExactHitsClosureUptoRow.holds Try.pinned (OpenSpec.upto fnExactHitsClosureSpec)

/-- 'laws.FnExactDeskOk', WHERE WHAT IT READS IS OF BULK AT MOST 1048576: true; the input reads as it did. -/
def fnExactDeskOkUptoRow : OpenClaim := { program := "ytnklncheopbfbaa", sum := "48d5e23dd02928126b9ba372d1b34964c53a3a6fbd62e84e31bb0bcfb4c84075", func := "loop.example/g00831/laws.FnExactDeskOk", spec := "fnExactDeskOk", apart := false, narrowed := true }
def FnExactDeskOkUptoSaid : Prop := fnExactDeskOkUptoRow.holds Try.pinned (OpenSpec.upto fnExactDeskOkSpec)

/-- 'laws.FnExactDeskNew', WHERE WHAT IT READS IS OF BULK AT MOST 1048576: true; the input reads as it did. -/
def fnExactDeskNewUptoRow : OpenClaim := { program := "ytnklncheopbfbaa", sum := "48d5e23dd02928126b9ba372d1b34964c53a3a6fbd62e84e31bb0bcfb4c84075", func := "loop.example/g00831/laws.FnExactDeskNew", spec := "fnExactDeskNew", apart := false, narrowed := true }
def FnExactDeskNewUptoSaid : Prop := fnExactDeskNewUptoRow.holds Try.pinned (OpenSpec.upto fnExactDeskNewSpec)

/-- 'laws.FnExactSameDesks', WHERE WHAT IT READS IS OF BULK AT MOST 1048576: true; the input reads as it did. -/
def fnExactSameDesksUptoRow : OpenClaim := { program := "ytnklncheopbfbaa", sum := "48d5e23dd02928126b9ba372d1b34964c53a3a6fbd62e84e31bb0bcfb4c84075", func := "loop.example/g00831/laws.FnExactSameDesks", spec := "fnExactSameDesks", apart := false, narrowed := true }
def FnExactSameDesksUptoSaid : Prop := fnExactSameDesksUptoRow.holds Try.pinned (OpenSpec.upto fnExactSameDesksSpec)

/-- 'laws.FnExactWorstLine', WHERE WHAT IT READS IS OF BULK AT MOST 1048576: true; the input reads as it did. -/
def fnExactWorstLineUptoRow : OpenClaim := { program := "ytnklncheopbfbaa", sum := "48d5e23dd02928126b9ba372d1b34964c53a3a6fbd62e84e31bb0bcfb4c84075", func := "loop.example/g00831/laws.FnExactWorstLine", spec := "fnExactWorstLine", apart := false, narrowed := true }
def FnExactWorstLineUptoSaid : Prop := fnExactWorstLineUptoRow.holds Try.pinned (OpenSpec.upto fnExactWorstLineSpec)

/-- 'laws.FnExactSpreadOf', WHERE WHAT IT READS IS OF BULK AT MOST 1048576: true; the input reads as it did. -/
def fnExactSpreadOfUptoRow : OpenClaim := { program := "ytnklncheopbfbaa", sum := "48d5e23dd02928126b9ba372d1b34964c53a3a6fbd62e84e31bb0bcfb4c84075", func := "loop.example/g00831/laws.FnExactSpreadOf", spec := "fnExactSpreadOf", apart := false, narrowed := true }
def FnExactSpreadOfUptoSaid : Prop := fnExactSpreadOfUptoRow.holds Try.pinned (OpenSpec.upto fnExactSpreadOfSpec)

/-- 'laws.FnExactAddAccounts', WHERE WHAT IT READS IS OF BULK AT MOST 1048576: true; the input reads as it did. -/
def fnExactAddAccountsUptoRow : OpenClaim := { program := "ytnklncheopbfbaa", sum := "48d5e23dd02928126b9ba372d1b34964c53a3a6fbd62e84e31bb0bcfb4c84075", func := "loop.example/g00831/laws.FnExactAddAccounts", spec := "fnExactAddAccounts", apart := false, narrowed := true }
def FnExactAddAccountsUptoSaid : Prop := fnExactAddAccountsUptoRow.holds Try.pinned (OpenSpec.upto fnExactAddAccountsSpec)

/-- 'laws.FnExactShutOut', WHERE WHAT IT READS IS OF BULK AT MOST 1048576: true; the input reads as it did. -/
def fnExactShutOutUptoRow : OpenClaim := { program := "ytnklncheopbfbaa", sum := "48d5e23dd02928126b9ba372d1b34964c53a3a6fbd62e84e31bb0bcfb4c84075", func := "loop.example/g00831/laws.FnExactShutOut", spec := "fnExactShutOut", unfollowed := true, recurses := true, apart := false, narrowed := true }
def FnExactShutOutUptoSaid : Prop := fnExactShutOutUptoRow.holds Try.pinned (OpenSpec.upto fnExactShutOutSpec)

end Rows
end Go.Proofs.Ytnklncheopbfbaa
