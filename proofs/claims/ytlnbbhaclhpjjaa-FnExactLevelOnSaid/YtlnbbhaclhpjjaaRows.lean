/-
  No cell of these rows narrows 'for every input' (looked for: loops, veiled, ifaces, maps, wideKeys, modest, calm, conditions, laid).
  DERIVED. THE GIVEN ROWS OF THIS SEAT. 2 by the template 'for every input the law returns true; each argument reads behind the call as it read before'; 0 by the template 'total and deterministic' (their statements: YtlnbbhaclhpjjaaTotals.lean).
  GIVEN WITH THE SEED: the statements are not yours to turn. If you find one false, say at which input.
  Laid BY PROGRAM, IN A SANDBOX (cutbox-rows.mjs): the forced cells as the released guide's own fill.sh prints them over the translation da604300d1cd52aa… (all of the seat's roots in one cut). By AI agents, Wed Nov 11 2026. No macro, syntax, notation, axiom, sorry.
-/
import Derived.Test.YtlnbbhaclhpjjaaChecked
import GoSem.Claim
import GoSem.ClaimJoined
import GoSem.ClaimMapViews
import Derived.JoinedTies
import Derived.KernelRfl
namespace Go.Proofs.Ytlnbbhaclhpjjaa
/- THE CELL 'sum', in the pinned program and in every row, IS THE sha256 OF THE DUMP (.gsa) THAT YtlnbbhaclhpjjaaProg.lean LOADS. Nothing in Lean hashes anything: it is a label: what it is worth is what the hold of that sum in a sandbox is worth. -/
noncomputable def Try.pinned : Pinned := { name := "ytlnbbhaclhpjjaa", sum := "da604300d1cd52aa4b225d473ee407e7aa6cf789dd545b6c47c1d55301f0726e", checked := Try.checked }
namespace Rows
def none {H : Type} : Left H := { results := [], args := [] }

/-- 'laws.FnExactClosuresOk': WHATEVER THE INPUT: true; the input reads as it did. -/
def fnExactClosuresOkSpec : ChangeSpec := { name := "fnExactClosuresOk", fn := fun _ => fun
  | [d1, d2] => { results := [.lit (.bool true)], args := [d1, d2] }
  | _ => none }
def fnExactClosuresOkRow : OpenClaim := { program := "ytlnbbhaclhpjjaa", sum := "da604300d1cd52aa4b225d473ee407e7aa6cf789dd545b6c47c1d55301f0726e", func := "loop.example/g00831/laws.FnExactClosuresOk", spec := "fnExactClosuresOk", apart := false }
def FnExactClosuresOkSaid : Prop := fnExactClosuresOkRow.holds Try.pinned (OpenSpec.ofChange fnExactClosuresOkSpec)

/-- ITS FALSE NEIGHBOUR: 'it returns false'. Refute it at one input. -/
def fnExactClosuresOkWrong : ChangeSpec := { name := "fnExactClosuresOk", fn := fun _ => fun
  | [d1, d2] => { results := [.lit (.bool false)], args := [d1, d2] }
  | _ => none }
def FnExactClosuresOkWrongFalsely : Prop := fnExactClosuresOkRow.holds Try.pinned (OpenSpec.ofChange fnExactClosuresOkWrong)

/-- 'laws.FnExactLevelOn': WHATEVER THE INPUT: true; the input reads as it did. -/
def fnExactLevelOnSpec : ChangeSpec := { name := "fnExactLevelOn", fn := fun _ => fun
  | [d1, d2, d3] => { results := [.lit (.bool true)], args := [d1, d2, d3] }
  | _ => none }
def fnExactLevelOnRow : OpenClaim := { program := "ytlnbbhaclhpjjaa", sum := "da604300d1cd52aa4b225d473ee407e7aa6cf789dd545b6c47c1d55301f0726e", func := "loop.example/g00831/laws.FnExactLevelOn", spec := "fnExactLevelOn", apart := false }
def FnExactLevelOnSaid : Prop := fnExactLevelOnRow.holds Try.pinned (OpenSpec.ofChange fnExactLevelOnSpec)

/-- ITS FALSE NEIGHBOUR: 'it returns false'. Refute it at one input. -/
def fnExactLevelOnWrong : ChangeSpec := { name := "fnExactLevelOn", fn := fun _ => fun
  | [d1, d2, d3] => { results := [.lit (.bool false)], args := [d1, d2, d3] }
  | _ => none }
def FnExactLevelOnWrongFalsely : Prop := fnExactLevelOnRow.holds Try.pinned (OpenSpec.ofChange fnExactLevelOnWrong)

/- THE SECOND FORM. 'bulk': how many values and letters a reading holds, each counted each time it is reached (what is shared counts as often as it is met; a slice's spare places count too). A statement '..UptoSaid' is the law's where the arguments, and the package variables that the reading takes, are together of bulk at most 1048576: NARROWER than '..Said'. Prove '..Said' where nothing that the law and all that it calls make is longer than what came in: it says more and counts as full. Else prove '..UptoSaid'. A law counts once. -/
mutual
def uptoBulk {H : Type} : DataW H → Nat
  | .lit (.string bytes) => bytes.length + 1
  | .lit _ => 1
  | .nil => 1
  | .ptr d => uptoBulk d + 1
  | .slice elems spare => uptoBulkAll elems + uptoBulkAll spare + 1
  | .agg parts => uptoBulkAll parts + 1
  | .iface _ d => uptoBulk d + 1
  | .map entries => uptoBulkEntries entries + 1
  | .held _ => 1
def uptoBulkAll {H : Type} : List (DataW H) → Nat
  | [] => 0
  | d :: r => uptoBulk d + uptoBulkAll r
def uptoBulkEntries {H : Type} : List (Lit × DataW H) → Nat
  | [] => 0
  | x :: r => uptoBulkEntry x + uptoBulkEntries r
def uptoBulkEntry {H : Type} : Lit × DataW H → Nat
  | (.string bytes, d) => bytes.length + uptoBulk d + 1
  | (_, d) => uptoBulk d + 1
 end
def uptoSmall : (H : Type) → List (DataW H) → Bool := fun _ ds => decide (uptoBulkAll ds ≤ 1048576)
def OpenSpec.upto (s : _root_.Go.ChangeSpec) : _root_.Go.OpenSpec := { _root_.Go.OpenSpec.ofChange s with cond := some uptoSmall }

/-- 'laws.FnExactClosuresOk', WHERE WHAT IT READS IS OF BULK AT MOST 1048576: true; the input reads as it did. -/
def fnExactClosuresOkUptoRow : OpenClaim := { program := "ytlnbbhaclhpjjaa", sum := "da604300d1cd52aa4b225d473ee407e7aa6cf789dd545b6c47c1d55301f0726e", func := "loop.example/g00831/laws.FnExactClosuresOk", spec := "fnExactClosuresOk", apart := false, narrowed := true }
def FnExactClosuresOkUptoSaid : Prop := fnExactClosuresOkUptoRow.holds Try.pinned (OpenSpec.upto fnExactClosuresOkSpec)

/-- 'laws.FnExactLevelOn', WHERE WHAT IT READS IS OF BULK AT MOST 1048576: true; the input reads as it did. -/
def fnExactLevelOnUptoRow : OpenClaim := { program := "ytlnbbhaclhpjjaa", sum := "da604300d1cd52aa4b225d473ee407e7aa6cf789dd545b6c47c1d55301f0726e", func := "loop.example/g00831/laws.FnExactLevelOn", spec := "fnExactLevelOn", apart := false, narrowed := true }
def FnExactLevelOnUptoSaid : Prop := fnExactLevelOnUptoRow.holds Try.pinned (OpenSpec.upto fnExactLevelOnSpec)

end Rows
end Go.Proofs.Ytlnbbhaclhpjjaa
