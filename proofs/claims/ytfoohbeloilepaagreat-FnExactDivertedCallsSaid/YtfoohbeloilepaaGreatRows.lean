/-
  No cell of these rows narrows 'for every input' (looked for: loops, veiled, ifaces, maps, wideKeys, modest, calm, conditions, laid).
  DERIVED. THE GIVEN ROWS OF THIS SEAT. 2 by the template 'for every input the law returns true; each argument reads behind the call as it read before'; 0 by the template 'total and deterministic' (their statements: YtfoohbeloilepaaGreatTotals.lean).
  GIVEN WITH THE SEED: the statements are not yours to turn. If you find one false, say at which input.
  Laid BY PROGRAM, IN A SANDBOX (cutbox-rows.mjs): the forced cells as the released guide's own fill.sh prints them over the translation 13dfd998d7bc2098… (all of the seat's roots in one cut). By AI agents, Wed Nov 11 2026. No macro, syntax, notation, axiom, sorry.
-/
import Derived.Test.YtfoohbeloilepaaGreatChecked
import GoSem.Claim
import GoSem.ClaimJoined
import GoSem.ClaimMapViews
import Derived.JoinedTies
import Derived.KernelRfl
namespace Go.Proofs.YtfoohbeloilepaaGreat
/- THE CELL 'sum', in the pinned program and in every row, IS THE sha256 OF THE DUMP (.gsa) THAT YtfoohbeloilepaaGreatProg.lean LOADS. Nothing in Lean hashes anything: it is a label: what it is worth is what the hold of that sum in a sandbox is worth. -/
noncomputable def Tryz.pinned : Pinned := { name := "ytfoohbeloilepaagreat", sum := "13dfd998d7bc2098964361293a48677669d3da51b91912fd308bc7a9f071592f", checked := Tryz.checked }
namespace Rows
def none {H : Type} : Left H := { results := [], args := [] }

/-- 'laws.FnExactRefusalLine': WHATEVER THE INPUT: true; the input reads as it did. -/
def fnExactRefusalLineSpec : ChangeSpec := { name := "fnExactRefusalLine", fn := fun _ => fun
  | [d1, d2] => { results := [.lit (.bool true)], args := [d1, d2] }
  | _ => none }
def fnExactRefusalLineRow : OpenClaim := { program := "ytfoohbeloilepaagreat", sum := "13dfd998d7bc2098964361293a48677669d3da51b91912fd308bc7a9f071592f", func := "loop.example/g00831/laws.FnExactRefusalLine", spec := "fnExactRefusalLine", inPlace := ["internal/abi.NoEscape", "internal/bytealg.MakeNoZero"], unfollowed := true, recurses := true, apart := false }
def FnExactRefusalLineSaid : Prop := fnExactRefusalLineRow.holds Tryz.pinned (OpenSpec.ofChange fnExactRefusalLineSpec)

/-- ITS FALSE NEIGHBOUR: 'it returns false'. Refute it at one input. -/
def fnExactRefusalLineWrong : ChangeSpec := { name := "fnExactRefusalLine", fn := fun _ => fun
  | [d1, d2] => { results := [.lit (.bool false)], args := [d1, d2] }
  | _ => none }
def FnExactRefusalLineWrongFalsely : Prop := fnExactRefusalLineRow.holds Tryz.pinned (OpenSpec.ofChange fnExactRefusalLineWrong)

/-- 'laws.FnExactDivertedCalls': WHATEVER THE INPUT: true; the input reads as it did. -/
def fnExactDivertedCallsSpec : ChangeSpec := { name := "fnExactDivertedCalls", fn := fun _ => fun
  | [d1, d2, d3] => { results := [.lit (.bool true)], args := [d1, d2, d3] }
  | _ => none }
def fnExactDivertedCallsRow : OpenClaim := { program := "ytfoohbeloilepaagreat", sum := "13dfd998d7bc2098964361293a48677669d3da51b91912fd308bc7a9f071592f", func := "loop.example/g00831/laws.FnExactDivertedCalls", spec := "fnExactDivertedCalls", unfollowed := true, recurses := true, apart := false }
def FnExactDivertedCallsSaid : Prop := fnExactDivertedCallsRow.holds Tryz.pinned (OpenSpec.ofChange fnExactDivertedCallsSpec)

/-- ITS FALSE NEIGHBOUR: 'it returns false'. Refute it at one input. -/
def fnExactDivertedCallsWrong : ChangeSpec := { name := "fnExactDivertedCalls", fn := fun _ => fun
  | [d1, d2, d3] => { results := [.lit (.bool false)], args := [d1, d2, d3] }
  | _ => none }
def FnExactDivertedCallsWrongFalsely : Prop := fnExactDivertedCallsRow.holds Tryz.pinned (OpenSpec.ofChange fnExactDivertedCallsWrong)

/- THE SECOND FORM. 'bulk': how many values and letters a reading holds, each counted each time it is reached (what is shared counts as often as it is met; a slice's spare places count too). A statement '..UptoSaid' is the law's where the arguments, and the package variables that the reading takes, are together of bulk at most 1048576: NARROWER than '..Said'. Prove '..Said' where nothing that the law and all that it calls make is longer than what came in: it says more and counts as full. Else prove '..UptoSaid'. A law counts once. -/
mutual
def uptoBulk {H : Type} : DataW H → Nat
  | .lit (.string bytes) => bytes.length + 1
  | .lit _ => 1
  | .nil => 1
  | .ptr d => uptoBulk d + 1
  | .slice elems spare => uptoBulkAll elems + uptoBulkAll spare + 1
  | .agg parts => uptoBulkAll parts + 1
  | .iface _ d => uptoBulk d + 1
  | .map entries => uptoBulkEntries entries + 1
  | .held _ => 1
def uptoBulkAll {H : Type} : List (DataW H) → Nat
  | [] => 0
  | d :: r => uptoBulk d + uptoBulkAll r
def uptoBulkEntries {H : Type} : List (Lit × DataW H) → Nat
  | [] => 0
  | x :: r => uptoBulkEntry x + uptoBulkEntries r
def uptoBulkEntry {H : Type} : Lit × DataW H → Nat
  | (.string bytes, d) => bytes.length + uptoBulk d + 1
  | (_, d) => uptoBulk d + 1
 end
def uptoSmall : (H : Type) → List (DataW H) → Bool := fun _ ds => decide (uptoBulkAll ds ≤ 1048576)
def OpenSpec.upto (s : _root_.Go.ChangeSpec) : _root_.Go.OpenSpec := { _root_.Go.OpenSpec.ofChange s with cond := some uptoSmall }

/-- 'laws.FnExactRefusalLine', WHERE WHAT IT READS IS OF BULK AT MOST 1048576: true; the input reads as it did. -/
def fnExactRefusalLineUptoRow : OpenClaim := { program := "ytfoohbeloilepaagreat", sum := "13dfd998d7bc2098964361293a48677669d3da51b91912fd308bc7a9f071592f", func := "loop.example/g00831/laws.FnExactRefusalLine", spec := "fnExactRefusalLine", inPlace := ["internal/abi.NoEscape", "internal/bytealg.MakeNoZero"], unfollowed := true, recurses := true, apart := false, narrowed := true }
def FnExactRefusalLineUptoSaid : Prop := fnExactRefusalLineUptoRow.holds Tryz.pinned (OpenSpec.upto fnExactRefusalLineSpec)

/-- 'laws.FnExactDivertedCalls', WHERE WHAT IT READS IS OF BULK AT MOST 1048576: true; the input reads as it did. -/
def fnExactDivertedCallsUptoRow : OpenClaim := { program := "ytfoohbeloilepaagreat", sum := "13dfd998d7bc2098964361293a48677669d3da51b91912fd308bc7a9f071592f", func := "loop.example/g00831/laws.FnExactDivertedCalls", spec := "fnExactDivertedCalls", unfollowed := true, recurses := true, apart := false, narrowed := true }
def FnExactDivertedCallsUptoSaid : Prop := fnExactDivertedCallsUptoRow.holds Tryz.pinned (OpenSpec.upto fnExactDivertedCallsSpec)

end Rows
end Go.Proofs.YtfoohbeloilepaaGreat
