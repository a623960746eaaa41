/-
  No cell of these rows narrows 'for every input' (looked for: loops, veiled, ifaces, maps, wideKeys, modest, calm, conditions, laid).
  DERIVED. THE GIVEN ROWS OF THIS SEAT. 11 by the template 'for every input the law returns true; each argument reads behind the call as it read before'; 0 by the template 'total and deterministic' (their statements: YtmgfndipofbbaaaGreatTotals.lean).
  GIVEN WITH THE SEED: the statements are not yours to turn. If you find one false, say at which input.
  Laid BY PROGRAM, IN A SANDBOX (cutbox-rows.mjs): the forced cells as the released guide's own fill.sh prints them over the translation a9fc334a5b767a62… (all of the seat's roots in one cut). By AI agents, Wed Nov 11 2026. No macro, syntax, notation, axiom, sorry.
-/
import Derived.Test.YtmgfndipofbbaaaGreatChecked
import GoSem.Claim
import GoSem.ClaimJoined
import GoSem.ClaimMapViews
import Derived.JoinedTies
import Derived.KernelRfl
namespace Go.Proofs.YtmgfndipofbbaaaGreat
/- THE CELL 'sum', in the pinned program and in every row, IS THE sha256 OF THE DUMP (.gsa) THAT YtmgfndipofbbaaaGreatProg.lean LOADS. Nothing in Lean hashes anything: it is a label: what it is worth is what the hold of that sum in a sandbox is worth. -/
noncomputable def Tryz.pinned : Pinned := { name := "ytmgfndipofbbaaagreat", sum := "a9fc334a5b767a62ba97203c1207274d6d80ea34bb7c9c9344802c25112d8130", checked := Tryz.checked }
namespace Rows
def none {H : Type} : Left H := { results := [], args := [] }

/-- 'laws.FnClosures': WHATEVER THE INPUT: true; the input reads as it did. -/
def fnClosuresSpec : ChangeSpec := { name := "fnClosures", fn := fun _ => fun
  | [d] => { results := [.lit (.bool true)], args := [d] }
  | _ => none }
def fnClosuresRow : OpenClaim := { program := "ytmgfndipofbbaaagreat", sum := "a9fc334a5b767a62ba97203c1207274d6d80ea34bb7c9c9344802c25112d8130", func := "loop.example/g00831/laws.FnClosures", spec := "fnClosures", unfollowed := true, recurses := true, apart := false }
def FnClosuresSaid : Prop := fnClosuresRow.holds Tryz.pinned (OpenSpec.ofChange fnClosuresSpec)

/-- ITS FALSE NEIGHBOUR: 'it returns false'. Refute it at one input. -/
def fnClosuresWrong : ChangeSpec := { name := "fnClosures", fn := fun _ => fun
  | [d] => { results := [.lit (.bool false)], args := [d] }
  | _ => none }
def FnClosuresWrongFalsely : Prop := fnClosuresRow.holds Tryz.pinned (OpenSpec.ofChange fnClosuresWrong)

/-- 'laws.FnFair': WHATEVER THE INPUT: true; the input reads as it did. -/
def fnFairSpec : ChangeSpec := { name := "fnFair", fn := fun _ => fun
  | [d] => { results := [.lit (.bool true)], args := [d] }
  | _ => none }
def fnFairRow : OpenClaim := { program := "ytmgfndipofbbaaagreat", sum := "a9fc334a5b767a62ba97203c1207274d6d80ea34bb7c9c9344802c25112d8130", func := "loop.example/g00831/laws.FnFair", spec := "fnFair", unfollowed := true, recurses := true, apart := false }
def FnFairSaid : Prop := fnFairRow.holds Tryz.pinned (OpenSpec.ofChange fnFairSpec)

/-- ITS FALSE NEIGHBOUR: 'it returns false'. Refute it at one input. -/
def fnFairWrong : ChangeSpec := { name := "fnFair", fn := fun _ => fun
  | [d] => { results := [.lit (.bool false)], args := [d] }
  | _ => none }
def FnFairWrongFalsely : Prop := fnFairRow.holds Tryz.pinned (OpenSpec.ofChange fnFairWrong)

/-- 'laws.FnAdverse': WHATEVER THE INPUT: true; the input reads as it did. -/
def fnAdverseSpec : ChangeSpec := { name := "fnAdverse", fn := fun _ => fun
  | [d] => { results := [.lit (.bool true)], args := [d] }
  | _ => none }
def fnAdverseRow : OpenClaim := { program := "ytmgfndipofbbaaagreat", sum := "a9fc334a5b767a62ba97203c1207274d6d80ea34bb7c9c9344802c25112d8130", func := "loop.example/g00831/laws.FnAdverse", spec := "fnAdverse", unfollowed := true, recurses := true, apart := false }
def FnAdverseSaid : Prop := fnAdverseRow.holds Tryz.pinned (OpenSpec.ofChange fnAdverseSpec)

/-- ITS FALSE NEIGHBOUR: 'it returns false'. Refute it at one input. -/
def fnAdverseWrong : ChangeSpec := { name := "fnAdverse", fn := fun _ => fun
  | [d] => { results := [.lit (.bool false)], args := [d] }
  | _ => none }
def FnAdverseWrongFalsely : Prop := fnAdverseRow.holds Tryz.pinned (OpenSpec.ofChange fnAdverseWrong)

/-- 'laws.FnAccounts': WHATEVER THE INPUT: true; the input reads as it did. -/
def fnAccountsSpec : ChangeSpec := { name := "fnAccounts", fn := fun _ => fun
  | [d] => { results := [.lit (.bool true)], args := [d] }
  | _ => none }
def fnAccountsRow : OpenClaim := { program := "ytmgfndipofbbaaagreat", sum := "a9fc334a5b767a62ba97203c1207274d6d80ea34bb7c9c9344802c25112d8130", func := "loop.example/g00831/laws.FnAccounts", spec := "fnAccounts", unfollowed := true, recurses := true, apart := false }
def FnAccountsSaid : Prop := fnAccountsRow.holds Tryz.pinned (OpenSpec.ofChange fnAccountsSpec)

/-- ITS FALSE NEIGHBOUR: 'it returns false'. Refute it at one input. -/
def fnAccountsWrong : ChangeSpec := { name := "fnAccounts", fn := fun _ => fun
  | [d] => { results := [.lit (.bool false)], args := [d] }
  | _ => none }
def FnAccountsWrongFalsely : Prop := fnAccountsRow.holds Tryz.pinned (OpenSpec.ofChange fnAccountsWrong)

/-- 'laws.FnExactOpenOptions': WHATEVER THE INPUT: true; the input reads as it did. -/
def fnExactOpenOptionsSpec : ChangeSpec := { name := "fnExactOpenOptions", fn := fun _ => fun
  | [d1, d2, d3] => { results := [.lit (.bool true)], args := [d1, d2, d3] }
  | _ => none }
def fnExactOpenOptionsRow : OpenClaim := { program := "ytmgfndipofbbaaagreat", sum := "a9fc334a5b767a62ba97203c1207274d6d80ea34bb7c9c9344802c25112d8130", func := "loop.example/g00831/laws.FnExactOpenOptions", spec := "fnExactOpenOptions", unfollowed := true, recurses := true, apart := false }
def FnExactOpenOptionsSaid : Prop := fnExactOpenOptionsRow.holds Tryz.pinned (OpenSpec.ofChange fnExactOpenOptionsSpec)

/-- ITS FALSE NEIGHBOUR: 'it returns false'. Refute it at one input. -/
def fnExactOpenOptionsWrong : ChangeSpec := { name := "fnExactOpenOptions", fn := fun _ => fun
  | [d1, d2, d3] => { results := [.lit (.bool false)], args := [d1, d2, d3] }
  | _ => none }
def FnExactOpenOptionsWrongFalsely : Prop := fnExactOpenOptionsRow.holds Tryz.pinned (OpenSpec.ofChange fnExactOpenOptionsWrong)

/-- 'laws.FnExactFairPlan': WHATEVER THE INPUT: true; the input reads as it did. -/
def fnExactFairPlanSpec : ChangeSpec := { name := "fnExactFairPlan", fn := fun _ => fun
  | [d1, d2] => { results := [.lit (.bool true)], args := [d1, d2] }
  | _ => none }
def fnExactFairPlanRow : OpenClaim := { program := "ytmgfndipofbbaaagreat", sum := "a9fc334a5b767a62ba97203c1207274d6d80ea34bb7c9c9344802c25112d8130", func := "loop.example/g00831/laws.FnExactFairPlan", spec := "fnExactFairPlan", unfollowed := true, recurses := true, apart := false }
def FnExactFairPlanSaid : Prop := fnExactFairPlanRow.holds Tryz.pinned (OpenSpec.ofChange fnExactFairPlanSpec)

/-- ITS FALSE NEIGHBOUR: 'it returns false'. Refute it at one input. -/
def fnExactFairPlanWrong : ChangeSpec := { name := "fnExactFairPlan", fn := fun _ => fun
  | [d1, d2] => { results := [.lit (.bool false)], args := [d1, d2] }
  | _ => none }
def FnExactFairPlanWrongFalsely : Prop := fnExactFairPlanRow.holds Tryz.pinned (OpenSpec.ofChange fnExactFairPlanWrong)

/-- 'laws.FnExactAccountOf': WHATEVER THE INPUT: true; the input reads as it did. -/
def fnExactAccountOfSpec : ChangeSpec := { name := "fnExactAccountOf", fn := fun _ => fun
  | [d1, d2, d3] => { results := [.lit (.bool true)], args := [d1, d2, d3] }
  | _ => none }
def fnExactAccountOfRow : OpenClaim := { program := "ytmgfndipofbbaaagreat", sum := "a9fc334a5b767a62ba97203c1207274d6d80ea34bb7c9c9344802c25112d8130", func := "loop.example/g00831/laws.FnExactAccountOf", spec := "fnExactAccountOf", unfollowed := true, recurses := true, apart := false }
def FnExactAccountOfSaid : Prop := fnExactAccountOfRow.holds Tryz.pinned (OpenSpec.ofChange fnExactAccountOfSpec)

/-- ITS FALSE NEIGHBOUR: 'it returns false'. Refute it at one input. -/
def fnExactAccountOfWrong : ChangeSpec := { name := "fnExactAccountOf", fn := fun _ => fun
  | [d1, d2, d3] => { results := [.lit (.bool false)], args := [d1, d2, d3] }
  | _ => none }
def FnExactAccountOfWrongFalsely : Prop := fnExactAccountOfRow.holds Tryz.pinned (OpenSpec.ofChange fnExactAccountOfWrong)

/-- 'laws.FnExactRefusalLine': WHATEVER THE INPUT: true; the input reads as it did. -/
def fnExactRefusalLineSpec : ChangeSpec := { name := "fnExactRefusalLine", fn := fun _ => fun
  | [d1, d2] => { results := [.lit (.bool true)], args := [d1, d2] }
  | _ => none }
def fnExactRefusalLineRow : OpenClaim := { program := "ytmgfndipofbbaaagreat", sum := "a9fc334a5b767a62ba97203c1207274d6d80ea34bb7c9c9344802c25112d8130", func := "loop.example/g00831/laws.FnExactRefusalLine", spec := "fnExactRefusalLine", inPlace := ["internal/abi.NoEscape", "internal/bytealg.MakeNoZero"], unfollowed := true, recurses := true, apart := false }
def FnExactRefusalLineSaid : Prop := fnExactRefusalLineRow.holds Tryz.pinned (OpenSpec.ofChange fnExactRefusalLineSpec)

/-- ITS FALSE NEIGHBOUR: 'it returns false'. Refute it at one input. -/
def fnExactRefusalLineWrong : ChangeSpec := { name := "fnExactRefusalLine", fn := fun _ => fun
  | [d1, d2] => { results := [.lit (.bool false)], args := [d1, d2] }
  | _ => none }
def FnExactRefusalLineWrongFalsely : Prop := fnExactRefusalLineRow.holds Tryz.pinned (OpenSpec.ofChange fnExactRefusalLineWrong)

/-- 'laws.FnExactClosedPlan': WHATEVER THE INPUT: true; the input reads as it did. -/
def fnExactClosedPlanSpec : ChangeSpec := { name := "fnExactClosedPlan", fn := fun _ => fun
  | [d1, d2, d3] => { results := [.lit (.bool true)], args := [d1, d2, d3] }
  | _ => none }
def fnExactClosedPlanRow : OpenClaim := { program := "ytmgfndipofbbaaagreat", sum := "a9fc334a5b767a62ba97203c1207274d6d80ea34bb7c9c9344802c25112d8130", func := "loop.example/g00831/laws.FnExactClosedPlan", spec := "fnExactClosedPlan", unfollowed := true, recurses := true, apart := false }
def FnExactClosedPlanSaid : Prop := fnExactClosedPlanRow.holds Tryz.pinned (OpenSpec.ofChange fnExactClosedPlanSpec)

/-- ITS FALSE NEIGHBOUR: 'it returns false'. Refute it at one input. -/
def fnExactClosedPlanWrong : ChangeSpec := { name := "fnExactClosedPlan", fn := fun _ => fun
  | [d1, d2, d3] => { results := [.lit (.bool false)], args := [d1, d2, d3] }
  | _ => none }
def FnExactClosedPlanWrongFalsely : Prop := fnExactClosedPlanRow.holds Tryz.pinned (OpenSpec.ofChange fnExactClosedPlanWrong)

/-- 'laws.FnExactDivertedCalls': WHATEVER THE INPUT: true; the input reads as it did. -/
def fnExactDivertedCallsSpec : ChangeSpec := { name := "fnExactDivertedCalls", fn := fun _ => fun
  | [d1, d2, d3] => { results := [.lit (.bool true)], args := [d1, d2, d3] }
  | _ => none }
def fnExactDivertedCallsRow : OpenClaim := { program := "ytmgfndipofbbaaagreat", sum := "a9fc334a5b767a62ba97203c1207274d6d80ea34bb7c9c9344802c25112d8130", func := "loop.example/g00831/laws.FnExactDivertedCalls", spec := "fnExactDivertedCalls", unfollowed := true, recurses := true, apart := false }
def FnExactDivertedCallsSaid : Prop := fnExactDivertedCallsRow.holds Tryz.pinned (OpenSpec.ofChange fnExactDivertedCallsSpec)

/-- ITS FALSE NEIGHBOUR: 'it returns false'. Refute it at one input. -/
def fnExactDivertedCallsWrong : ChangeSpec := { name := "fnExactDivertedCalls", fn := fun _ => fun
  | [d1, d2, d3] => { results := [.lit (.bool false)], args := [d1, d2, d3] }
  | _ => none }
def FnExactDivertedCallsWrongFalsely : Prop := fnExactDivertedCallsRow.holds Tryz.pinned (OpenSpec.ofChange fnExactDivertedCallsWrong)

/-- 'laws.FnExactChangePlan': WHATEVER THE INPUT: true; the input reads as it did. -/
def fnExactChangePlanSpec : ChangeSpec := { name := "fnExactChangePlan", fn := fun _ => fun
  | [d1, d2, d3] => { results := [.lit (.bool true)], args := [d1, d2, d3] }
  | _ => none }
def fnExactChangePlanRow : OpenClaim := { program := "ytmgfndipofbbaaagreat", sum := "a9fc334a5b767a62ba97203c1207274d6d80ea34bb7c9c9344802c25112d8130", func := "loop.example/g00831/laws.FnExactChangePlan", spec := "fnExactChangePlan", unfollowed := true, recurses := true, apart := false }
def FnExactChangePlanSaid : Prop := fnExactChangePlanRow.holds Tryz.pinned (OpenSpec.ofChange fnExactChangePlanSpec)

/-- ITS FALSE NEIGHBOUR: 'it returns false'. Refute it at one input. -/
def fnExactChangePlanWrong : ChangeSpec := { name := "fnExactChangePlan", fn := fun _ => fun
  | [d1, d2, d3] => { results := [.lit (.bool false)], args := [d1, d2, d3] }
  | _ => none }
def FnExactChangePlanWrongFalsely : Prop := fnExactChangePlanRow.holds Tryz.pinned (OpenSpec.ofChange fnExactChangePlanWrong)

/- THE SECOND FORM. 'bulk': how many values and letters a reading holds, each counted each time it is reached (what is shared counts as often as it is met; a slice's spare places count too). A statement '..UptoSaid' is the law's where the arguments, and the package variables that the reading takes, are together of bulk at most 1048576: NARROWER than '..Said'. Prove '..Said' where nothing that the law and all that it calls make is longer than what came in: it says more and counts as full. Else prove '..UptoSaid'. A law counts once. -/
mutual
def uptoBulk {H : Type} : DataW H → Nat
  | .lit (.string bytes) => bytes.length + 1
  | .lit _ => 1
  | .nil => 1
  | .ptr d => uptoBulk d + 1
  | .slice elems spare => uptoBulkAll elems + uptoBulkAll spare + 1
  | .agg parts => uptoBulkAll parts + 1
  | .iface _ d => uptoBulk d + 1
  | .map entries => uptoBulkEntries entries + 1
  | .held _ => 1
def uptoBulkAll {H : Type} : List (DataW H) → Nat
  | [] => 0
  | d :: r => uptoBulk d + uptoBulkAll r
def uptoBulkEntries {H : Type} : List (Lit × DataW H) → Nat
  | [] => 0
  | x :: r => uptoBulkEntry x + uptoBulkEntries r
def uptoBulkEntry {H : Type} : Lit × DataW H → Nat
  | (.string bytes, d) => bytes.length + uptoBulk d + 1
  | (_, d) => uptoBulk d + 1
 end
def uptoSmall : (H : Type) → List (DataW H) → Bool := fun _ ds => decide (uptoBulkAll ds ≤ 1048576)
def OpenSpec.upto (s : _root_.Go.ChangeSpec) : _root_.Go.OpenSpec := { _root_.Go.OpenSpec.ofChange s with cond := some uptoSmall }

/-- 'laws.FnClosures', WHERE WHAT IT READS IS OF BULK AT MOST 1048576: true; the input reads as it did. -/
def fnClosuresUptoRow : OpenClaim := { program := "ytmgfndipofbbaaagreat", sum := "a9fc334a5b767a62ba97203c1207274d6d80ea34bb7c9c9344802c25112d8130", func := "loop.example/g00831/laws.FnClosures", spec := "fnClosures", unfollowed := true, recurses := true, apart := false, narrowed := true }
def FnClosuresUptoSaid : Prop := fnClosuresUptoRow.holds Tryz.pinned (OpenSpec.upto fnClosuresSpec)

/-- 'laws.FnFair', WHERE WHAT IT READS IS OF BULK AT MOST 1048576: true; the input reads as it did. -/
def fnFairUptoRow : OpenClaim := { program := "ytmgfndipofbbaaagreat", sum := "a9fc334a5b767a62ba97203c1207274d6d80ea34bb7c9c9344802c25112d8130", func := "loop.example/g00831/laws.FnFair", spec := "fnFair", unfollowed := true, recurses := true, apart := false, narrowed := true }
def FnFairUptoSaid : Prop := fnFairUptoRow.holds Tryz.pinned (OpenSpec.upto fnFairSpec)

/-- 'laws.FnAdverse', WHERE WHAT IT READS IS OF BULK AT MOST 1048576: true; the input reads as it did. -/
def fnAdverseUptoRow : OpenClaim := { program := "ytmgfndipofbbaaagreat", sum := "a9fc334a5b767a62ba97203c1207274d6d80ea34bb7c9c9344802c25112d8130", func := "loop.example/g00831/laws.FnAdverse", spec := "fnAdverse", unfollowed := true, recurses := true, apart := false, narrowed := true }
def FnAdverseUptoSaid : Prop := fnAdverseUptoRow.holds Tryz.pinned (OpenSpec.upto fnAdverseSpec)

/-- 'laws.FnAccounts', WHERE WHAT IT READS IS OF BULK AT MOST 1048576: true; the input reads as it did. -/
def fnAccountsUptoRow : OpenClaim := { program := "ytmgfndipofbbaaagreat", sum := "a9fc334a5b767a62ba97203c1207274d6d80ea34bb7c9c9344802c25112d8130", func := "loop.example/g00831/laws.FnAccounts", spec := "fnAccounts", unfollowed := true, recurses := true, apart := false, narrowed := true }
def FnAccountsUptoSaid : Prop := fnAccountsUptoRow.holds Tryz.pinned (OpenSpec.upto fnAccountsSpec)

/-- 'laws.FnExactOpenOptions', WHERE WHAT IT READS IS OF BULK AT MOST 1048576: true; the input reads as it did. -/
def fnExactOpenOptionsUptoRow : OpenClaim := { program := "ytmgfndipofbbaaagreat", sum := "a9fc334a5b767a62ba97203c1207274d6d80ea34bb7c9c9344802c25112d8130", func := "loop.example/g00831/laws.FnExactOpenOptions", spec := "fnExactOpenOptions", unfollowed := true, recurses := true, apart := false, narrowed := true }
def FnExactOpenOptionsUptoSaid : Prop := fnExactOpenOptionsUptoRow.holds Tryz.pinned (OpenSpec.upto fnExactOpenOptionsSpec)

/-- 'laws.FnExactFairPlan', WHERE WHAT IT READS IS OF BULK AT MOST 1048576: true; the input reads as it did. -/
def fnExactFairPlanUptoRow : OpenClaim := { program := "ytmgfndipofbbaaagreat", sum := "a9fc334a5b767a62ba97203c1207274d6d80ea34bb7c9c9344802c25112d8130", func := "loop.example/g00831/laws.FnExactFairPlan", spec := "fnExactFairPlan", unfollowed := true, recurses := true, apart := false, narrowed := true }
def FnExactFairPlanUptoSaid : Prop := fnExactFairPlanUptoRow.holds Tryz.pinned (OpenSpec.upto fnExactFairPlanSpec)

/-- 'laws.FnExactAccountOf', WHERE WHAT IT READS IS OF BULK AT MOST 1048576: true; the input reads as it did. -/
def fnExactAccountOfUptoRow : OpenClaim := { program := "ytmgfndipofbbaaagreat", sum := "a9fc334a5b767a62ba97203c1207274d6d80ea34bb7c9c9344802c25112d8130", func := "loop.example/g00831/laws.FnExactAccountOf", spec := "fnExactAccountOf", unfollowed := true, recurses := true, apart := false, narrowed := true }
def FnExactAccountOfUptoSaid : Prop := fnExactAccountOfUptoRow.holds Tryz.pinned (OpenSpec.upto fnExactAccountOfSpec)

/-- 'laws.FnExactRefusalLine', WHERE WHAT IT READS IS OF BULK AT MOST 1048576: true; the input reads as it did. -/
def fnExactRefusalLineUptoRow : OpenClaim := { program := "ytmgfndipofbbaaagreat", sum := "a9fc334a5b767a62ba97203c1207274d6d80ea34bb7c9c9344802c25112d8130", func := "loop.example/g00831/laws.FnExactRefusalLine", spec := "fnExactRefusalLine", inPlace := ["internal/abi.NoEscape", "internal/bytealg.MakeNoZero"], unfollowed := true, recurses := true, apart := false, narrowed := true }
def FnExactRefusalLineUptoSaid : Prop := fnExactRefusalLineUptoRow.holds Tryz.pinned (OpenSpec.upto fnExactRefusalLineSpec)

/-- 'laws.FnExactClosedPlan', WHERE WHAT IT READS IS OF BULK AT MOST 1048576: true; the input reads as it did. -/
def fnExactClosedPlanUptoRow : OpenClaim := { program := "ytmgfndipofbbaaagreat", sum := "a9fc334a5b767a62ba97203c1207274d6d80ea34bb7c9c9344802c25112d8130", func := "loop.example/g00831/laws.FnExactClosedPlan", spec := "fnExactClosedPlan", unfollowed := true, recurses := true, apart := false, narrowed := true }
def FnExactClosedPlanUptoSaid : Prop := fnExactClosedPlanUptoRow.holds Tryz.pinned (OpenSpec.upto fnExactClosedPlanSpec)

/-- 'laws.FnExactDivertedCalls', WHERE WHAT IT READS IS OF BULK AT MOST 1048576: true; the input reads as it did. -/
def fnExactDivertedCallsUptoRow : OpenClaim := { program := "ytmgfndipofbbaaagreat", sum := "a9fc334a5b767a62ba97203c1207274d6d80ea34bb7c9c9344802c25112d8130", func := "loop.example/g00831/laws.FnExactDivertedCalls", spec := "fnExactDivertedCalls", unfollowed := true, recurses := true, apart := false, narrowed := true }
def FnExactDivertedCallsUptoSaid : Prop := fnExactDivertedCallsUptoRow.holds Tryz.pinned (OpenSpec.upto fnExactDivertedCallsSpec)

/-- 'laws.FnExactChangePlan', WHERE WHAT IT READS IS OF BULK AT MOST 1048576: true; the input reads as it did. -/
def fnExactChangePlanUptoRow : OpenClaim := { program := "ytmgfndipofbbaaagreat", sum := "a9fc334a5b767a62ba97203c1207274d6d80ea34bb7c9c9344802c25112d8130", func := "loop.example/g00831/laws.FnExactChangePlan", spec := "fnExactChangePlan", unfollowed := true, recurses := true, apart := false, narrowed := true }
def FnExactChangePlanUptoSaid : Prop := fnExactChangePlanUptoRow.holds Tryz.pinned (OpenSpec.upto fnExactChangePlanSpec)

end Rows
end Go.Proofs.YtmgfndipofbbaaaGreat
