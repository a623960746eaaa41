/-
  The value level: what every world of a run holds that a contract may ask for: the table of powers of ten of Go's library. No condition.
-/
import Derived.Below
import Derived.Lib.AppendIntMem
import Derived.Test.YtahienmgcfgclaaDoorRows
namespace Go.Vi
def tabN : String := Go.Proofs.YtahienmgcfgclaaDoor.Rows.fnExactStrategyLinesRow.named.headD ""
def GoodW (w : World) : Prop := Go.Lib.TabIs Go.Proofs.Tryd.prog w tabN .u64 Go.Lib.pow10Tab ∧ True
theorem GoodW.below {w w' : World} (h : GoodW w) (b : RowKit.Below w.heap.size w w') : GoodW w' := ⟨Go.Lib.tabBelow_of_tabIs h.1 w' b,trivial⟩
end Go.Vi
