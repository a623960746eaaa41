/-
  The value level: what every world of a run holds that a contract may ask for (tables of Go's library). This seat asks for nothing. No condition.
-/
import Derived.Below
namespace Go.Vi
set_option linter.unusedSimpArgs false
set_option linter.unusedVariables false
def GoodW (_ : World) : Prop := True
theorem GoodW.below {w w' : World} (_ : GoodW w) (_ : RowKit.Below w.heap.size w w') : GoodW w' := trivial
end Go.Vi
