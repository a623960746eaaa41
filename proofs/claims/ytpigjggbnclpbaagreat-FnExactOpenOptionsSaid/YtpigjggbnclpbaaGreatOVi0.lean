/-
The value level. No condition.
-/
import Derived.Below
namespace Go.Vi
set_option linter.all false
def GoodW(_:World):Prop:=True
theorem GoodW.below{w w':World}(_:GoodW w)(_:RowKit.Below w.heap.size w w'):GoodW w':=trivial
end Go.Vi
