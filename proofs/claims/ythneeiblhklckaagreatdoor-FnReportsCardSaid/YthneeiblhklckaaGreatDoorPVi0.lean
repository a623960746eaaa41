/-
The value level. No condition.
-/
import Derived.Below
import Derived.Lib.AppendIntMem
import Derived.Test.YthneeiblhklckaaGreatDoorRows
namespace Go.Vi
set_option linter.all false
def Qc : String := Go.Proofs.YthneeiblhklckaaGreatDoor.Rows.fnReportsRow.named.headD ""
def GoodW(w:World):Prop:=Go.Lib.TabIs Go.Proofs.Tryz.prog w Qc .u64 Go.Lib.pow10Tab∧True
theorem GoodW.below{w w':World}(h:GoodW w)(b:RowKit.Below w.heap.size w w'):GoodW w':=⟨Go.Lib.tabBelow_of_tabIs h.1 w' b,⟨⟩⟩
end Go.Vi
