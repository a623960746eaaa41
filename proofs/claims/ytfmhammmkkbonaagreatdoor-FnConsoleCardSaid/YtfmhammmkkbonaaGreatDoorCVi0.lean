/-
The value level. No condition.
-/
import Derived.Below
import Derived.Lib.AppendIntMem
import Derived.Test.YtfmhammmkkbonaaGreatDoorRows
namespace Go.Vi
set_option linter.all false
def Sk : String := (Go.Proofs.YtfmhammmkkbonaaGreatDoor.Rows.fnConsoleRow.named.drop 2).headD ""
def ErrIs(w:World)(n:String):Prop:=∃tp p,w.var? Go.Proofs.Tryz.prog n=some #[.iface tp p]
def GoodW (w : World) : Prop := Go.Lib.TabIs Go.Proofs.Tryz.prog w Sk .u64 Go.Lib.pow10Tab ∧ (ErrIs w "strconv.ErrSyntax" ∧ ErrIs w "strconv.ErrRange")
theorem xX{P:Program}{w w':World}{n:String}{cs:Array Value}(h:w.var? P n=some cs)(hb:RowKit.Below w.heap.size w w'):w'.var? P n=some cs:=by
 unfold World.var? at *
 cases hg:P.globalNamed n with
 | none=>simp[hg] at h
 | some g=>
  simp only[hg,Option.bind_some] at h ⊢
  have hlt:g<w.heap.size:=by
   rcases Nat.lt_or_ge g w.heap.size with h' | h'
   ·exact h'
   ·rw[Array.getElem?_eq_none h'] at h; simp at h
  rw[hb.block g hlt];exact h
theorem ErrIs.below{w w':World}{n:String}(h:ErrIs w n)(b:RowKit.Below w.heap.size w w'):ErrIs w' n:=by
 obtain⟨tp,p,h⟩:=h;exact⟨tp,p,xX h b⟩
theorem GoodW.below{w w':World}(h:GoodW w)(b:RowKit.Below w.heap.size w w'):GoodW w':=⟨Go.Lib.tabBelow_of_tabIs h.1 w' b,h.2.1.below b,h.2.2.below b⟩
end Go.Vi
