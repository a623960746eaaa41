/-
The value level. No condition.
-/
import Derived.Test.YtpigjggbnclpbaaGreatOVi28
namespace Go.Vi
set_option linter.all false
theorem law_true{P:Program}{f:FuncId}{ds:List DV}(hf:FC P f ds [.sc (.v (.bool true))]){w:World}(hG:GoodW w){vs:List Value}(hv:DVRels (AS w) ds vs) :
  Calls P f vs.toArray w fun e w'=>e= .returned (.bool true)∧RowKit.Below w.heap.size w w':=by
 refine(hf w (fun _ _=>True) vs hG (hv.mono fun b C h=>by
  obtain⟨c,t,fr,h1,h2⟩:=h;exact⟨c,t,fr,trivial,h1,h2⟩)).mono fun e w' h=> ?_
 obtain⟨v,bs,rfl,hb,hr,_⟩:=h;refine⟨?_,hb⟩;cases hr with
 | one hr=>
  cases hr with | sc hr=>
  cases hr with | v hr=>
  cases hr;rfl
 | many h=>simp at h
end Go.Vi
