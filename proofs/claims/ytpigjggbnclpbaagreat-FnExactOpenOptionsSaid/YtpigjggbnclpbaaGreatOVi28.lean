/-
The value level. No condition.
-/
import Derived.Test.YtpigjggbnclpbaaGreatOVi27
import Derived.IntWalk
namespace Go.Vi
set_option linter.all false
open _root_ renaming List → T
def D.Ok(d:D):Prop:=∃h v,Rep h d v
def DsOk(ds:T DV):Prop:=∃h vs,DVRels h ds vs
theorem D.Ok.int{k:IntKind}{n:Int}(h:(D.int k n).Ok):k.min≤n∧n≤k.max:=by
 obtain⟨_,_,h⟩:=h;cases h with | int a b=>exact⟨a,b⟩
theorem D.Ok.str{s:T UInt8}(h:(D.str s).Ok):s.length≤maxLen:=by
 obtain⟨_,_,h⟩:=h;cases h with | str a=>exact a
theorem Reps.ok{h:A6}:∀{ds:T D} {vs:T Value},Reps h ds vs→∀d∈ds,d.Ok
 | _,_,.nil,d,hd=>by simp at hd
 | _,_,.cons a b,d,hd=>by
  rcases List.mem_cons.1 hd with rfl|hd
  ·exact⟨_,_,a⟩
  ·exact Reps.ok b d hd
theorem RepRows.ok{h:A6}{sz:Nat}:∀{es:T (T D)} {vs:T Value},RepRows h sz es vs→∀r∈es,r.length=sz∧∀d∈r,d.Ok
 | _,_,.nil,r,hr=>by simp at hr
 | _,_,.cons a b c,r,hr=>by
  rcases List.mem_cons.1 hr with rfl|hr
  ·exact⟨a,b.ok⟩
  ·exact RepRows.ok c r hr
theorem D.Ok.sl{es:T (T D)}(h:(D.sl es).Ok):es.length≤maxLen∧∀r∈es,∀d∈r,d.Ok:=by
 obtain⟨_,_,h⟩:=h;cases h with
 | nil=>exact⟨Nat.zero_le _,by simp⟩
 | sl a b c d e f=>exact⟨by omega,fun r hr=>(c.ok r hr).2⟩
theorem D.Ok.pd{cs:T D}(h:(D.pd cs).Ok):∀d∈cs,d.Ok:=by
 obtain⟨_,_,h⟩:=h;cases h with | pd a b=>exact b.ok
theorem DsOk.sc{d:D}{ds:T DV}(h:DsOk (.sc d::ds)):d.Ok∧DsOk ds:=by
 obtain⟨_,_,h⟩:=h;cases h with | cons a b=>
 cases a with | sc a=>exact⟨⟨_,_,a⟩,⟨_,_,b⟩⟩
theorem DsOk.ag{cs:T D}{ds:T DV}(h:DsOk (.ag cs::ds)):(∀d∈cs,d.Ok)∧DsOk ds:=by
 obtain⟨_,_,h⟩:=h;cases h with | cons a b=>
 cases a with | ag a _=>exact⟨a.ok,⟨_,_,b⟩⟩
theorem Ws{P:Program}(hm:P.follows .mixedOrders=true){f:FuncId}{c:Xd}{ts:T RV}{nt:Nat}{ds:T DV}{rs:T R1}(he:AB P f=some (c.strip,ts,nt))(hl:ds.length≤nt)(h:DsOk ds→AT P c (Ac ts rs) (St.init ds)):FC P f ds rs:=
 fun w A vs hG hvs=>Wo hm he hl (h ⟨_,_,hvs⟩) w A vs hG hvs
theorem Au{n:Int}(h1: -9223372036854775808≤n)(h2:n≤9223372036854775807):IntKind.i64.wrap n=n:=IntWalk.i64_in n ⟨h1,h2⟩
theorem VS{i n:Nat}(h1:i<n)(h2:n≤maxLen):IntKind.i64.wrap ((i:Int)+1)=((i+1:Nat):Int):=by
 unfold maxLen at h2
 rw[Au (by omega) (by omega)];rfl
end Go.Vi
