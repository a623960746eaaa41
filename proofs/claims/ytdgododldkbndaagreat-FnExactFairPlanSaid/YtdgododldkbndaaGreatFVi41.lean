/-
The value level. No condition.
-/
import Derived.Test.YtdgododldkbndaaGreatFVi40
import Derived.KernelRfl
namespace Go.Vi
set_option linter.all false
open _root_ renaming List → T, Nat → F
def J3(c:Xh):Xh:=c
def Xh.cnt:Xh→F
 | .seq x y=>x.cnt+y.cnt+1
 | .cond _ x y=>x.cnt+y.cnt+1
 | .block _ c=>c.cnt+1
 | .loop c=>c.cnt+1
 | _=>1
abbrev Hw:=T (F × T F × T F × T F) × T (F × F × AItem)
abbrev h0:Hw:=([],[])
def Hw.cut(H:Hw)(n:F)(c:Xh):Xh:=match H.1.lookup n with | some (a,b,r)=>J3 (.seq (.reg [(none,.keep a b r)]) c) | none=>c
def KX(n:F):T (F × F × AItem)→T AItem→T AItem
 | [],l=>l
 | (m,j,x)::r,l=>bif m==n then KX n r (l.take j++x::l.drop j) else KX n r l
def CH(H:Hw):F→Xh→Xh
 | n,.seq x y=>H.cut n (.seq (CH H (n+1) x) (CH H (n+1+x.cnt) y))
 | n,.cond c x y=>H.cut n (.cond c (CH H (n+1) x) (CH H (n+1+x.cnt) y))
 | n,.block i c=>H.cut n (.block i (CH H (n+1) c))
 | n,.loop c=> .loop (H.cut n (CH H (n+1) c))
 | n,.reg l=>H.cut n (.reg (KX n H.2 l))
 | n,.pan l x=>H.cut n (.pan (KX n H.2 l) x)
 | n,.cal l d f xs=>H.cut n (.cal (KX n H.2 l) d f xs)
 | n,.drw l=>H.cut n (match KX n H.2 [] with | []=> .drw l | s=> .seq (.reg s) (.drw l))
 | n,c=>H.cut n c
def Je(H:Hw)(t:F):F→Xh→T Fr→T Fr
 | n,.seq x y,k=>bif t==n then .code (CH H n (.seq x y))::k else bif Nat.blt t (n+1+x.cnt) then Je H t (n+1) x (.code (CH H (n+1+x.cnt) y)::k) else Je H t (n+1+x.cnt) y k
 | n,.cond c x y,k=>bif t==n then .code (CH H n (.cond c x y))::k else bif Nat.blt t (n+1+x.cnt) then Je H t (n+1) x k else Je H t (n+1+x.cnt) y k
 | n,.block i c,k=>bif t==n then .code (CH H n (.block i c))::k else Je H t (n+1) c (.blk i::k)
 | n,.loop c,k=>bif t==n then .code (CH H n (.loop c))::k else Je H t (n+1) c (.code (CH H n (.loop c))::k)
 | n,c,k=> .code (CH H n c)::k
def P7(P:Program)(f:F):Xh:=match B3 P f with | some e=>e.1 | none=> .skip
def sk(P:Program)(f:F)(H:Hw)(t:F):T Fr:=Je H t 0 (P7 P f) []
abbrev BX(P:Program)(f:F)(H:Hw):Xh:=CH H 0 (P7 P f)
abbrev Kh(P:Program)(f:F)(H:Hw)(t:F)(A B C:T F)(τ:St)(Q:Xm→St→Prop):Prop:=∀{σ:St},σ.kept A B C=τ→∀{S:T Fr},S=sk P f H t→go P S Q .normal (some σ)
theorem C8{P:Program}{f:F}(H:Hw){Q:Xm→St→Prop}{σ:St}(h:∀S,S=sk P f H 0→go P S Q .normal (some σ))(hs:sk P f H 0= [.code (CH H 0 (P7 P f))]:=by kernel_rfl):go P [.code (BX P f H)] Q .normal (some σ):=h _ hs.symm
theorem Ax{P:Program}{c:Xh}{k:T Fr}{Q:Xm→St→Prop}{σ:Option St}(h:go P (.code c::k) Q .normal σ):go P (.code (J3 c)::k) Q .normal σ:=h
theorem A5{P:Program}(hm:P.follows .mixedOrders=true)(H:Hw)(ts:T RV)(nt:F){f:FuncId}{ds:T DV}{rs:T R1}(h:∀S,S=sk P f H 0→go P S (A8 ts rs) .normal (some (St.init ds)))(he:B3 P f=some ((BX P f H).strip,ts,nt):=by kernel_rfl)(hs:sk P f H 0= [.code (CH H 0 (P7 P f))]:=by kernel_rfl)(hl:Nat.ble ds.length nt=true:=by exact rfl):FC P f ds rs:=bF hm he hl (C8 H h hs)
end Go.Vi
