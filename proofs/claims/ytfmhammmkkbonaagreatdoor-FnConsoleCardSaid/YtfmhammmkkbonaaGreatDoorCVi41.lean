/-
The value level. No condition.
-/
import Derived.Test.YtfmhammmkkbonaaGreatDoorCVi40
import Derived.KernelRfl
namespace Go.Vi
set_option linter.all false
open _root_ renaming List → T, Nat → F
theorem Su{n:F}{h:n<2 ^ 8}:UInt8.ofBitVec (BitVec.ofFin ⟨n,h⟩)=UInt8.ofNat n:=by
 apply UInt8.toNat_inj.1
 simp[UInt8.toNat,UInt8.ofNat,BitVec.toNat];omega
def K9(c:Xg):Xg:=c
def Xg.cnt:Xg→F
 | .seq x y=>x.cnt+y.cnt+1
 | .cond _ x y=>x.cnt+y.cnt+1
 | .block _ c=>c.cnt+1
 | .loop c=>c.cnt+1
 | _=>1
abbrev Hw:=T (F × T F × T F × T F) × T (F × F × AItem)
abbrev h0:Hw:=([],[])
def Hw.cut(H:Hw)(n:F)(c:Xg):Xg:=match H.1.lookup n with | some (a,b,r)=>K9 (.seq (.reg [(none,.keep a b r)]) c) | none=>c
def JX(n:F):T (F × F × AItem)→T AItem→T AItem
 | [],l=>l
 | (m,j,x)::r,l=>bif m==n then JX n r (l.take j++x::l.drop j) else JX n r l
def Cy(H:Hw):F→Xg→Xg
 | n,.seq x y=>H.cut n (.seq (Cy H (n+1) x) (Cy H (n+1+x.cnt) y))
 | n,.cond c x y=>H.cut n (.cond c (Cy H (n+1) x) (Cy H (n+1+x.cnt) y))
 | n,.block i c=>H.cut n (.block i (Cy H (n+1) c))
 | n,.loop c=> .loop (H.cut n (Cy H (n+1) c))
 | n,.reg l=>H.cut n (.reg (JX n H.2 l))
 | n,.pan l x=>H.cut n (.pan (JX n H.2 l) x)
 | n,.cal l d f xs=>H.cut n (.cal (JX n H.2 l) d f xs)
 | n,.drw l=>H.cut n (match JX n H.2 [] with | []=> .drw l | s=> .seq (.reg s) (.drw l))
 | n,c=>H.cut n c
def Iz(H:Hw)(t:F):F→Xg→T Fr→T Fr
 | n,.seq x y,k=>bif t==n then .code (Cy H n (.seq x y))::k else bif Nat.blt t (n+1+x.cnt) then Iz H t (n+1) x (.code (Cy H (n+1+x.cnt) y)::k) else Iz H t (n+1+x.cnt) y k
 | n,.cond c x y,k=>bif t==n then .code (Cy H n (.cond c x y))::k else bif Nat.blt t (n+1+x.cnt) then Iz H t (n+1) x k else Iz H t (n+1+x.cnt) y k
 | n,.block i c,k=>bif t==n then .code (Cy H n (.block i c))::k else Iz H t (n+1) c (.blk i::k)
 | n,.loop c,k=>bif t==n then .code (Cy H n (.loop c))::k else Iz H t (n+1) c (.code (Cy H n (.loop c))::k)
 | n,c,k=> .code (Cy H n c)::k
def Er(P:Program)(f:F):Xg:=match AG P f with | some e=>e.1 | none=> .skip
def sk(P:Program)(f:F)(H:Hw)(t:F):T Fr:=Iz H t 0 (Er P f) []
abbrev Bq(P:Program)(f:F)(H:Hw):Xg:=Cy H 0 (Er P f)
abbrev Kh(P:Program)(f:F)(H:Hw)(t:F)(A B C:T F)(τ:St)(Q:Xn→St→Prop):Prop:=∀{σ:St},σ.kept A B C=τ→∀{S:T Fr},S=sk P f H t→go P S Q .normal (some σ)
theorem Bx{P:Program}{f:F}(H:Hw){Q:Xn→St→Prop}{σ:St}(h:∀S,S=sk P f H 0→go P S Q .normal (some σ))(hs:sk P f H 0= [.code (Cy H 0 (Er P f))]:=by kernel_rfl):go P [.code (Bq P f H)] Q .normal (some σ):=h _ hs.symm
theorem Aw{P:Program}{c:Xg}{k:T Fr}{Q:Xn→St→Prop}{σ:Option St}(h:go P (.code c::k) Q .normal σ):go P (.code (K9 c)::k) Q .normal σ:=h
theorem A2{P:Program}(hm:P.follows .mixedOrders=true)(H:Hw)(ts:T RV)(nt:F){f:FuncId}{ds:T DV}{rs:T R1}(h:∀S,S=sk P f H 0→go P S (A6 ts rs) .normal (some (St.init ds)))(he:AG P f=some ((Bq P f H).strip,ts,nt):=by kernel_rfl)(hs:sk P f H 0= [.code (Cy H 0 (Er P f))]:=by kernel_rfl)(hl:Nat.ble ds.length nt=true:=by exact rfl):FC P f ds rs:=SO hm he hl (Bx H h hs)
theorem ev{P:Program}{Q:Xn→St→Prop}{x:Xn}{σ:Option St}{S E S1 S2:T Fr}(hS:S=E)(h:go P S2 Q x σ)(e1:E=S1:=by conv=>lhs; reduce)(e2:S1=S2:=by first | (simp only[Int.reduceOfNat,Int.reduceNegSucc,Su,UInt8.reduceOfNat]; done) | (simp only[Int.reduceOfNat,Int.reduceNegSucc,Su,UInt8.reduceOfNat]; rfl) | rfl):go P S Q x σ:=by rw[hS,e1,e2]; exact h
end Go.Vi
