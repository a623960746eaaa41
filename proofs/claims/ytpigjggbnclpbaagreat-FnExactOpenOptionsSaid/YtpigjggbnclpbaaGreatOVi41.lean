/-
The value level. No condition.
-/
import Derived.Test.YtpigjggbnclpbaaGreatOVi40
import Derived.KernelRfl
namespace Go.Vi
set_option linter.all false
open _root_ renaming List → T, Nat → F
theorem Q4{n:F}{h:n<2 ^ 8}:UInt8.ofBitVec (BitVec.ofFin ⟨n,h⟩)=UInt8.ofNat n:=by
 apply UInt8.toNat_inj.1
 simp[UInt8.toNat,UInt8.ofNat,BitVec.toNat];omega
def H7(c:Xd):Xd:=c
def Xd.cnt:Xd→F
 | .seq x y=>x.cnt+y.cnt+1
 | .cond _ x y=>x.cnt+y.cnt+1
 | .block _ c=>c.cnt+1
 | .loop c=>c.cnt+1
 | _=>1
abbrev Hw:=T (F × T F × T F × T F) × T (F × F × AItem)
abbrev h0:Hw:=([],[])
def Hw.cut(H:Hw)(n:F)(c:Xd):Xd:=match H.1.lookup n with | some (a,b,r)=>H7 (.seq (.reg [(none,.keep a b r)]) c) | none=>c
def IB(n:F):T (F × F × AItem)→T AItem→T AItem
 | [],l=>l
 | (m,j,x)::r,l=>bif m==n then IB n r (l.take j++x::l.drop j) else IB n r l
def C4(H:Hw):F→Xd→Xd
 | n,.seq x y=>H.cut n (.seq (C4 H (n+1) x) (C4 H (n+1+x.cnt) y))
 | n,.cond c x y=>H.cut n (.cond c (C4 H (n+1) x) (C4 H (n+1+x.cnt) y))
 | n,.block i c=>H.cut n (.block i (C4 H (n+1) c))
 | n,.loop c=> .loop (H.cut n (C4 H (n+1) c))
 | n,.reg l=>H.cut n (.reg (IB n H.2 l))
 | n,.pan l x=>H.cut n (.pan (IB n H.2 l) x)
 | n,.cal l d f xs=>H.cut n (.cal (IB n H.2 l) d f xs)
 | n,.drw l=>H.cut n (match IB n H.2 [] with | []=> .drw l | s=> .seq (.reg s) (.drw l))
 | n,c=>H.cut n c
def Hf(H:Hw)(t:F):F→Xd→T Fr→T Fr
 | n,.seq x y,k=>bif t==n then .code (C4 H n (.seq x y))::k else bif Nat.blt t (n+1+x.cnt) then Hf H t (n+1) x (.code (C4 H (n+1+x.cnt) y)::k) else Hf H t (n+1+x.cnt) y k
 | n,.cond c x y,k=>bif t==n then .code (C4 H n (.cond c x y))::k else bif Nat.blt t (n+1+x.cnt) then Hf H t (n+1) x k else Hf H t (n+1+x.cnt) y k
 | n,.block i c,k=>bif t==n then .code (C4 H n (.block i c))::k else Hf H t (n+1) c (.blk i::k)
 | n,.loop c,k=>bif t==n then .code (C4 H n (.loop c))::k else Hf H t (n+1) c (.code (C4 H n (.loop c))::k)
 | n,c,k=> .code (C4 H n c)::k
def Mc(P:Program)(f:F):Xd:=match AB P f with | some e=>e.1 | none=> .skip
def sk(P:Program)(f:F)(H:Hw)(t:F):T Fr:=Hf H t 0 (Mc P f) []
abbrev By(P:Program)(f:F)(H:Hw):Xd:=C4 H 0 (Mc P f)
abbrev Kh(P:Program)(f:F)(H:Hw)(t:F)(A B C:T F)(τ:St)(Q:Xg→St→Prop):Prop:=∀{σ:St},σ.kept A B C=τ→∀{S:T Fr},S=sk P f H t→go P S Q .normal (some σ)
theorem BE{P:Program}{f:F}(H:Hw){Q:Xg→St→Prop}{σ:St}(h:∀S,S=sk P f H 0→go P S Q .normal (some σ))(hs:sk P f H 0= [.code (C4 H 0 (Mc P f))]:=by kernel_rfl):go P [.code (By P f H)] Q .normal (some σ):=h _ hs.symm
theorem AJ{P:Program}{c:Xd}{k:T Fr}{Q:Xg→St→Prop}{σ:Option St}(h:go P (.code c::k) Q .normal σ):go P (.code (H7 c)::k) Q .normal σ:=h
theorem A5{P:Program}(hm:P.follows .mixedOrders=true)(H:Hw)(ts:T RV)(nt:F){f:FuncId}{ds:T DV}{rs:T R1}(h:∀S,S=sk P f H 0→go P S (Ac ts rs) .normal (some (St.init ds)))(he:AB P f=some ((By P f H).strip,ts,nt):=by kernel_rfl)(hs:sk P f H 0= [.code (C4 H 0 (Mc P f))]:=by kernel_rfl)(hl:Nat.ble ds.length nt=true:=by exact rfl):FC P f ds rs:=Wp hm he hl (BE H h hs)
theorem ev{P:Program}{Q:Xg→St→Prop}{x:Xg}{σ:Option St}{S E S1 S2:T Fr}(hS:S=E)(h:go P S2 Q x σ)(e1:E=S1:=by conv=>lhs; reduce)(e2:S1=S2:=by first | (simp only[Int.reduceOfNat,Int.reduceNegSucc,Q4,UInt8.reduceOfNat]; done) | (simp only[Int.reduceOfNat,Int.reduceNegSucc,Q4,UInt8.reduceOfNat]; rfl) | rfl):go P S Q x σ:=by rw[hS,e1,e2]; exact h
end Go.Vi
