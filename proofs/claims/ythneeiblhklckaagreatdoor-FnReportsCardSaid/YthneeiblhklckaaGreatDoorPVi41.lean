/-
The value level. No condition.
-/
import Derived.Test.YthneeiblhklckaaGreatDoorPVi40
import Derived.KernelRfl
namespace Go.Vi
set_option linter.all false
open _root_ renaming List → T, Nat → F
theorem Ql{n:F}{h:n<2 ^ 8}:UInt8.ofBitVec (BitVec.ofFin ⟨n,h⟩)=UInt8.ofNat n:=by
 apply UInt8.toNat_inj.1
 simp[UInt8.toNat,UInt8.ofNat,BitVec.toNat];omega
def J1(c:Xg):Xg:=c
def Xg.cnt:Xg→F
 | .seq x y=>x.cnt+y.cnt+1
 | .cond _ x y=>x.cnt+y.cnt+1
 | .block _ c=>c.cnt+1
 | .loop c=>c.cnt+1
 | _=>1
abbrev Hw:=T (F × T F × T F × T F) × T (F × F × AItem)
abbrev h0:Hw:=([],[])
def Hw.cut(H:Hw)(n:F)(c:Xg):Xg:=match H.1.lookup n with | some (a,b,r)=>J1 (.seq (.reg [(none,.keep a b r)]) c) | none=>c
def IR(n:F):T (F × F × AItem)→T AItem→T AItem
 | [],l=>l
 | (m,j,x)::r,l=>bif m==n then IR n r (l.take j++x::l.drop j) else IR n r l
def C8(H:Hw):F→Xg→Xg
 | n,.seq x y=>H.cut n (.seq (C8 H (n+1) x) (C8 H (n+1+x.cnt) y))
 | n,.cond c x y=>H.cut n (.cond c (C8 H (n+1) x) (C8 H (n+1+x.cnt) y))
 | n,.block i c=>H.cut n (.block i (C8 H (n+1) c))
 | n,.loop c=> .loop (H.cut n (C8 H (n+1) c))
 | n,.reg l=>H.cut n (.reg (IR n H.2 l))
 | n,.pan l x=>H.cut n (.pan (IR n H.2 l) x)
 | n,.cal l d f xs=>H.cut n (.cal (IR n H.2 l) d f xs)
 | n,.drw l=>H.cut n (match IR n H.2 [] with | []=> .drw l | s=> .seq (.reg s) (.drw l))
 | n,c=>H.cut n c
def HD(H:Hw)(t:F):F→Xg→T Fr→T Fr
 | n,.seq x y,k=>bif t==n then .code (C8 H n (.seq x y))::k else bif Nat.blt t (n+1+x.cnt) then HD H t (n+1) x (.code (C8 H (n+1+x.cnt) y)::k) else HD H t (n+1+x.cnt) y k
 | n,.cond c x y,k=>bif t==n then .code (C8 H n (.cond c x y))::k else bif Nat.blt t (n+1+x.cnt) then HD H t (n+1) x k else HD H t (n+1+x.cnt) y k
 | n,.block i c,k=>bif t==n then .code (C8 H n (.block i c))::k else HD H t (n+1) c (.blk i::k)
 | n,.loop c,k=>bif t==n then .code (C8 H n (.loop c))::k else HD H t (n+1) c (.code (C8 H n (.loop c))::k)
 | n,c,k=> .code (C8 H n c)::k
def MA(P:Program)(f:F):Xg:=match AD P f with | some e=>e.1 | none=> .skip
def sk(P:Program)(f:F)(H:Hw)(t:F):T Fr:=HD H t 0 (MA P f) []
abbrev Bp(P:Program)(f:F)(H:Hw):Xg:=C8 H 0 (MA P f)
abbrev Kh(P:Program)(f:F)(H:Hw)(t:F)(A B C:T F)(τ:St)(Q:Xm→St→Prop):Prop:=∀{σ:St},σ.kept A B C=τ→∀{S:T Fr},S=sk P f H t→go P S Q .normal (some σ)
theorem Bv{P:Program}{f:F}(H:Hw){Q:Xm→St→Prop}{σ:St}(h:∀S,S=sk P f H 0→go P S Q .normal (some σ))(hs:sk P f H 0= [.code (C8 H 0 (MA P f))]:=by kernel_rfl):go P [.code (Bp P f H)] Q .normal (some σ):=h _ hs.symm
theorem Aw{P:Program}{c:Xg}{k:T Fr}{Q:Xm→St→Prop}{σ:Option St}(h:go P (.code c::k) Q .normal σ):go P (.code (J1 c)::k) Q .normal σ:=h
theorem A5{P:Program}(hm:P.follows .mixedOrders=true)(H:Hw)(ts:T RV)(nt:F){f:FuncId}{ds:T DV}{rs:T R1}(h:∀S,S=sk P f H 0→go P S (A9 ts rs) .normal (some (St.init ds)))(he:AD P f=some ((Bp P f H).strip,ts,nt):=by kernel_rfl)(hs:sk P f H 0= [.code (C8 H 0 (MA P f))]:=by kernel_rfl)(hl:Nat.ble ds.length nt=true:=by exact rfl):FC P f ds rs:=Qz hm he hl (Bv H h hs)
theorem ev{P:Program}{Q:Xm→St→Prop}{x:Xm}{σ:Option St}{S E S1 S2:T Fr}(hS:S=E)(h:go P S2 Q x σ)(e1:E=S1:=by conv=>lhs; reduce)(e2:S1=S2:=by first | (simp only[Int.reduceOfNat,Int.reduceNegSucc,Ql,UInt8.reduceOfNat]; done) | (simp only[Int.reduceOfNat,Int.reduceNegSucc,Ql,UInt8.reduceOfNat]; rfl) | rfl):go P S Q x σ:=by rw[hS,e1,e2]; exact h
end Go.Vi
