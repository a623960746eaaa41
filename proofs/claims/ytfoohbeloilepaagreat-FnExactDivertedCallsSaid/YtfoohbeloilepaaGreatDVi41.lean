/-
The value level. No condition.
-/
import Derived.Test.YtfoohbeloilepaaGreatDVi40
import Derived.KernelRfl
namespace Go.Vi
set_option linter.all false
open _root_ renaming List → T, Nat → F
theorem Va{n:F}{h:n<2 ^ 8}:UInt8.ofBitVec (BitVec.ofFin ⟨n,h⟩)=UInt8.ofNat n:=by
 apply UInt8.toNat_inj.1
 simp[UInt8.toNat,UInt8.ofNat,BitVec.toNat];omega
def Hj(c:Xj):Xj:=c
def Xj.cnt:Xj→F
 | .seq x y=>x.cnt+y.cnt+1
 | .cond _ x y=>x.cnt+y.cnt+1
 | .block _ c=>c.cnt+1
 | .loop c=>c.cnt+1
 | _=>1
abbrev Hw:=T (F × T F × T F × T F) × T (F × F × AItem)
abbrev h0:Hw:=([],[])
def Hw.cut(H:Hw)(n:F)(c:Xj):Xj:=match H.1.lookup n with | some (a,b,r)=>Hj (.seq (.reg [(none,.keep a b r)]) c) | none=>c
def LG(n:F):T (F × F × AItem)→T AItem→T AItem
 | [],l=>l
 | (m,j,x)::r,l=>bif m==n then LG n r (l.take j++x::l.drop j) else LG n r l
def CJ(H:Hw):F→Xj→Xj
 | n,.seq x y=>H.cut n (.seq (CJ H (n+1) x) (CJ H (n+1+x.cnt) y))
 | n,.cond c x y=>H.cut n (.cond c (CJ H (n+1) x) (CJ H (n+1+x.cnt) y))
 | n,.block i c=>H.cut n (.block i (CJ H (n+1) c))
 | n,.loop c=> .loop (H.cut n (CJ H (n+1) c))
 | n,.reg l=>H.cut n (.reg (LG n H.2 l))
 | n,.pan l x=>H.cut n (.pan (LG n H.2 l) x)
 | n,.cal l d f xs=>H.cut n (.cal (LG n H.2 l) d f xs)
 | n,.drw l=>H.cut n (match LG n H.2 [] with | []=> .drw l | s=> .seq (.reg s) (.drw l))
 | n,c=>H.cut n c
def JM(H:Hw)(t:F):F→Xj→T Fr→T Fr
 | n,.seq x y,k=>bif t==n then .code (CJ H n (.seq x y))::k else bif Nat.blt t (n+1+x.cnt) then JM H t (n+1) x (.code (CJ H (n+1+x.cnt) y)::k) else JM H t (n+1+x.cnt) y k
 | n,.cond c x y,k=>bif t==n then .code (CJ H n (.cond c x y))::k else bif Nat.blt t (n+1+x.cnt) then JM H t (n+1) x k else JM H t (n+1+x.cnt) y k
 | n,.block i c,k=>bif t==n then .code (CJ H n (.block i c))::k else JM H t (n+1) c (.blk i::k)
 | n,.loop c,k=>bif t==n then .code (CJ H n (.loop c))::k else JM H t (n+1) c (.code (CJ H n (.loop c))::k)
 | n,c,k=> .code (CJ H n c)::k
def Qe(P:Program)(f:F):Xj:=match B1 P f with | some e=>e.1 | none=> .skip
def sk(P:Program)(f:F)(H:Hw)(t:F):T Fr:=JM H t 0 (Qe P f) []
abbrev C3(P:Program)(f:F)(H:Hw):Xj:=CJ H 0 (Qe P f)
abbrev Kh(P:Program)(f:F)(H:Hw)(t:F)(A B C:T F)(τ:St)(Q:Xo→St→Prop):Prop:=∀{σ:St},σ.kept A B C=τ→∀{S:T Fr},S=sk P f H t→go P S Q .normal (some σ)
theorem Cb{P:Program}{f:F}(H:Hw){Q:Xo→St→Prop}{σ:St}(h:∀S,S=sk P f H 0→go P S Q .normal (some σ))(hs:sk P f H 0= [.code (CJ H 0 (Qe P f))]:=by kernel_rfl):go P [.code (C3 P f H)] Q .normal (some σ):=h _ hs.symm
theorem Ax{P:Program}{c:Xj}{k:T Fr}{Q:Xo→St→Prop}{σ:Option St}(h:go P (.code c::k) Q .normal σ):go P (.code (Hj c)::k) Q .normal σ:=h
theorem A5{P:Program}(hm:P.follows .mixedOrders=true)(H:Hw)(ts:T RV)(nt:F){f:FuncId}{ds:T DV}{rs:T R1}(h:∀S,S=sk P f H 0→go P S (A8 ts rs) .normal (some (St.init ds)))(he:B1 P f=some ((C3 P f H).strip,ts,nt):=by kernel_rfl)(hs:sk P f H 0= [.code (CJ H 0 (Qe P f))]:=by kernel_rfl)(hl:Nat.ble ds.length nt=true:=by exact rfl):FC P f ds rs:=eN hm he hl (Cb H h hs)
theorem ev{P:Program}{Q:Xo→St→Prop}{x:Xo}{σ:Option St}{S E S1 S2:T Fr}(hS:S=E)(h:go P S2 Q x σ)(e1:E=S1:=by conv=>lhs; reduce)(e2:S1=S2:=by first | (simp only[Int.reduceOfNat,Int.reduceNegSucc,Va,UInt8.reduceOfNat]; done) | (simp only[Int.reduceOfNat,Int.reduceNegSucc,Va,UInt8.reduceOfNat]; rfl) | rfl):go P S Q x σ:=by rw[hS,e1,e2]; exact h
end Go.Vi
