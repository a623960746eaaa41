/-
The value level. No condition.
-/
import Derived.Test.YthcejlnjploddaaGreatDoorBVi40
import Derived.KernelRfl
namespace Go.Vi
set_option linter.all false
open _root_ renaming List → T, Nat → F
theorem U8{n:F}{h:n<2 ^ 8}:UInt8.ofBitVec (BitVec.ofFin ⟨n,h⟩)=UInt8.ofNat n:=by
 apply UInt8.toNat_inj.1
 simp[UInt8.toNat,UInt8.ofNat,BitVec.toNat];omega
def Ja(c:Xi):Xi:=c
def Xi.cnt:Xi→F
 | .seq x y=>x.cnt+y.cnt+1
 | .cond _ x y=>x.cnt+y.cnt+1
 | .block _ c=>c.cnt+1
 | .loop c=>c.cnt+1
 | _=>1
abbrev Hw:=T (F × T F × T F × T F) × T (F × F × AItem)
abbrev h0:Hw:=([],[])
def Hw.cut(H:Hw)(n:F)(c:Xi):Xi:=match H.1.lookup n with | some (a,b,r)=>Ja (.seq (.reg [(none,.keep a b r)]) c) | none=>c
def L6(n:F):T (F × F × AItem)→T AItem→T AItem
 | [],l=>l
 | (m,j,x)::r,l=>bif m==n then L6 n r (l.take j++x::l.drop j) else L6 n r l
def Cu(H:Hw):F→Xi→Xi
 | n,.seq x y=>H.cut n (.seq (Cu H (n+1) x) (Cu H (n+1+x.cnt) y))
 | n,.cond c x y=>H.cut n (.cond c (Cu H (n+1) x) (Cu H (n+1+x.cnt) y))
 | n,.block i c=>H.cut n (.block i (Cu H (n+1) c))
 | n,.loop c=> .loop (H.cut n (Cu H (n+1) c))
 | n,.reg l=>H.cut n (.reg (L6 n H.2 l))
 | n,.pan l x=>H.cut n (.pan (L6 n H.2 l) x)
 | n,.cal l d f xs=>H.cut n (.cal (L6 n H.2 l) d f xs)
 | n,.drw l=>H.cut n (match L6 n H.2 [] with | []=> .drw l | s=> .seq (.reg s) (.drw l))
 | n,c=>H.cut n c
def Jl(H:Hw)(t:F):F→Xi→T Fr→T Fr
 | n,.seq x y,k=>bif t==n then .code (Cu H n (.seq x y))::k else bif Nat.blt t (n+1+x.cnt) then Jl H t (n+1) x (.code (Cu H (n+1+x.cnt) y)::k) else Jl H t (n+1+x.cnt) y k
 | n,.cond c x y,k=>bif t==n then .code (Cu H n (.cond c x y))::k else bif Nat.blt t (n+1+x.cnt) then Jl H t (n+1) x k else Jl H t (n+1+x.cnt) y k
 | n,.block i c,k=>bif t==n then .code (Cu H n (.block i c))::k else Jl H t (n+1) c (.blk i::k)
 | n,.loop c,k=>bif t==n then .code (Cu H n (.loop c))::k else Jl H t (n+1) c (.code (Cu H n (.loop c))::k)
 | n,c,k=> .code (Cu H n c)::k
def PF(P:Program)(f:F):Xi:=match BM P f with | some e=>e.1 | none=> .skip
def sk(P:Program)(f:F)(H:Hw)(t:F):T Fr:=Jl H t 0 (PF P f) []
abbrev Ei(P:Program)(f:F)(H:Hw):Xi:=Cu H 0 (PF P f)
abbrev Kh(P:Program)(f:F)(H:Hw)(t:F)(A B C:T F)(τ:St)(Q:Xn→St→Prop):Prop:=∀{σ:St},σ.kept A B C=τ→∀{S:T Fr},S=sk P f H t→go P S Q .normal (some σ)
theorem F4{P:Program}{f:F}(H:Hw){Q:Xn→St→Prop}{σ:St}(h:∀S,S=sk P f H 0→go P S Q .normal (some σ))(hs:sk P f H 0= [.code (Cu H 0 (PF P f))]:=by kernel_rfl):go P [.code (Ei P f H)] Q .normal (some σ):=h _ hs.symm
theorem AA{P:Program}{c:Xi}{k:T Fr}{Q:Xn→St→Prop}{σ:Option St}(h:go P (.code c::k) Q .normal σ):go P (.code (Ja c)::k) Q .normal σ:=h
theorem A4{P:Program}(hm:P.follows .mixedOrders=true)(H:Hw)(ts:T RV)(nt:F){f:FuncId}{ds:T DV}{rs:T R1}(h:∀S,S=sk P f H 0→go P S (A7 ts rs) .normal (some (St.init ds)))(he:BM P f=some ((Ei P f H).strip,ts,nt):=by kernel_rfl)(hs:sk P f H 0= [.code (Cu H 0 (PF P f))]:=by kernel_rfl)(hl:Nat.ble ds.length nt=true:=by exact rfl):FC P f ds rs:=cw hm he hl (F4 H h hs)
theorem ev{P:Program}{Q:Xn→St→Prop}{x:Xn}{σ:Option St}{S E S1 S2:T Fr}(hS:S=E)(h:go P S2 Q x σ)(e1:E=S1:=by conv=>lhs; reduce)(e2:S1=S2:=by first | (simp only[Int.reduceOfNat,Int.reduceNegSucc,U8,UInt8.reduceOfNat]; done) | (simp only[Int.reduceOfNat,Int.reduceNegSucc,U8,UInt8.reduceOfNat]; rfl) | rfl):go P S Q x σ:=by rw[hS,e1,e2]; exact h
end Go.Vi
