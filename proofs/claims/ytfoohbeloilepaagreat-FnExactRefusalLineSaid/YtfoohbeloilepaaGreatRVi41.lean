/-
The value level. No condition.
-/
import Derived.Test.YtfoohbeloilepaaGreatRVi40
import Derived.KernelRfl
namespace Go.Vi
set_option linter.all false
open _root_ renaming List → T, Nat → F
theorem Au{n:F}{h:n<2 ^ 8}:UInt8.ofBitVec (BitVec.ofFin ⟨n,h⟩)=UInt8.ofNat n:=by
 apply UInt8.toNat_inj.1
 simp[UInt8.toNat,UInt8.ofNat,BitVec.toNat];omega
def IR(c:Xi):Xi:=c
def Xi.cnt:Xi→F
 | .seq x y=>x.cnt+y.cnt+1
 | .cond _ x y=>x.cnt+y.cnt+1
 | .block _ c=>c.cnt+1
 | .loop c=>c.cnt+1
 | _=>1
abbrev Hw:=T (F × T F × T F × T F) × T (F × F × AItem)
abbrev h0:Hw:=([],[])
def Hw.cut(H:Hw)(n:F)(c:Xi):Xi:=match H.1.lookup n with | some (a,b,r)=>IR (.seq (.reg [(none,.keep a b r)]) c) | none=>c
def Ky(n:F):T (F × F × AItem)→T AItem→T AItem
 | [],l=>l
 | (m,j,x)::r,l=>bif m==n then Ky n r (l.take j++x::l.drop j) else Ky n r l
def Cw(H:Hw):F→Xi→Xi
 | n,.seq x y=>H.cut n (.seq (Cw H (n+1) x) (Cw H (n+1+x.cnt) y))
 | n,.cond c x y=>H.cut n (.cond c (Cw H (n+1) x) (Cw H (n+1+x.cnt) y))
 | n,.block i c=>H.cut n (.block i (Cw H (n+1) c))
 | n,.loop c=> .loop (H.cut n (Cw H (n+1) c))
 | n,.reg l=>H.cut n (.reg (Ky n H.2 l))
 | n,.pan l x=>H.cut n (.pan (Ky n H.2 l) x)
 | n,.cal l d f xs=>H.cut n (.cal (Ky n H.2 l) d f xs)
 | n,.drw l=>H.cut n (match Ky n H.2 [] with | []=> .drw l | s=> .seq (.reg s) (.drw l))
 | n,c=>H.cut n c
def J1(H:Hw)(t:F):F→Xi→T Fr→T Fr
 | n,.seq x y,k=>bif t==n then .code (Cw H n (.seq x y))::k else bif Nat.blt t (n+1+x.cnt) then J1 H t (n+1) x (.code (Cw H (n+1+x.cnt) y)::k) else J1 H t (n+1+x.cnt) y k
 | n,.cond c x y,k=>bif t==n then .code (Cw H n (.cond c x y))::k else bif Nat.blt t (n+1+x.cnt) then J1 H t (n+1) x k else J1 H t (n+1+x.cnt) y k
 | n,.block i c,k=>bif t==n then .code (Cw H n (.block i c))::k else J1 H t (n+1) c (.blk i::k)
 | n,.loop c,k=>bif t==n then .code (Cw H n (.loop c))::k else J1 H t (n+1) c (.code (Cw H n (.loop c))::k)
 | n,c,k=> .code (Cw H n c)::k
def P0(P:Program)(f:F):Xi:=match Ch P f with | some e=>e.1 | none=> .skip
def sk(P:Program)(f:F)(H:Hw)(t:F):T Fr:=J1 H t 0 (P0 P f) []
abbrev H2(P:Program)(f:F)(H:Hw):Xi:=Cw H 0 (P0 P f)
abbrev Kh(P:Program)(f:F)(H:Hw)(t:F)(A B C:T F)(τ:St)(Q:Xn→St→Prop):Prop:=∀{σ:St},σ.kept A B C=τ→∀{S:T Fr},S=sk P f H t→go P S Q .normal (some σ)
theorem Jk{P:Program}{f:F}(H:Hw){Q:Xn→St→Prop}{σ:St}(h:∀S,S=sk P f H 0→go P S Q .normal (some σ))(hs:sk P f H 0= [.code (Cw H 0 (P0 P f))]:=by kernel_rfl):go P [.code (H2 P f H)] Q .normal (some σ):=h _ hs.symm
theorem AF{P:Program}{c:Xi}{k:T Fr}{Q:Xn→St→Prop}{σ:Option St}(h:go P (.code c::k) Q .normal σ):go P (.code (IR c)::k) Q .normal σ:=h
theorem A4{P:Program}(hm:P.follows .mixedOrders=true)(H:Hw)(ts:T RV)(nt:F){f:FuncId}{ds:T DV}{rs:T R1}(h:∀S,S=sk P f H 0→go P S (A7 ts rs) .normal (some (St.init ds)))(he:Ch P f=some ((H2 P f H).strip,ts,nt):=by kernel_rfl)(hs:sk P f H 0= [.code (Cw H 0 (P0 P f))]:=by kernel_rfl)(hl:Nat.ble ds.length nt=true:=by exact rfl):FC P f ds rs:=bK hm he hl (Jk H h hs)
end Go.Vi
