/-
The value level. No condition.
-/
import Derived.Test.YtdgododldkbndaaGreatFVi40
import Derived.KernelRfl
namespace Go.Vi
set_option linter.all false
open _root_ renaming List → T, Nat → F
theorem Ah{n:F}{h:n<2 ^ 8}:UInt8.ofBitVec (BitVec.ofFin ⟨n,h⟩)=UInt8.ofNat n:=by
 apply UInt8.toNat_inj.1
 simp[UInt8.toNat,UInt8.ofNat,BitVec.toNat];omega
def J4(c:Xh):Xh:=c
def Xh.cnt:Xh→F
 | .seq x y=>x.cnt+y.cnt+1
 | .cond _ x y=>x.cnt+y.cnt+1
 | .block _ c=>c.cnt+1
 | .loop c=>c.cnt+1
 | _=>1
abbrev Hw:=T (F × T F × T F × T F) × T (F × F × AItem)
abbrev h0:Hw:=([],[])
def Hw.cut(H:Hw)(n:F)(c:Xh):Xh:=match H.1.lookup n with | some (a,b,r)=>J4 (.seq (.reg [(none,.keep a b r)]) c) | none=>c
def KY(n:F):T (F × F × AItem)→T AItem→T AItem
 | [],l=>l
 | (m,j,x)::r,l=>bif m==n then KY n r (l.take j++x::l.drop j) else KY n r l
def CI(H:Hw):F→Xh→Xh
 | n,.seq x y=>H.cut n (.seq (CI H (n+1) x) (CI H (n+1+x.cnt) y))
 | n,.cond c x y=>H.cut n (.cond c (CI H (n+1) x) (CI H (n+1+x.cnt) y))
 | n,.block i c=>H.cut n (.block i (CI H (n+1) c))
 | n,.loop c=> .loop (H.cut n (CI H (n+1) c))
 | n,.reg l=>H.cut n (.reg (KY n H.2 l))
 | n,.pan l x=>H.cut n (.pan (KY n H.2 l) x)
 | n,.cal l d f xs=>H.cut n (.cal (KY n H.2 l) d f xs)
 | n,.drw l=>H.cut n (match KY n H.2 [] with | []=> .drw l | s=> .seq (.reg s) (.drw l))
 | n,c=>H.cut n c
def Jf(H:Hw)(t:F):F→Xh→T Fr→T Fr
 | n,.seq x y,k=>bif t==n then .code (CI H n (.seq x y))::k else bif Nat.blt t (n+1+x.cnt) then Jf H t (n+1) x (.code (CI H (n+1+x.cnt) y)::k) else Jf H t (n+1+x.cnt) y k
 | n,.cond c x y,k=>bif t==n then .code (CI H n (.cond c x y))::k else bif Nat.blt t (n+1+x.cnt) then Jf H t (n+1) x k else Jf H t (n+1+x.cnt) y k
 | n,.block i c,k=>bif t==n then .code (CI H n (.block i c))::k else Jf H t (n+1) c (.blk i::k)
 | n,.loop c,k=>bif t==n then .code (CI H n (.loop c))::k else Jf H t (n+1) c (.code (CI H n (.loop c))::k)
 | n,c,k=> .code (CI H n c)::k
def P8(P:Program)(f:F):Xh:=match B4 P f with | some e=>e.1 | none=> .skip
def sk(P:Program)(f:F)(H:Hw)(t:F):T Fr:=Jf H t 0 (P8 P f) []
abbrev BY(P:Program)(f:F)(H:Hw):Xh:=CI H 0 (P8 P f)
abbrev Kh(P:Program)(f:F)(H:Hw)(t:F)(A B C:T F)(τ:St)(Q:Xm→St→Prop):Prop:=∀{σ:St},σ.kept A B C=τ→∀{S:T Fr},S=sk P f H t→go P S Q .normal (some σ)
theorem C9{P:Program}{f:F}(H:Hw){Q:Xm→St→Prop}{σ:St}(h:∀S,S=sk P f H 0→go P S Q .normal (some σ))(hs:sk P f H 0= [.code (CI H 0 (P8 P f))]:=by kernel_rfl):go P [.code (BY P f H)] Q .normal (some σ):=h _ hs.symm
theorem Ay{P:Program}{c:Xh}{k:T Fr}{Q:Xm→St→Prop}{σ:Option St}(h:go P (.code c::k) Q .normal σ):go P (.code (J4 c)::k) Q .normal σ:=h
theorem A5{P:Program}(hm:P.follows .mixedOrders=true)(H:Hw)(ts:T RV)(nt:F){f:FuncId}{ds:T DV}{rs:T R1}(h:∀S,S=sk P f H 0→go P S (A8 ts rs) .normal (some (St.init ds)))(he:B4 P f=some ((BY P f H).strip,ts,nt):=by kernel_rfl)(hs:sk P f H 0= [.code (CI H 0 (P8 P f))]:=by kernel_rfl)(hl:Nat.ble ds.length nt=true:=by exact rfl):FC P f ds rs:=bG hm he hl (C9 H h hs)
end Go.Vi
