/-
The value level. No condition.
-/
import Derived.Test.YtpfcgapakfcllaaGreatDoorCVi40
import Derived.KernelRfl
namespace Go.Vi
set_option linter.all false
open _root_ renaming List → T, Nat → F
theorem OK{n:F}{h:n<2 ^ 8}:UInt8.ofBitVec (BitVec.ofFin ⟨n,h⟩)=UInt8.ofNat n:=by
 apply UInt8.toNat_inj.1
 simp[UInt8.toNat,UInt8.ofNat,BitVec.toNat];omega
def Gx(c:Xe):Xe:=c
def Xe.cnt:Xe→F
 | .seq x y=>x.cnt+y.cnt+1
 | .cond _ x y=>x.cnt+y.cnt+1
 | .block _ c=>c.cnt+1
 | .loop c=>c.cnt+1
 | _=>1
abbrev Hw:=T (F × T F × T F × T F) × T (F × F × AItem)
abbrev h0:Hw:=([],[])
def Hw.cut(H:Hw)(n:F)(c:Xe):Xe:=match H.1.lookup n with | some (a,b,r)=>Gx (.seq (.reg [(none,.keep a b r)]) c) | none=>c
def Gr(n:F):T (F × F × AItem)→T AItem→T AItem
 | [],l=>l
 | (m,j,x)::r,l=>bif m==n then Gr n r (l.take j++x::l.drop j) else Gr n r l
def BU(H:Hw):F→Xe→Xe
 | n,.seq x y=>H.cut n (.seq (BU H (n+1) x) (BU H (n+1+x.cnt) y))
 | n,.cond c x y=>H.cut n (.cond c (BU H (n+1) x) (BU H (n+1+x.cnt) y))
 | n,.block i c=>H.cut n (.block i (BU H (n+1) c))
 | n,.loop c=> .loop (H.cut n (BU H (n+1) c))
 | n,.reg l=>H.cut n (.reg (Gr n H.2 l))
 | n,.pan l x=>H.cut n (.pan (Gr n H.2 l) x)
 | n,.cal l d f xs=>H.cut n (.cal (Gr n H.2 l) d f xs)
 | n,.drw l=>H.cut n (match Gr n H.2 [] with | []=> .drw l | s=> .seq (.reg s) (.drw l))
 | n,c=>H.cut n c
def Fb(H:Hw)(t:F):F→Xe→T Fr→T Fr
 | n,.seq x y,k=>bif t==n then .code (BU H n (.seq x y))::k else bif Nat.blt t (n+1+x.cnt) then Fb H t (n+1) x (.code (BU H (n+1+x.cnt) y)::k) else Fb H t (n+1+x.cnt) y k
 | n,.cond c x y,k=>bif t==n then .code (BU H n (.cond c x y))::k else bif Nat.blt t (n+1+x.cnt) then Fb H t (n+1) x k else Fb H t (n+1+x.cnt) y k
 | n,.block i c,k=>bif t==n then .code (BU H n (.block i c))::k else Fb H t (n+1) c (.blk i::k)
 | n,.loop c,k=>bif t==n then .code (BU H n (.loop c))::k else Fb H t (n+1) c (.code (BU H n (.loop c))::k)
 | n,c,k=> .code (BU H n c)::k
def Dk(P:Program)(f:F):Xe:=match AB P f with | some e=>e.1 | none=> .skip
def sk(P:Program)(f:F)(H:Hw)(t:F):T Fr:=Fb H t 0 (Dk P f) []
abbrev By(P:Program)(f:F)(H:Hw):Xe:=BU H 0 (Dk P f)
abbrev Kh(P:Program)(f:F)(H:Hw)(t:F)(A B C:T F)(τ:St)(Q:Xj→St→Prop):Prop:=∀{σ:St},σ.kept A B C=τ→∀{S:T Fr},S=sk P f H t→go P S Q .normal (some σ)
theorem BG{P:Program}{f:F}(H:Hw){Q:Xj→St→Prop}{σ:St}(h:∀S,S=sk P f H 0→go P S Q .normal (some σ))(hs:sk P f H 0= [.code (BU H 0 (Dk P f))]:=by kernel_rfl):go P [.code (By P f H)] Q .normal (some σ):=h _ hs.symm
theorem An{P:Program}{c:Xe}{k:T Fr}{Q:Xj→St→Prop}{σ:Option St}(h:go P (.code c::k) Q .normal σ):go P (.code (Gx c)::k) Q .normal σ:=h
theorem A2{P:Program}(hm:P.follows .mixedOrders=true)(H:Hw)(ts:T RV)(nt:F){f:FuncId}{ds:T DV}{rs:T R1}(h:∀S,S=sk P f H 0→go P S (A4 ts rs) .normal (some (St.init ds)))(he:AB P f=some ((By P f H).strip,ts,nt):=by kernel_rfl)(hs:sk P f H 0= [.code (BU H 0 (Dk P f))]:=by kernel_rfl)(hl:Nat.ble ds.length nt=true:=by exact rfl):FC P f ds rs:=P2 hm he hl (BG H h hs)
theorem ev{P:Program}{Q:Xj→St→Prop}{x:Xj}{σ:Option St}{S E S1 S2:T Fr}(hS:S=E)(h:go P S2 Q x σ)(e1:E=S1:=by conv=>lhs; reduce)(e2:S1=S2:=by first | (simp only[Int.reduceOfNat,Int.reduceNegSucc,OK,UInt8.reduceOfNat]; done) | (simp only[Int.reduceOfNat,Int.reduceNegSucc,OK,UInt8.reduceOfNat]; rfl) | rfl):go P S Q x σ:=by rw[hS,e1,e2]; exact h
end Go.Vi
