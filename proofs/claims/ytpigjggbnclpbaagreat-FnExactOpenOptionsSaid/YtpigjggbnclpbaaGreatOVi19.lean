/-
The value level. No condition.
-/
import Derived.Test.YtpigjggbnclpbaaGreatOVi18
namespace Go.Vi
set_option linter.all false
open Option renaming map_eq_some_iff → E, some → T
open List renaming mem_append → G, map_congr_left → L
open _root_ renaming List → F
structure Sub (τ σ:St) (S:F Nat):Prop where
 slot:∀q∈S,σ.get q=τ.get q
 bx:∀id cs,A1 τ.bx id=T cs→A1 σ.bx id=T cs
 rows:∀id r,A1 τ.rows id=T r→A1 σ.rows id=T r
section
variable {τ σ : St} {S : F Nat}
theorem Sub.val(H:Sub τ σ S){x:Opd}(hx:∀q∈x.slots,q∈S):σ.val x=τ.val x:=by
 cases x with
 | t n=>exact H.slot n (hx n (by simp[Opd.slots]))
 | c v=>rfl
theorem Sub.mono(H:Sub τ σ S){S':F Nat}(h:∀q∈S',q∈S):Sub τ σ S':=⟨fun q hq=>H.slot q (h q hq),H.bx,H.rows⟩
theorem Sub.bnd(H:Sub τ σ S){lo hi mx:Option Opd}(h1:∀q∈DF lo,q∈S)(h2:∀q∈DF hi,q∈S)(h3:∀q∈DF mx,q∈S)(n:Nat):D3 σ lo hi mx n=D3 τ lo hi mx n:=by
 have e:∀x:Opd,(∀q∈DF (T x),q∈S)→σ.val x=τ.val x:=fun x hx=>H.val hx
 unfold D3;cases mx<;>cases hi<;>cases lo<;>dsimp only<;>(try rw[e _ h1])<;>(try rw[e _ h2])<;>(try rw[e _ h3])
theorem Sub.pure(H:Sub τ σ S){o:AOp}{p:Nat × AV}(hS:∀q∈o.slots,q∈S)(h:τ.pure o=T p):σ.pure o=T p:=by
 cases o<;>simp only[AOp.slots,G,List.mem_flatMap] at hS
 case load d x agg n=>
  simp only[St.pure] at h ⊢
  rw[H.val hS];simp only[E] at h ⊢
  obtain⟨v,h1,h2⟩:=h;refine⟨v,?_,h2⟩;unfold Ca at h1 ⊢
  split at h1
  ·rename_i id off e
   split at h1
   ·rename_i cs hf
    simp only[H.bx _ _ hf];exact h1
   ·cases h1
  ·rename_i id i off e
   split at h1
   ·rename_i sz es hf
    simp only[H.rows _ _ hf];exact h1
   ·cases h1
  ·exact h1
  ·exact h1
  ·exact h1
  ·cases h1
 case faddr d x off=>
  simp only[St.pure] at h ⊢
  rw[H.val hS];simp only[E] at h ⊢
  obtain⟨v,h1,h2⟩:=h;refine⟨v,?_,h2⟩;unfold BX at h1 ⊢
  split at h1
  ·exact h1
  ·rename_i id i off e
   split at h1
   ·rename_i r hf
    simp only[H.rows _ _ hf];exact h1
   ·cases h1
  ·exact h1
  ·exact h1
  ·exact h1
  ·cases h1
 case iaddr d x i sz=>
  simp only[St.pure] at h ⊢
  rw[H.val fun q hq=>hS q (.inl hq),H.val fun q hq=>hS q (.inr hq)];simp only[E] at h ⊢
  obtain⟨v,h1,h2⟩:=h;refine⟨v,?_,h2⟩;unfold Cq at h1 ⊢
  split at h1
  ·exact h1
  ·exact h1
  ·exact h1
  ·rename_i id k i e1 e2
   split at h1
   ·rename_i sz' es hf
    simp only[H.rows _ _ hf];exact h1
   ·cases h1
  ·cases h1
 case aaddr d x i len sz=>
  simp only[St.pure] at h ⊢
  rw[H.val fun q hq=>hS q (.inl hq),H.val fun q hq=>hS q (.inr hq)];exact h
 case len d x=>
  simp only[St.pure] at h ⊢
  rw[H.val hS];simp only[E] at h ⊢
  obtain⟨v,h1,h2⟩:=h;refine⟨v,?_,h2⟩;unfold Db at h1 ⊢
  split at h1
  ·exact h1
  ·rename_i id e
   split at h1
   ·rename_i sz es hf
    simp only[H.rows _ _ hf];exact h1
   ·cases h1
  ·exact h1
  ·exact h1
  ·exact h1
  ·cases h1
 case sconv d x=>
  simp only[St.pure] at h ⊢
  rw[H.val hS];simp only[E] at h ⊢
  obtain⟨v,h1,h2⟩:=h;refine⟨v,?_,h2⟩;unfold FA at h1 ⊢
  split at h1
  ·exact h1
  ·rename_i id e
   split at h1
   ·rename_i sz es hf
    simp only[H.rows _ _ hf];exact h1
   ·cases h1
  ·cases h1
 case slc d sz x lo hi mx=>
  simp only[St.pure] at h ⊢
  rw[H.val fun q hq=>hS q (.inl (.inl (.inl hq)))];simp only[E] at h ⊢
  obtain⟨v,h1,h2⟩:=h;refine⟨v,?_,h2⟩;have hb:=H.bnd (lo:=lo) (hi:=hi) (mx:=mx) (fun q hq=>hS q (.inl (.inl (.inr hq)))) (fun q hq=>hS q (.inl (.inr hq))) (fun q hq=>hS q (.inr hq));unfold Cs at h1 ⊢
  split at h1
  ·simp only[hb]; exact h1
  ·rename_i id e
   split at h1
   ·rename_i sz es hf
    simp only[H.rows _ _ hf,hb];exact h1
   ·cases h1
  ·simp only[hb]; exact h1
  ·cases h1
 case sslc d x lo hi=>
  simp only[St.pure] at h ⊢
  rw[H.val fun q hq=>hS q (.inl (.inl hq))];have hb:=H.bnd (lo:=lo) (hi:=hi) (mx:=none) (fun q hq=>hS q (.inl (.inr hq))) (fun q hq=>hS q (.inr hq)) (fun q hq=>by simp[DF] at hq);unfold FB at h ⊢
  simp only[hb];exact h
 case pick d c a b=>
  simp only[St.pure] at h ⊢
  rw[H.val fun q hq=>hS q (.inl (.inl hq)),H.val fun q hq=>hS q (.inl (.inr hq)),H.val fun q hq=>hS q (.inr hq)];exact h
 case build d zs ps=>
  simp only[St.pure] at h ⊢
  have e:(ps.map fun p=>(p.1,p.2.1,σ.val p.2.2))=ps.map fun p=>(p.1,p.2.1,τ.val p.2.2):=by
   refine L fun p hp=> ?_
   rw[H.val fun q hq=>hS q ⟨p,hp,hq⟩]
  rw[e];exact h
 case mkf d f caps=>
  simp only[St.pure] at h ⊢
  have e:caps.map σ.val=caps.map τ.val:=L fun p hp=>H.val fun q hq=>hS q ⟨p,hp,hq⟩
  rw[e];exact h
 case mv | nilc | un | field | extr | slen | mkif | tass=>simp only[St.pure] at h ⊢; rw[H.val hS]; exact h
 case conv d k x=>simp only[St.pure] at h ⊢; rw[H.val hS]; exact h
 case zsl=>exact h
 case bin | beq | geq | idx | mm=>simp only[St.pure] at h ⊢; rw[H.val fun q hq=>hS q (.inl hq),H.val fun q hq=>hS q (.inr hq)]; exact h
 all_goals (simp[St.pure] at h)
theorem Sub.toD0(H:Sub τ σ S){c:AC}{d:D}(h:toD0 τ.rows c=T d):toD0 σ.rows c=T d:=by
 cases c<;>simp only[Vi.toD0] at h ⊢
 case own id=>
  split at h
  ·rename_i hf; rw[H.rows _ _ hf]; exact h
  ·cases h
 case osub id lo hi=>
  split at h
  ·rename_i hf; rw[H.rows _ _ hf]; exact h
  ·cases h
 all_goals exact h
theorem Sub.toD1(H:Sub τ σ S){c:AC}{d:D}(h:toD1 τ.rows c=T d):toD1 σ.rows c=T d:=by
 cases c with
 | old d'=>exact h
 | mix d'=>exact h
 | own id=>exact H.toD0 (c:= .own id) h
 | osub id lo hi=>exact H.toD0 (c:= .osub id lo hi) h
 | _=>exact h
theorem Sub.appSrc(H:Sub τ σ S){y:AV}{es:F (F D)}(h:appSrc τ.rows y=T es):appSrc σ.rows y=T es:=by
 unfold Vi.appSrc at h ⊢
 split at h
 ·split at h
  ·rename_i hd
   simp only[H.toD0 hd];exact h
  ·cases h
 ·cases h
theorem Sub.zapV(H:Sub τ σ S){d sz b:Nat}{X Y:AV}{p:Nat × Nat × F (F D)}(h:zapV τ.rows d sz b X Y=T p):zapV σ.rows d sz b X Y=T p:=by
 unfold Vi.zapV at h ⊢
 split at h
 ·split at h
  ·rename_i he
   simp only[H.appSrc he];exact h
  ·cases h
 ·cases h
theorem Sub.made(H:Sub τ σ S){o:AOp}{m:Mk}(hS:∀q∈o.slots,q∈S)(h:τ.made o=T m):σ.made o=T m:=by
 cases o<;>simp only[AOp.slots,G,List.mem_flatMap] at hS
 case box d x=>simp only[St.made] at h ⊢; rw[H.val hS]; exact h
 case alloc=>exact h
 case bslice d sz zs len ps=>
  simp only[St.made] at h ⊢
  have e:(ps.map fun p=>(p.1,σ.val p.2))=ps.map fun p=>(p.1,τ.val p.2):=by
   refine L fun p hp=> ?_
   rw[H.val fun q hq=>hS q ⟨p,hp,hq⟩]
  rw[e];exact h
 case mksl d sz bytes zs x y=>simp only[St.made] at h ⊢; rw[H.val fun q hq=>hS q (.inl hq),H.val fun q hq=>hS q (.inr hq)]; exact h
 case zap d sz b x y=>
  simp only[St.made,E] at h ⊢
  rw[H.val fun q hq=>hS q (.inl hq),H.val fun q hq=>hS q (.inr hq)];obtain⟨p,h1,h2⟩:=h;exact⟨p,H.zapV h1,h2⟩
 all_goals (simp[St.made] at h)
theorem TG{o:AOp}{m:Mk}(h:τ.made o=T m):σ.pure o=none:=by
 cases o<;>first | rfl | (simp[St.made] at h; done)
theorem Sub.toD0s(H:Sub τ σ S):∀{cs:F AC} {ds:F D},toD0s τ.rows cs=T ds→toD0s σ.rows cs=T ds
 | [],ds,h=>h
 | c::cs,ds,h=>by
  simp only[Vi.toD0s] at h ⊢
  split at h
  ·rename_i h1 h2
   rw[H.toD1 h1,H.toD0s h2];exact h
  ·cases h
theorem Sub.pdOf(H:Sub τ σ S){id off:Nat}{d:D}(h:τ.pdOf id off=T d):σ.pdOf id off=T d:=by
 unfold St.pdOf at h ⊢
 split at h
 ·rename_i hf
  rw[H.bx _ _ hf];simp only[E] at h ⊢
  obtain⟨ds,h1,h2⟩:=h;exact⟨ds,H.toD0s h1,h2⟩
 ·cases h
theorem Sub.pdsOf(H:Sub τ σ S):∀{ids:F Nat} {ds:F D},τ.pdsOf ids=T ds→σ.pdsOf ids=T ds
 | [],ds,h=>h
 | c::cs,ds,h=>by
  simp only[St.pdsOf] at h ⊢
  split at h
  ·rename_i h1 h2
   rw[H.pdOf h1,H.pdsOf h2];exact h
  ·cases h
theorem Sub.toD(H:Sub τ σ S){c:AC}{d:D}(h:τ.toD c=T d):σ.toD c=T d:=by
 cases c<;>simp only[St.toD] at h ⊢
 case pb=>exact H.pdOf h
 case pe id idx off=>
  split at h
  ·rename_i hf; rw[H.rows _ _ hf]; exact h
  ·cases h
 case clo f ids=>
  simp only[E] at h ⊢
  obtain⟨ds,h1,h2⟩:=h;exact⟨ds,H.pdsOf h1,h2⟩
 all_goals exact H.toD1 h
theorem Sub.toDV(H:Sub τ σ S){v:AV}{d:DV}(h:τ.toDV v=T d):σ.toDV v=T d:=by
 unfold St.toDV at h ⊢
 split at h
 ·simp only[E] at h ⊢
  obtain⟨x,h1,h2⟩:=h;exact⟨x,H.toD h1,h2⟩
 ·simp only[E] at h ⊢
  obtain⟨x,h1,h2⟩:=h;exact⟨x,H.toD0s h1,h2⟩
 ·cases h
theorem Sub.toDVs(H:Sub τ σ S):∀{xs:F Opd} {ds:F DV},(∀q∈xs.flatMap Opd.slots,q∈S)→τ.toDVs xs=T ds→σ.toDVs xs=T ds
 | [],ds,_,h=>h
 | x::xs,ds,hS,h=>by
  simp only[List.flatMap_cons,G] at hS
  simp only[St.toDVs] at h ⊢
  split at h
  ·rename_i h1 h2
   rw[H.val fun q hq=>hS q (.inl hq),H.toDV h1,H.toDVs (fun q hq=>hS q (.inr hq)) h2];exact h
  ·cases h
theorem Sub.toIVs(H:Sub τ σ S):∀{xs:F Opd} {ds:F DV},(∀q∈xs.flatMap Opd.slots,q∈S)→τ.toIVs xs=T ds→σ.toIVs xs=T ds
 | [],ds,_,h=>h
 | x::xs,ds,hS,h=>by
  simp only[List.flatMap_cons,G] at hS
  simp only[St.toIVs] at h ⊢
  split at h
  ·rename_i h1 h2
   rw[H.val fun q hq=>hS q (.inl hq),h1,H.toIVs (fun q hq=>hS q (.inr hq)) h2];exact h
  ·cases h
theorem Sub.handed(H:Sub τ σ S){P:Program}{f:FuncId}{xs:F Opd}{ds:F DV}{rs:F R1}(hS:∀q∈xs.flatMap Opd.slots,q∈S)(h:τ.handed P f xs ds rs):σ.handed P f xs ds rs:=
 h.imp (fun h=>⟨H.toDVs hS h.1,h.2⟩) fun h=>H.toIVs hS h
theorem Sub.handedV(H:Sub τ σ S){x:Opd}{xs:F Opd}{f:FuncId}{caps:F D}{ds:F DV}{rs:F R1}(hx:∀q∈x.slots,q∈S)(hS:∀q∈xs.flatMap Opd.slots,q∈S)(h:τ.handedV x xs f caps ds rs):σ.handedV x xs f caps ds rs:=by
 unfold St.handedV at h ⊢
 rw[H.val hx];exact h.imp (fun h=>⟨H.toDV h.1,H.toDVs hS h.2.1,h.2.2⟩) fun h=>⟨h.1,H.toIVs hS h.2⟩
end
end Go.Vi
