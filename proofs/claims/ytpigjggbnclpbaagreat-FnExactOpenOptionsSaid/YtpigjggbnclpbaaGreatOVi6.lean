/-
The value level. No condition.
-/
import Derived.Test.YtpigjggbnclpbaaGreatOVi5
namespace Go.Vi
set_option linter.all false
open Option renaming map_eq_some_iff → F
open Option.some renaming injEq → E
open _root_ renaming Option → T
section
variable {P : Program} {A : Ar} {B : Nat} {w0 : Base} {nm : Ad} {σ : St} {a : Act} {w : World} {X : Cx}
def DM(X:Cx)(σ:St):T Opd→T Value→Prop
 | none,none=>True
 | some y,some v=>VRel X (σ.val y) v
 | _,_=>False
theorem Ls(R:Rel A B w0 nm σ a.tmps w){x:T Operand}{y:T Opd}(hx:IM x=some y):DM (cx A nm σ w) σ y (x.map a.eval):=by
 cases x with
 | none=>simp[IM] at hx; subst hx; trivial
 | some x=>
  simp only[IM,F] at hx
  obtain⟨y',hy,rfl⟩:=hx;exact Al R hy
theorem Hz{ax:AV}{v:Value}{i:Int}(hx:VRel X ax v)(hi:BD ax=some i):∃k,v= .int k i:=by
 unfold BD at hi
 split at hi
 ·cases hi; exact⟨_,hx.inv_int.1⟩
 ·cases hi
theorem NK{k:IntKind}{i:Int}{y:Nat}{code:BoundsCode}(h0:0≤i)(h1:i≤y):(Instr.sliceBound (.int k i) y code).run P w= .ok i.toNat w:=by
 simp[Instr.sliceBound,asIntOf,h0,h1]
def Ll(vlo:T Value)(y:Nat)(code:BoundsCode)(m:Nat):Sem (Nat × Nat × Nat):=do
 let l ← match vlo with
  | some v=>Instr.sliceBound v y code
  | none=>pure 0
 pure (l,y,m)
theorem HF{isS:Bool}{len cap l r:Nat}{lo hi mx:T Opd}{vlo vhi vmx:T Value}(hc:len≤cap)(hnm:¬(hi=none∧mx≠none))
  (hlo:DM X σ lo vlo) (hhi:DM X σ hi vhi) (hmx:DM X σ mx vmx) (hb:D3 σ lo hi mx len=some (l,r)) :
  l≤r∧r≤len∧∃m,r≤m∧m≤cap∧(mx=none→m=cap)∧(Instr.sliceBounds isS len cap vlo vhi vmx).run P w= .ok (l,r,m) w:=by
 unfold D3 at hb
 split at hb
 ·rename_i m hh ll hm1 hh1 hl1
  split at hb
  ·rename_i hle
   simp only[E,Prod.mk.injEq] at hb
   obtain⟨rfl,rfl⟩:=hb;obtain⟨b0,b1,b2,b3⟩:=hle;refine⟨by omega,by omega,?_⟩
   have Hl:∀(y:Nat) (code:BoundsCode) (m':Nat),hh.toNat=y→(Ll vlo y code m').run P w= .ok (ll.toNat,y,m') w:=by
    intro y code m' hy;cases lo with
    | none=>
     cases vlo with
     | none=>simp only[E] at hl1; subst hl1; rfl
     | some v=>exact hlo.elim
    | some x=>
     cases vlo with
     | none=>exact hlo.elim
     | some v=>
      obtain⟨k,rfl⟩:=Hz hlo hl1;simp only[Ll,Sem.run_bind,NK (P:=P) (w:=w) (k:=k) (code:=code) b0 (show ll≤(y:Int) by omega),Result.andThen_ok,Sem.run_pure]
   cases mx with
   | none=>
    cases vmx with
    | some v=>exact hmx.elim
    | none=>
     simp only[E] at hm1
     subst hm1;refine⟨cap,by omega,Nat.le_refl _,fun _=>rfl,?_⟩;cases hi with
     | none=>
      cases vhi with
      | some v=>exact hhi.elim
      | none=>
       simp only[E] at hh1
       subst hh1;have h3:=Hl len .sliceB cap (by simp);have e:Instr.sliceBounds isS len cap vlo none none=Ll vlo len .sliceB cap:=by cases vlo<;>rfl
       rw[e,h3];simp
     | some x=>
      cases vhi with
      | none=>exact hhi.elim
      | some v=>
       obtain⟨k,rfl⟩:=Hz hhi hh1;have h3:=Hl hh.toNat .sliceB cap rfl;have h2:=NK (P:=P) (w:=w) (k:=k) (i:=hh) (y:=cap) (code:=if isS then .sliceAcap else .sliceAlen) (by omega) (by omega);have e:Instr.sliceBounds isS len cap vlo (some (.int k hh)) none=(do let q ← Instr.sliceBound (.int k hh) cap (if isS then .sliceAcap else .sliceAlen); Ll vlo q .sliceB cap):=by cases vlo<;>rfl
       rw[e,Sem.run_bind,h2];exact h3
   | some xm=>
    cases vmx with
    | none=>exact hmx.elim
    | some vm=>
     obtain⟨km,rfl⟩:=Hz hmx hm1;cases hi with
     | none=>exact absurd ⟨rfl,by simp⟩ hnm
     | some x=>
      cases vhi with
      | none=>exact hhi.elim
      | some v=>
       obtain⟨k,rfl⟩:=Hz hhi hh1;refine⟨m.toNat,by omega,by omega,fun h=>(by cases h),?_⟩;have h3:=Hl hh.toNat .slice3C m.toNat rfl;have h1:=NK (P:=P) (w:=w) (k:=km) (i:=m) (y:=cap) (code:=if isS then .slice3Acap else .slice3Alen) (by omega) (by omega);have h2:=NK (P:=P) (w:=w) (k:=k) (i:=hh) (y:=m.toNat) (code:= .slice3B) (by omega) (by omega);have e:Instr.sliceBounds isS len cap vlo (some (.int k hh)) (some (.int km m))=(do let c ← Instr.sliceBound (.int km m) cap (if isS then .slice3Acap else .slice3Alen); let q ← Instr.sliceBound (.int k hh) c .slice3B; Ll vlo q .slice3C c):=by cases vlo<;>rfl
       rw[e,Sem.run_bind,h1];simp only[Result.andThen_ok,Sem.run_bind,h2];exact h3
  ·cases hb
 ·cases hb
theorem Ze(s:List UInt8)(l r:Nat):(⟨s.toArray⟩:ByteArray).extract l r=⟨((s.drop l).take (r - l)).toArray⟩:=by
 apply ByteArray.ext
 simp[ByteArray.data_extract,List.extract_toArray]
theorem nu{t:TypeId}{ax r:AV}{vx:Value}{lo hi:T Opd}{vlo vhi:T Value}(hu:P.underlying t=some .string)
  (hx:VRel (cx A nm σ w) ax vx) (hlo:DM (cx A nm σ w) σ lo vlo) (hhi:DM (cx A nm σ w) σ hi vhi) (hr:FB σ ax lo hi=some r) :
  ∃v,(Instr.sliceAt t vx vlo vhi none).run P w= .ok v w∧VRel (cx A nm σ w) r v:=by
 unfold FB at hr
 split at hr
 ·rename_i s
  simp only[F] at hr
  obtain⟨⟨l,q⟩,hb,rfl⟩:=hr;obtain⟨rfl,hs⟩:=hx.inv_str;obtain⟨b1,b2,m,b3,b4,bm,hrun⟩:=HF (P:=P) (w:=w) (isS:=false) (cap:=s.length) (Nat.le_refl _) (by simp) hlo hhi (mx:=none) (vmx:=none) trivial hb;refine⟨.string ⟨((s.drop l).take (q - l)).toArray⟩,?_,Be (.dat (.str (by simp; omega)))⟩;simp[Instr.sliceAt,Instr.slice,run_underlying hu,M6,hrun,Ze]
 ·cases hr
theorem nr{t e:TypeId}{inf:TypeInfo}{ax r:AV}{vx:Value}{lo hi mx:T Opd}{vlo vhi vmx:T Value}(hu:P.underlying t=some (.slice e))(hi2:P.info? e=some inf)(hnm:¬(hi=none∧mx≠none))
  (hx:VRel (cx A nm σ w) ax vx) (hlo:DM (cx A nm σ w) σ lo vlo) (hhi:DM (cx A nm σ w) σ hi vhi) (hmx:DM (cx A nm σ w) σ mx vmx) (hr:Cs σ inf.size ax lo hi mx=some r) :
  ∃v,(Instr.sliceAt t vx vlo vhi vmx).run P w= .ok v w∧VRel (cx A nm σ w) r v:=by
 have key:∀(p:T Addr) (len cap l q m:Nat),(Instr.sliceBounds true len cap vlo vhi vmx).run P w= .ok (l,q,m) w→
   (Instr.sliceAt t (.slice p len cap) vlo vhi vmx).run P w= .ok (.slice (if m=l then p else p.map (·.add (l*inf.size))) (q - l) (m - l)) w:=by
  intro p len cap l q m hb;simp[Instr.sliceAt,Instr.slice,run_underlying hu,hb,sizeOf,typeInfo,hi2]
 unfold Cs at hr
 split at hr
 ·rename_i es
  split at hr
  ·rename_i hall
   simp only[F] at hr
   obtain⟨⟨l,q⟩,hb,rfl⟩:=hr;simp only[Bool.and_eq_true,List.all_eq_true,beq_iff_eq,decide_eq_true_eq] at hall
   have hx':=hx.inv_sc.inv_dat;cases hx' with
   | nil=>
    obtain⟨b1,b2,m,b3,b4,bm,hrun⟩:=HF (P:=P) (w:=w) (isS:=true) (len:=0) (Nat.zero_le _) hnm hlo hhi hmx hb;refine⟨_,key _ _ _ _ _ _ hrun,Be (.dat ?_)⟩;simp only[List.drop_nil,List.take_nil];rw[show q - l=0 by omega];exact .nil
   | @sl _ _ _ sz0 _ _ _ hC hpos hrows hlen hcap hmax=>
    subst hlen;obtain⟨b1,b2,m,b3,b4,bm,hrun⟩:=HF (P:=P) (w:=w) (isS:=true) hcap hnm hlo hhi hmx hb;refine⟨_,key _ _ _ _ _ _ hrun,Be (.dat ?_)⟩;by_cases hne:(es.drop l).take (q - l)= []
    ·have hql:q - l=0:=by
      have:=congrArg List.length hne;simp at this
      omega
     rw[hne,hql];exact .nil
    ·have hml:m≠l:=by
      intro e;apply hne
      rw[show q - l=0 by omega];simp
     rw[if_neg hml];simp only[Option.map_some,Addr.add_lit];have hd:∀d∈es,d.length=sz0:=hrows.all
     have hsz:sz0=inf.size:=by
      cases es with
      | nil=>simp at hne
      | cons d ds=>exact(hd d (by simp)).symm.trans (hall.1 d (by simp))
     refine .sl hC hpos ?_ (by simp; omega) (by omega) (by omega);have h1:=(hrows.dropRows l).takeRows (q - l);rw[List.drop_drop,hsz] at h1
     rw[hsz];exact h1
  ·cases hr
 ·rename_i id
  split at hr
  ·rename_i sz' es hf
   split at hr
   ·rename_i hsz0
    obtain⟨hsz,hmn0⟩:=hsz0;have hmn:mx=none:=by simpa using hmn0
    simp only[F] at hr
    obtain⟨⟨l,q⟩,hb,rfl⟩:=hr;rcases hx.inv_sc.inv_own hf with ⟨rfl,hn,a0,rfl⟩|⟨b,cap,hbk,own,rfl⟩
    ·obtain⟨b1,b2,m,b3,b4,bm,hrun⟩:=HF (P:=P) (w:=w) (isS:=true) (len:=0) (cap:=0) (Nat.zero_le _) hnm hlo hhi hmx hb;obtain rfl:q=0:=by omega
     obtain rfl:l=0:=by omega
     obtain rfl:m=0:=by omega
     refine⟨_,key _ _ _ _ _ _ hrun,Be ?_⟩;simp only[Option.map_none,ite_self,Nat.sub_self];exact .osubNil hf hn
    ·obtain⟨b1,b2,m,b3,b4,bm,hrun⟩:=HF (P:=P) (w:=w) (isS:=true) own.room hnm hlo hhi hmx hb;refine⟨_,key _ _ _ _ _ _ hrun,Be ?_⟩;have hsm:=own.small;subst hsz;split
     ·exact .osub (off:=0) hf hbk own b1 b2 ⟨fun hne=>by omega,fun h0=>⟨rfl,by have:=bm hmn; omega⟩⟩ rfl (by omega) (by omega)
     ·simp only[Option.map_some,Addr.add_lit,Nat.zero_add];exact .osub hf hbk own b1 b2 ⟨fun _=>rfl,fun h0=>⟨by rw[h0,Nat.zero_mul],by have:=bm hmn; omega⟩⟩ rfl (by omega) (by omega)
   ·cases hr
  ·cases hr
 ·simp only[F] at hr
  obtain⟨⟨l,q⟩,hb,rfl⟩:=hr;have hx':=hx.inv_sc;cases hx' with
  | nil=>
   obtain⟨b1,b2,m,b3,b4,bm,hrun⟩:=HF (P:=P) (w:=w) (isS:=true) (len:=0) (cap:=0) (Nat.zero_le _) hnm hlo hhi hmx hb;refine⟨_,key _ _ _ _ _ _ hrun,Be ?_⟩;simp only[Option.map_none,ite_self];rw[show q - l=0 by omega,show m - l=0 by omega];exact .nil
 ·cases hr
end
end Go.Vi
