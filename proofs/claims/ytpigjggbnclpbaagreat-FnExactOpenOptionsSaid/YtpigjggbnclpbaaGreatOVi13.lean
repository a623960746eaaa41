/-
The value level. No condition.
-/
import Derived.Test.YtpigjggbnclpbaaGreatOVi12
namespace Go.Vi
set_option linter.all false
open List renaming filter_cons_of_neg → L, filter_cons_of_pos → N
open Option.some renaming injEq → O
open Bool renaming false → T
open Option renaming none → F
open _root_ renaming List → E, Nat → G
theorem Fh{α:Type}:∀(l:E (G × α)) (ks:E G) (k:G),A1 (erase l ks) k=if ks.contains k then F else A1 l k
 | [],ks,k=>by simp[erase,A1]
 | (i,v)::r,ks,k=>by
  have ih:=Fh r ks k;unfold erase at ih ⊢
  by_cases hk:ks.contains i
  ·rw[L (by simpa using hk)];rw[ih];by_cases hik:i=k
   ·subst hik; rw[if_pos hk,if_pos hk]
   ·have h':=BK hik;simp[A1,h']
  ·rw[N (by simpa using hk)];by_cases hik:i=k
   ·subst hik; simp only[A1,beq_self_eq_true,cond_true]; rw[if_neg hk]
   ·have h':=BK hik;simp only[A1,h',cond_false];exact ih
theorem L2{α:Type}{p:G→Bool}:∀{l:E (G × α)} {id:G} {x:α},A1 (l.filter fun q=>p q.1) id=some x→p id=true∧A1 l id=some x
 | [],id,x,h=>by simp[A1] at h
 | (k,v)::r,id,x,h=>by
  by_cases hp:p k=true
  ·rw[N (by exact hp)] at h;by_cases hk:k=id
   ·subst hk;simp[A1] at h;exact⟨hp,by simp[A1,h]⟩
   ·have h':=BK hk;simp only[A1,h',cond_false] at h ⊢
    exact L2 h
  ·rw[L (by exact hp)] at h;obtain⟨h1,h2⟩:=L2 h;have hk:k≠id:=fun e=>hp (e▸h1)
   have h':=BK hk;simp only[A1,h',cond_false];exact⟨h1,h2⟩
theorem OI{α:Type}{p:G→Bool}:∀(l:E (G × α)) (id:G),A1 (l.filter fun q=>p q.1) id=if p id then A1 l id else F
 | [],id=>by simp[A1]
 | (k,v)::r,id=>by
  have ih:=OI (p:=p) r id;by_cases hp:p k=true
  ·rw[N (by exact hp)];by_cases hk:k=id
   ·subst hk; simp[A1,hp]
   ·have h':=BK hk;simp only[A1,h',cond_false];exact ih
  ·rw[L (by exact hp),ih];by_cases hk:k=id
   ·subst hk; simp[hp]
   ·have h':=BK hk;simp only[A1,h',cond_false]
section
variable {A : Ar} {B : G} {w0 : Base} {w : World} {nm : Ad} {σ : St} {tmps : Array Value}
theorem Rel.dropped(R:Rel A B w0 nm σ tmps w)(ks:E G):Rel A B w0 nm (σ.drop ks) tmps w:=by
 refine⟨R.below,R.size,R.all,R.good,R.names,R.inj,R.pin,fun k=> ?_,R.bxs⟩
 have e:(σ.drop ks).get k=if ks.contains k then .undef else σ.get k:=by
  unfold St.get St.drop;simp only[Fh];split<;>rfl
 rw[e];split
 ·exact .undef
 ·exact R.env k
theorem Rel.reput(R:Rel A B w0 nm σ tmps w){d:G}{av:AV}(h:VRel (cx A nm σ w) av (tmps.getD d undef)):Rel A B w0 nm (σ.set d av) tmps w:=by
 refine⟨R.below,R.size,R.all,R.good,R.names,R.inj,R.pin,fun k=> ?_,R.bxs⟩;by_cases hk:k=d
 ·subst hk; rw[St.get_set_same]; exact h
 ·rw[St.get_set_ne _ _ hk]; exact R.env k
theorem Rel.nilRow(R:Rel A B w0 nm σ tmps w){id sz:G}(h:σ.has id=T)(hid:id / 99999999999=0) :
  Rel A B w0 (fun n=>if n=2*id+1 then F else nm n) {σ with rows:=Vi.put σ.rows id (sz,[])} tmps w∧
  CRel (cx A (fun n=>if n=2*id+1 then F else nm n) {σ with rows:=Vi.put σ.rows id (sz,[])} w) (.own id) (.slice F 0 0):=by
 refine⟨R.carry (f:=fun c=>c) R.below R.size (fun i b hb=> ?_) (fun i j b hi hj=> ?_) (fun i hp=>by rw[if_neg]; unfold Av at hp; omega) (fun k=>by rw[AV.mapId]; rfl) (fun id=>by simp) (fun k cs _ b hb=>⟨?_,rfl⟩) (fun c v hc hr=> ?_),?_⟩
 ·split at hb
  ·cases hb
  ·exact R.names i b hb
 ·split at hi
  ·cases hi
  ·split at hj
   ·cases hj
   ·exact R.inj i j b hi hj
 ·rw[if_neg (by omega)]; exact hb
 ·have hn:=St.has_uses h hc;refine hr.move (Cf fun b _ hn2=>⟨fun i=> ?_,rfl⟩) (fun j hj=> .inr ?_) (fun j _ b hb=> ?_)
  ·split
   ·simp
   ·exact hn2 i
  ·have hne:j≠id:=fun e=>by subst e; rw[hn] at hj; cases hj
   refine⟨Bb _ _ hne,?_,fun _ _=>rfl⟩;show(if 2*j+1=2*id+1 then F else nm (2*j+1))=nm (2*j+1)
   rw[if_neg (by omega)]
  ·show(if 2*j=2*id+1 then F else nm (2*j))=some b
   rw[if_neg (by omega)];exact hb
 ·exact .ownNil (B9 _ _ _) (by show(if 2*id+1=2*id+1 then F else nm (2*id+1))=F; rw[if_pos rfl])
theorem nD(c:AC)(x y:G):c.has x=true∨(c.has x=T∧c.ren x y=c):=by
 cases c with
 | own i=>by_cases h:i=x<;>simp[AC.has,AC.ren,h,BK]
 | osub i _ _=>by_cases h:i=x<;>simp[AC.has,AC.ren,h,BK]
 | pe i _ _=>by_cases h:i=x<;>simp[AC.has,AC.ren,h,BK]
 | _=>exact .inr ⟨rfl,rfl⟩
theorem CRel.renamed{X Y:Cx}{c:AC}{v:Value}{x y:G}(H:CRel X c v)(hc:c.has x=true)(hr:A1 Y.rs y=A1 X.rs x)(hn:Y.nm (2*y+1)=X.nm (2*x+1))(hh:∀b C,X.h b C→Y.h b C)(hw:Y.w=X.w):CRel Y (c.ren x y) v:=by
 have hm:∀{b sz cap es},OwnB X.h X.w b sz cap es→OwnB Y.h Y.w b sz cap es:=fun h=>h.move hh (by rw[hw])
 have h1:=H.one;cases H with
 | ownNil a b=>simp only[AC.has,beq_iff_eq] at hc; subst hc; simp only[AC.ren,beq_self_eq_true,cond_true]; exact .ownNil (hr.trans a) (hn.trans b)
 | own a b c d=>simp only[AC.has,beq_iff_eq] at hc; subst hc; simp only[AC.ren,beq_self_eq_true,cond_true]; exact .own (hr.trans a) (hn.trans b) (hm c) d
 | ownDead a _=>simp only[AC.has,beq_iff_eq] at hc; subst hc; simp only[AC.ren,beq_self_eq_true,cond_true]; exact .ownDead (hr.trans a) h1
 | osubNil a b=>simp only[AC.has,beq_iff_eq] at hc; subst hc; simp only[AC.ren,beq_self_eq_true,cond_true]; exact .osubNil (hr.trans a) (hn.trans b)
 | osub a b c d e f g i j=>simp only[AC.has,beq_iff_eq] at hc; subst hc; simp only[AC.ren,beq_self_eq_true,cond_true]; exact .osub (hr.trans a) (hn.trans b) (hm c) d e f g i j
 | osubDead a _=>simp only[AC.has,beq_iff_eq] at hc; subst hc; simp only[AC.ren,beq_self_eq_true,cond_true]; exact .osubDead (hr.trans a) h1
 | pe a b c d e=>simp only[AC.has,beq_iff_eq] at hc; subst hc; simp only[AC.ren,beq_self_eq_true,cond_true]; exact .pe (hr.trans a) (hn.trans b) (hm c) d e
 | peDead a _=>simp only[AC.has,beq_iff_eq] at hc; subst hc; simp only[AC.ren,beq_self_eq_true,cond_true]; exact .peDead (hr.trans a) h1
 | _=>simp[AC.has] at hc
theorem eK(c:AC)(x:G)(es:E (E D)):c= .own x∨(c.has x=true∧c.frz x es= .undef)∨(c.has x=T∧c.frz x es=c):=by
 cases c with
 | own i=>by_cases h:i=x<;>simp[AC.has,AC.frz,h,BK]
 | osub i _ _=>by_cases h:i=x<;>simp[AC.has,AC.frz,h,BK]
 | pe i _ _=>by_cases h:i=x<;>simp[AC.has,AC.frz,h,BK]
 | _=>exact .inr (.inr ⟨rfl,rfl⟩)
theorem CRels.get{X:Cx}:∀{i:G} {cs:E AC} {vs:E Value} {c:AC},CRels X cs vs→cs[i]?=some c→∃v,vs[i]?=some v∧CRel X c v:=fun H hc=>H.pre.get hc
theorem CRels.set{X:Cx}:∀{i:G} {cs:E AC} {vs:E Value} {c:AC} {v:Value},CRels X cs vs→vs[i]?=some v→CRel X c v→CRels X (cs.set i c) vs
 | _,_,_,_,_,.nil,hv,_=>by simp at hv
 | 0,_,_,_,_,.cons a b,hv,hc=>by simp at hv; subst hv; exact .cons hc b
 | i+1,_,_,_,_,.cons a b,hv,hc=>by simp at hv; exact .cons a (b.set hv hc)
def AOp.idle:AOp→Bool
 | .drop _ | .own .. | .ownb .. | .ren .. | .frz _ | .frzb _ | .forget _ | .keep .. | .cut _=>true
 | _=>T
theorem Rel.forgot(R:Rel A B w0 nm σ tmps w)(gs:E G):Rel A B w0 nm {σ with bx:=σ.bx.filter fun p=> !gs.contains p.1,rows:=σ.rows.filter fun p=> !gs.contains (p.1 / 64)} tmps w:=by
 have R1:Rel A B w0 nm {σ with rows:=σ.rows.filter fun p=> !gs.contains (p.1 / 64)} tmps w:=by
  refine R.carry (f:=fun c=>c) R.below R.size R.names R.inj (fun _ _=>rfl) (fun k=>by rw[AV.mapId]; rfl) (fun id=>by simp) (fun id cs _ b hb=>⟨hb,rfl⟩) (fun c v _ hrel=> ?_);refine hrel.move (fun b C h=>h) (fun id _=> ?_) (fun id _ b hb=>hb);show A1 (σ.rows.filter fun p=> !gs.contains (p.1 / 64)) id=F∨_
  rw[OI (p:=fun k=> !gs.contains (k / 64))];split
  ·exact .inr ⟨by show A1 (σ.rows.filter fun p=> !gs.contains (p.1 / 64)) id=_; rw[OI (p:=fun k=> !gs.contains (k / 64))]; rename_i h; rw[if_pos h]; rfl,rfl,fun b _=>rfl⟩
  ·exact .inl rfl
 exact⟨R1.below,R1.size,R1.all,R1.good,R1.names,R1.inj,R1.pin,R1.env,fun id cs h=>R1.bxs id cs (L2 (p:=fun k=> !gs.contains k) h).2⟩
theorem L3{α:Type}(l:E (G × α))(k:G):∀ks:E G,A1 (BU l ks) k=if k∈ks then A1 l k else F
 | []=>by simp[BU,A1]
 | j::ks=>by
  have ih:=L3 l k ks;unfold BU;split
  ·rename_i v hv
   by_cases h:j=k
   ·subst h; simp[A1,hv]
   ·have h2:(j==k)=T:=by simpa using h
    have h3:¬k=j:=fun e=>h e.symm
    simp only[A1,h2,cond_false,ih,List.mem_cons,h3,false_or]
  ·rename_i hv
   by_cases h:j=k
   ·subst h; simp[ih,hv]
   ·have h3:¬k=j:=fun e=>h e.symm
    simp only[ih,List.mem_cons,h3,false_or]
theorem Rel.kept(R:Rel A B w0 nm σ tmps w)(ks bs rs:E G):Rel A B w0 nm (σ.kept ks bs rs) tmps w:=by
 have R1:Rel A B w0 nm {σ with rows:=BU σ.rows rs} tmps w:=by
  refine R.carry (f:=fun c=>c) R.below R.size R.names R.inj (fun _ _=>rfl) (fun k=>by rw[AV.mapId]; rfl) (fun id=>by simp) (fun id cs _ b hb=>⟨hb,rfl⟩) (fun c v _ hrel=> ?_);refine hrel.move (fun b C h=>h) (fun id _=> ?_) (fun id _ b hb=>hb);show A1 (BU σ.rows rs) id=F∨_
  rw[L3];split
  ·exact .inr ⟨by show A1 (BU σ.rows rs) id=_; rw[L3]; rename_i h; rw[if_pos h]; rfl,rfl,fun b _=>rfl⟩
  ·exact .inl rfl
 refine⟨R1.below,R1.size,R1.all,R1.good,R1.names,R1.inj,R1.pin,fun k=> ?_,fun id cs h=>R1.bxs id cs ?_⟩
 ·have e:(σ.kept ks bs rs).get k=if k∈ks then σ.get k else .undef:=by
   unfold St.get St.kept;simp only[L3];split<;>rfl
  rw[e];split
  ·exact R1.env k
  ·exact .undef
 ·have h2:A1 (BU σ.bx bs) id=some cs:=h;rw[L3] at h2
  split at h2
  ·exact h2
  ·cases h2
theorem Nb(R:Rel A B w0 nm σ tmps w){o:AOp}{σ':St}(hi:o.idle=true)(hs:σ.step o=some σ'):∃nm',Rel A B w0 nm' σ' tmps w:=by
 cases o<;>try (simp[AOp.idle] at hi; done)
 case drop ks=>
  simp only[St.step,O] at hs
  subst hs;exact⟨nm,R.dropped ks⟩
 case keep ks bs rs=>
  simp only[St.step,O] at hs
  subst hs;exact⟨nm,R.kept ks bs rs⟩
 case forget gs=>
  simp only[St.step,O] at hs
  subst hs;exact⟨nm,R.forgot gs⟩
 case own d j id sz=>
  simp only[St.step] at hs
  split at hs
  ·cases hs
  ·rename_i hh
   have Dx:σ.has id=T∧id / 99999999999=0:=by simpa using hh
   obtain⟨hh',hid⟩:=Dx;obtain⟨R1,hrow⟩:=R.nilRow (sz:=sz) hh' hid;have he:=R1.env d;split at hs
   ·rename_i hg
    split at hs
    ·cases hs;refine⟨_,R1.reput ?_⟩;rw[show({σ with rows:=Vi.put σ.rows id (sz,[])}:St).get d=σ.get d from rfl,hg] at he
     have hc:=he.inv_sc;generalize tmps.getD d undef=v at *
     cases hc;exact Be hrow
    ·cases hs
   ·rename_i cs hg
    split at hs
    ·rename_i hj
     cases hs;refine⟨_,R1.reput ?_⟩;rw[show({σ with rows:=Vi.put σ.rows id (sz,[])}:St).get d=σ.get d from rfl,hg] at he
     obtain⟨vs,hvs,hcs⟩:=he.inv_ag;obtain⟨v,hv,hc⟩:=hcs.get hj;rw[hvs];refine .v (.ag (hcs.set hv ?_));cases hc;exact hrow
    ·cases hs
   ·cases hs
 case ownb b j id sz=>
  simp only[St.step] at hs
  split at hs
  ·cases hs
  ·rename_i hh
   have Dx:σ.has id=T∧id / 99999999999=0:=by simpa using hh
   obtain⟨hh',hid⟩:=Dx;obtain⟨R1,hrow⟩:=R.nilRow (sz:=sz) hh' hid;split at hs
   ·rename_i cs hg
    split at hs
    ·rename_i hj
     cases hs;obtain⟨blk,C,t,h1,h2,h3⟩:=R1.bxs b cs hg;obtain⟨v,hv,hc⟩:=h3.get hj;refine⟨_,R1.bput ⟨blk,C,t,h1,h2,h3.set hv ?_⟩⟩;cases hc;exact hrow
    ·cases hs
   ·cases hs
 case cut d=>
  simp only[St.step] at hs
  split at hs
  ·rename_i id h hg
   split at hs
   rotate_left
   ·cases hs
   rename_i hid
   split at hs
   ·rename_i sz es hf
    split at hs
    rotate_left
    ·cases hs
    rename_i hle
    cases hs;have he:=R.env d;rw[hg] at he
    have hc:=he.inv_sc;generalize hv:tmps.getD d undef=v at *
    have R1:Rel A B w0 nm {(σ.map (AC.kill id)) with rows:=Vi.put σ.rows id (sz,es.take h)} tmps w:=by
     refine R.carry (f:=AC.kill id) R.below R.size R.names R.inj (fun _ _=>rfl) (fun k=>St.get_map) (fun k=>Fi) (fun k cs _ b hb=>⟨hb,rfl⟩) (fun c v hc hr=> ?_);rcases Ns c id with ⟨_,hk⟩|⟨hn,hk⟩
     ·rw[hk]; exact .undef hr.one
     ·rw[hk];refine hr.move (fun _ _ h=>h) (fun j hj=> .inr ?_) (fun j _ b hb=>hb);have hne:j≠id:=fun e=>by subst e; rw[hn] at hj; cases hj
      exact⟨Bb _ _ hne,rfl,fun _ _=>rfl⟩
    refine⟨nm,R1.reput ?_⟩;rw[hv];rcases hc.inv_osub hf with ⟨rfl,_,rfl,h3,a0,rfl⟩|⟨b,cap,cap',off,h1,h2,h3,h4,⟨_,h5⟩,h6,h7,rfl⟩
    ·exact Be (.ownNil (B9 _ _ _) h3)
    ·obtain⟨rfl,rfl⟩:=h5 rfl;obtain⟨k1,k2,k3,C,t,k4,k5,k6⟩:=h2;exact Be (.own (B9 _ _ _) h1 ⟨k1,by simp; omega,k3,C,t,k4,k5,k6.takeRows h⟩ (by simp; omega))
   ·cases hs
  ·cases hs
 case ren x y=>
  simp only[St.step] at hs
  split at hs
  ·cases hs
  ·rename_i hh
   have Dx:σ.has y=T∧x / 99999999999=0∧y / 99999999999=0:=by simpa using hh
   obtain⟨hh',hix,hiy⟩:=Dx;split at hs
   ·rename_i r hg
    cases hs;let nm':Ad:=fun n=>if n=2*y+1 then nm (2*x+1) else if n=2*x+1 then F else nm n
    refine⟨nm',R.carry (f:=AC.ren x y) R.below R.size (fun i b hb=> ?_) (fun i j b hi hj=> ?_) (fun i hp=>by simp only[nm']; unfold Av at hp; rw[if_neg (by omega),if_neg (by omega)]) (fun k=>St.get_map) (fun k=>Fi) (fun k cs _ b hb=>⟨?_,rfl⟩) (fun c v hc hr=> ?_)⟩
    ·simp only[nm'] at hb
     split at hb
     ·exact R.names _ b hb
     ·split at hb
      ·cases hb
      ·exact R.names i b hb
    ·simp only[nm'] at hi hj
     split at hi<;>split at hj
     ·omega
     ·split at hj
      ·cases hj
      ·have:=R.inj _ _ _ hi hj; omega
     ·split at hi
      ·cases hi
      ·have:=R.inj _ _ _ hi hj; omega
     ·split at hi
      ·cases hi
      ·split at hj
       ·cases hj
       ·exact R.inj i j b hi hj
    ·simp only[nm'];rw[if_neg (by omega),if_neg (by omega)];exact hb
    ·have hview:∀b C,Ab A nm w b C→Ab A nm' w b C:=Cf fun b _ hn=>⟨fun i=>by
      simp only[nm'];split
      ·exact hn _
      ·split
       ·simp
       ·exact hn i,rfl⟩
     have hy:=St.has_uses hh' hc;rcases nD c x y with hx|⟨hx,he⟩
     ·refine hr.renamed hx ?_ ?_ hview rfl
      ·show A1 (put (erase σ.rows [x]) y r) y=A1 σ.rows x
       rw[B9,hg]
      ·show nm' (2*y+1)=nm (2*x+1)
       simp only[nm',if_true]
     ·rw[he];refine hr.move hview (fun j hj=> .inr ?_) (fun j _ b hb=> ?_)
      ·have hjx:j≠x:=fun e=>by subst e; rw[hx] at hj; cases hj
       have hjy:j≠y:=fun e=>by subst e; rw[hy] at hj; cases hj
       refine⟨?_,?_,fun _ _=>rfl⟩
       ·show A1 (put (erase σ.rows [x]) y r) j=A1 σ.rows j
        rw[Bb _ _ hjy,Fh,if_neg (by simpa using hjx)]
       ·show nm' (2*j+1)=nm (2*j+1)
        simp only[nm'];rw[if_neg (by omega),if_neg (by omega)]
      ·show nm' (2*j)=some b
       simp only[nm'];rw[if_neg (by omega),if_neg (by omega)];exact hb
   ·cases hs
 case frz id=>
  simp only[St.step] at hs
  split at hs
  ·cases hs
  rename_i hid0
  have hid:id / 99999999999=0:=by simpa using hid0
  split at hs
  ·rename_i sz es hg
   cases hs;let nm':Ad:=fun n=>if n=2*id+1 then F else nm n
   have hview:∀b C,Ab A nm w b C→Ab A nm' w b C:=Cf fun b _ hn=>⟨fun i=>by
    simp only[nm'];split
    ·simp
    ·exact hn i,rfl⟩
   refine⟨nm',R.carry (f:=AC.frz id es) R.below R.size (fun i b hb=> ?_) (fun i j b hi hj=> ?_) (fun i hp=>by simp only[nm']; unfold Av at hp; rw[if_neg (by omega)]) (fun k=>St.get_map) (fun k=>Fi) (fun k cs _ b hb=>⟨?_,rfl⟩) (fun c v hc hr=> ?_)⟩
   ·simp only[nm'] at hb
    split at hb
    ·cases hb
    ·exact R.names i b hb
   ·simp only[nm'] at hi hj
    split at hi
    ·cases hi
    ·split at hj
     ·cases hj
     ·exact R.inj i j b hi hj
   ·simp only[nm'];rw[if_neg (by omega)];exact hb
   ·rcases eK c id es with rfl|⟨_,he⟩|⟨hx,he⟩
    ·simp only[AC.frz,beq_self_eq_true,cond_true];refine .dat ?_;rcases hr.inv_own hg with ⟨rfl,_,a0,rfl⟩|⟨b,cap,hb,own,rfl⟩
     ·exact .nil
     ·obtain⟨h1,h2,h3,C,t,h4,_,h6⟩:=own
      have hv:Ab A nm' w b C.toList:=⟨fun i=>by
       simp only[nm'];split
       ·simp
       ·rename_i hne; exact fun e=>hne (R.inj _ _ _ e hb),C,t,_,R.all.all b (R.mine (by unfold Av; omega) hb),h4,rfl⟩
      exact .sl (off:=0) hv h1 (by rw[List.drop_zero]; exact h6.mono hview) rfl h2 h3
    ·rw[he]; exact .undef hr.one
    ·rw[he];refine hr.move hview (fun j hj=> .inr ?_) (fun j _ b hb=> ?_)
     ·have hjx:j≠id:=fun e=>by subst e; rw[hx] at hj; cases hj
      refine⟨?_,?_,fun _ _=>rfl⟩
      ·show A1 (erase σ.rows [id]) j=A1 σ.rows j
       rw[Fh,if_neg (by simpa using hjx)]
      ·show nm' (2*j+1)=nm (2*j+1)
       simp only[nm'];rw[if_neg (by omega)]
     ·show nm' (2*j)=some b
      simp only[nm'];rw[if_neg (by omega)];exact hb
  ·cases hs;exact⟨nm,R⟩
 case frzb id=>
  simp only[St.step] at hs
  split at hs
  ·cases hs
  rename_i hid0
  have hid:id / 99999999999=0:=by simpa using hid0
  split at hs
  ·rename_i cs hg
   split at hs
   ·rename_i ds hds
    cases hs;let nm':Ad:=fun n=>if n=2*id then F else nm n
    have hview:∀b C,Ab A nm w b C→Ab A nm' w b C:=Cf fun b _ hn=>⟨fun i=>by
     simp only[nm'];split
     ·simp
     ·exact hn i,rfl⟩
    have R0:Rel A B w0 nm {σ with bx:=erase σ.bx [id]} tmps w:=⟨R.below,R.size,R.all,R.good,R.names,R.inj,R.pin,R.env,fun k cs2 h=>by
     have h2:A1 (erase σ.bx [id]) k=some cs2:=h;rw[Fh] at h2
     split at h2
     ·cases h2
     ·exact R.bxs k cs2 h2⟩
    obtain⟨b0,C0,t0,q1,q2,q3⟩:=R.bxs id cs hg
    have hv0:Ab A nm' w b0 C0.toList:=⟨fun i=>by
     simp only[nm'];split
     ·simp
     ·rename_i hne; exact fun e=>hne (R.inj _ _ _ e q1),C0,t0,_,R.all.all b0 (R.mine (by unfold Av; omega) q1),q2,rfl⟩
    have hreps:Reps (Ab A nm' w) ds C0.toList:=(IX (X:=cx A nm σ w) q3 hds).1.mono hview;refine⟨nm',R0.carry (f:=AC.frzb id ds) R.below R.size (fun i b hb=> ?_) (fun i j b hi hj=> ?_) (fun i hp=>by simp only[nm']; unfold Av at hp; rw[if_neg (by omega)]) (fun k=>St.get_map) (fun k=>Fi) (fun k cs2 hk b hb=>⟨?_,rfl⟩) (fun c v hc hr=> ?_)⟩
    ·simp only[nm'] at hb
     split at hb
     ·cases hb
     ·exact R.names i b hb
    ·simp only[nm'] at hi hj
     split at hi
     ·cases hi
     ·split at hj
      ·cases hj
      ·exact R.inj i j b hi hj
    ·have hk2:A1 (erase σ.bx [id]) k=some cs2:=hk;rw[Fh] at hk2
     have hkx:k≠id:=fun e=>by subst e; rw[if_pos (by simp)] at hk2; cases hk2
     simp only[nm'];rw[if_neg (by omega)];exact hb
    ·have keep:(∀j,c.hasB j=true→j≠id)→CRel (cx A nm' (({σ with bx:=erase σ.bx [id]}:St).map (AC.frzb id ds)) w) c v:=fun hno=>by
      refine hr.move hview (fun j hj=> .inr ⟨rfl,?_,fun _ _=>rfl⟩) (fun j hj b hb=> ?_)
      ·show nm' (2*j+1)=nm (2*j+1)
       simp only[nm'];rw[if_neg (by omega)]
      ·show nm' (2*j)=some b
       simp only[nm'];have:=hno j hj;rw[if_neg (by omega)];exact hb
     cases c with
     | pb i off=>
      by_cases hi:i=id
      ·subst hi;simp only[AC.frzb,beq_self_eq_true,cond_true];cases hr with | pb hb=>
       have hb':nm (2*i)=some _:=hb;have e3:=Option.some.inj (hb'.symm.trans q1);subst e3;exact .dat (.pd hv0 (hreps.drop off))
      ·have e:(i==id)=T:=by simpa using hi
       simp only[AC.frzb,e,cond_false];exact keep fun j hj=>by simp only[AC.hasB,beq_iff_eq] at hj; omega
     | clo f ids=>
      cases hc2:ids.contains id with
      | true=>
       simp only[AC.frzb,hc2,cond_true];exact .undef hr.one
      | false=>
       simp only[AC.frzb,hc2,cond_false]
       exact keep fun j hj e=>by
        subst e;simp only[AC.hasB,List.any_eq_true,beq_iff_eq,exists_eq_right] at hj
        simp at hc2
        exact hc2 hj
     | ipb t i=>
      by_cases hi:i=id
      ·subst hi;simp only[AC.frzb,beq_self_eq_true,cond_true];exact .undef hr.one
      ·have e:(i==id)=T:=by simpa using hi
       simp only[AC.frzb,e,cond_false];exact keep fun j hj=>by simp only[AC.hasB,beq_iff_eq] at hj; omega
     | _=>exact keep fun j hj=>by simp[AC.hasB] at hj
   ·cases hs
  ·cases hs
end
end Go.Vi
