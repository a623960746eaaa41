/-
The value level. No condition.
-/
import Derived.Test.YtpigjggbnclpbaaGreatOVi10
namespace Go.Vi
set_option linter.all false
open Option renaming map_eq_some_iff → F
open List renaming replicate → E
open Option.some renaming injEq → G
open _root_ renaming List → T
theorem RepRows.splice{h:A6}{sz:Nat}{es:T (T D)}{vs us:T Value}{i:Nat}{d:T D}(H:RepRows h sz es vs)(hi:i<es.length)(hd:d.length=sz)(hu:us.length=sz)(hr:Reps h d us) :
  RepRows h sz (es.set i d) (vs.take (i*sz)++us++vs.drop (i*sz+us.length)):=by
 rw[hu];exact H.set hi hd hu hr
inductive PartsRow (X:Cx):T (Nat × AV)→T (Nat × Value)→Prop
 | nil:PartsRow X [] []
 | cons {i av v r s}:VRel X av v→PartsRow X r s→PartsRow X ((i,av)::r) ((i,v)::s)
theorem eB{X:Cx}{sz:Nat}:∀{aps:T (Nat × AV)} {ps:T (Nat × Value)} {es es':T (T D)} {cells:Array Value},
  PartsRow X aps ps→RepRows X.h sz es cells.toList→cells.size=es.length*sz→Ec sz es aps=some es'→
  ∃cells',Instr.fill (fun i=>some (i*sz,sz)) cells ps=some cells'∧RepRows X.h sz es' cells'.toList∧cells'.size=cells.size∧es'.length=es.length:=by
 intro aps
 induction aps with
 | nil=>
  intro ps es es' cells hp hc hs hr;cases hp;simp only[Ec,G] at hr
  subst hr;exact⟨cells,rfl,hc,rfl,rfl⟩
 | cons p aps ih=>
  intro ps es es' cells hp hc hs hr;cases hp with
  | @cons i av v _ s hv hps=>
   cases av with
   | undef=>simp[Ec] at hr
   | no=>simp[Ec] at hr
   | tup l=>simp[Ec] at hr
   | ev c=>simp[Ec] at hr
   | v x=>
    simp only[Ec] at hr
    split at hr
    ·rename_i ds hds
     split at hr
     ·rename_i hcond
      have hvx:V1Rel X x v:=by cases hv with | v H=>exact H
      have hcx:=hvx.cells;obtain⟨h1,h2⟩:=IX hcx hds;have hvs:v.cells.size=sz:=by have:=hcx.length; simp at this; omega
      have hmul:(i+1)*sz≤es.length*sz:=Nat.mul_le_mul_right _ (by omega);have hle:i*sz+v.cells.size≤cells.size:=by rw[hs,hvs]; rw[Nat.add_mul] at hmul; omega
      have hsp:=RO (i*sz) v.cells.toList cells (by simpa using hle)
      obtain⟨cells',k1,k2,k3,k4⟩:=ih (cells:=((v.cells.toList.zipIdx 0).foldl (fun cs (x:Value × Nat)=>cs.setIfInBounds (i*sz+x.2) x.1) cells)) (es:=es.set i ds) hps (by
       rw[hsp];exact hc.splice hcond.2 hcond.1 (by simpa using hvs) h1) (by
       rw[(Great.foldl_set (i*sz) v.cells.toList 0 cells).1];simpa using hs) hr
      refine⟨cells',?_,k2,by rw[k3,(Great.foldl_set (i*sz) v.cells.toList 0 cells).1],by rw[k4]; simp⟩;simp only[Instr.fill];rw[if_neg (by simp[hvs]; omega)];rw[← k1];congr 1
      rw[← Array.foldl_toList];simp[Array.toList_zipIdx]
     ·cases hr
    ·cases hr
theorem Pu(z:Array Value)(n sz:Nat)(hz:z.size=sz)(hp:0<sz):((Array.range (n*sz)).map (z[· % z.size]!)).toList=(E n z.toList).flatten:=by
 subst hz;apply List.ext_getElem?
 intro k;rw[Array.getElem?_toList];by_cases hk:k<n*z.size
 ·have h1:k / z.size<n:=(Nat.div_lt_iff_lt_mul hp).2 hk;have hm:k % z.size<z.size:=Nat.mod_lt _ hp
  have e:(E n z.toList).flatten[k]?=z.toList[k % z.size]?:=by
   clear hk
   induction n generalizing k with
   | zero=>simp at h1
   | succ n ih=>
    simp only[List.replicate_succ,List.flatten_cons];by_cases hlt:k<z.size
    ·rw[List.getElem?_append_left (by simpa using hlt),Nat.mod_eq_of_lt hlt]
    ·rw[List.getElem?_append_right (by simp; omega)];have e1:k - z.toList.length=k - z.size:=by simp
     have h3:(k - z.size) / z.size<n:=by
      have:k / z.size=(k - z.size) / z.size+1:=by rw[Nat.div_eq k z.size,if_pos ⟨hp,by omega⟩]
      omega
     rw[e1,ih _ h3 (Nat.mod_lt _ hp)];rw[Nat.mod_eq_sub_mod (show k≥z.size by omega)]
  rw[e];simp[hk,hm]
 ·have e:(E n z.toList).flatten.length=n*z.size:=by simp
  rw[List.getElem?_eq_none (by omega)];simp; omega
section
variable {P : Program} {A : Ar} {B : Nat} {w0 : Base} {w : World} {nm : Ad} {σ : St} {a : Act}
theorem U8(R:Rel A B w0 nm σ a.tmps w):∀{ps:T (Nat × Operand)} {qs:T (Nat × Opd)},IP ps=some qs→
  PartsRow (cx A nm σ w) (qs.map fun p=>(p.1,σ.val p.2)) (ps.map fun p=>(p.1,a.eval p.2))
 | [],qs,hq=>by simp[IP] at hq; subst hq; exact .nil
 | (i,x)::r,qs,hq=>by
  simp only[IP] at hq
  split at hq
  ·rename_i y ys h1 h2
   cases hq;exact .cons (Al R h1) (U8 R h2)
  ·cases hq
theorem Qt{X:Cx}{z:Value}{zs:T D}{sz:Nat}(hz:(Dk z.cells.toList).bind Cn=some zs)(hsz:z.cells.size=sz):zs.length=sz∧Reps X.h zs z.cells.toList:=by
 simp only[Option.bind_eq_some_iff] at hz
 obtain⟨cs,h1,h2⟩:=hz;have h3:=Jm (X:=X) h1;obtain⟨h4,h5⟩:=IX h3 h2;exact⟨by have:=h3.length; simp at this; omega,h4⟩
theorem lD(R:Rel A B w0 nm σ a.tmps w){d:Nat}{o:Oper}{ao:AOp}{m:Mk}{σ':St}(hd:d<a.tmps.size)(hod:o.dst=some d)(hc:Ae P d o=some ao)(hm:σ.made ao=some m)(hs:σ.make m=some σ') :
  ∃v w' nm',(execOp a.eval o).run P w= .ok (.value v) w'∧Rel A B w0 nm' σ' (a.put o.dst v).tmps w':=by
 obtain⟨dst,op,ty,pos,after,guard⟩:=o;simp only at hod
 subst hod
 have fin:∀{s:Sem Value} {v:Value} {w':World},s.run P w= .ok v w'→(do pure (Next.value (← s)):Sem Next).run P w= .ok (.value v) w':=by
  intro s v w' hs;simp[hs]
 cases op
 case alloc e=>
  simp only[Ae] at hc
  split at hc
  ·rename_i i z hz
   simp only[F] at hc
   obtain⟨cs,hcs,rfl⟩:=hc;simp only[St.made,G] at hm
   subst hm;simp only[St.make] at hs
   split at hs
   ·rename_i hf
    cases hs;simp only[Bool.and_eq_true,List.all_eq_true,Bool.not_eq_true'] at hf
    obtain⟨hi,hz2⟩:=LS hz;obtain⟨nm',R'⟩:=R.newBox (t:=e) (C:=z.cells) hd hf.1 (Jm hcs) hf.2;refine⟨_,_,nm',fin ?_,R'⟩;simp[Instr.alloc,zeroValue,typeInfo,hi,hz2,newVar,newRow]
   ·cases hs
  ·cases hc
 case box e x=>
  simp only[Ae,F] at hc
  obtain⟨y,hy,rfl⟩:=hc;simp only[St.made] at hm
  split at hm
  ·rename_i y' hv
   simp only[G] at hm
   subst hm;simp only[St.make] at hs
   split at hs
   ·rename_i hf
    cases hs;simp only[Bool.and_eq_true,List.all_eq_true,Bool.not_eq_true'] at hf
    have hx:=Al R hy;rw[hv] at hx
    have hvx:V1Rel (cx A nm σ w) y' (a.eval x):=by cases hx with | v H=>exact H
    obtain⟨nm',R'⟩:=R.newBox (t:=e) (C:=(a.eval x).cells) hd hf.1 hvx.cells hf.2;refine⟨_,_,nm',fin ?_,R'⟩;simp[Instr.box,newVar,newRow]
   ·cases hs
  ·cases hm
 case buildSlice t len ps=>
  simp only[Ae] at hc
  split at hc
  ·rename_i i z hz
   obtain⟨e,hu,hi,hz2⟩:=HN hz;split at hc
   ·rename_i hcond
    split at hc
    ·rename_i zs qs hzs hqs
     cases hc;simp only[St.made] at hm
     split at hm
     ·rename_i es hes
      split at hm
      ·rename_i hzl
       simp only[G] at hm
       subst hm;simp only[St.make] at hs
       split at hs
       ·rename_i hf
        cases hs;obtain⟨z1,z2⟩:=Qt (X:=cx A nm σ w) hzs hcond.1
        have hbase:RepRows (Ab A nm w) i.size (E len zs) ((Array.range (len*i.size)).map (z.cells[· % z.cells.size]!)).toList:=by
         rw[Pu z.cells len i.size hcond.1 hcond.2.1];exact .replicate z1 (by simpa using hcond.1) z2 len
        obtain⟨cells',k1,k2,k3,k4⟩:=eB (cells:=(Array.range (len*i.size)).map (z.cells[· % z.cells.size]!)) (U8 R hqs) hbase (by simp) hes;have hlen:es.length=len:=by rw[k4]; simp
        have hsz:cells'.size=len*i.size:=by rw[k3]; simp
        have hmx:len≤maxLen:=by
         have h1:len*1≤len*i.size:=Nat.mul_le_mul_left _ hcond.2.1;have h2:=hcond.2.2;unfold maxLen;omega
        obtain⟨nm',R'⟩:=R.newRow (t:=e) (C:=cells') (cap:=len) (len:=len) hd hf hcond.2.1 hsz hmx hlen.symm (by omega) k2;refine⟨_,_,nm',fin ?_,R'⟩;by_cases h0:len*i.size=0
        ·have hl0:len=0:=by
          rcases Nat.mul_eq_zero.1 h0 with h|h
          ·exact h
          ·have:=hcond.2.1; omega
         subst hl0;simp[Instr.buildSlice,run_underlying hu,sizeOf,typeInfo,hi,newRow];have k1':Instr.fill (fun i_1=>some (i_1*i.size,i.size)) #[] (List.map (fun p=>(p.1,a.eval p.2)) ps.toList)=some cells':=by simpa[Array.range_zero'] using k1
         simp[Array.range_zero',k1']
        ·exact run_buildSlice w t e len _ cells' i z hu hi hz2 (by have:=hcond.2.2; omega) h0 (by simpa using k1)
       ·cases hs
      ·cases hm
     ·cases hm
    ·cases hc
   ·cases hc
  ·cases hc
 case makeSlice t l c=>
  simp only[Ae] at hc
  split at hc
  ·rename_i i z hz
   obtain⟨e,hu,hi,hz2⟩:=HN hz;split at hc
   ·rename_i hcond
    split at hc
    ·rename_i zs l' c' hzs hl hcc
     cases hc;simp only[St.made] at hm
     split at hm
     ·rename_i li ci hli hci
      split at hm
      ·rename_i hb
       simp only[G] at hm
       subst hm;simp only[St.make] at hs
       split at hs
       ·rename_i hf
        cases hs;obtain⟨kl,el⟩:=Hz (Al R hl) hli;obtain⟨kc,ec⟩:=Hz (Al R hcc) hci;obtain⟨b1,b2,b3,b4,b5⟩:=hb;obtain⟨z1,z2⟩:=Qt (X:=cx A nm σ w) hzs hcond.1;have hflat:=Pu z.cells ci.toNat i.size hcond.1 hcond.2.1
        have hrows:RepRows (Ab A nm w) i.size (E li.toNat zs) (madeCells z.cells (ci.toNat*i.size)).toList:=by
         unfold madeCells;rw[hflat]
         have h1:E ci.toNat z.cells.toList=E li.toNat z.cells.toList++E (ci.toNat - li.toNat) z.cells.toList:=by
          rw[List.replicate_append_replicate];congr 1
          omega
         rw[h1,List.flatten_append];exact(RepRows.replicate z1 (by simpa using hcond.1) z2 li.toNat).more _
        obtain⟨nm',R'⟩:=R.newRow (t:=e) (C:=madeCells z.cells (ci.toNat*i.size)) (cap:=ci.toNat) (len:=li.toNat) (es:=E li.toNat zs) hd hf hcond.2.1 (size_madeCells _ _) (by unfold maxLen; omega) (by simp) (by simp; omega) hrows;refine⟨_,_,nm',fin ?_,R'⟩;rw[el,ec];exact run_make w t e i z hu hi hz2 kl kc li ci b1 b2 (by rw[Int.mul_comm]; omega) (by omega)
       ·cases hs
      ·cases hm
     ·cases hm
    ·cases hc
   ·cases hc
  ·cases hc
 all_goals
  exfalso
  first
   | (simp[Ae] at hc; done)
   | (simp only[Ae,F] at hc; obtain⟨_,_,rfl⟩:=hc; simp[St.made] at hm; done)
   | skip
 case pick=>
  simp only[Ae] at hc
  split at hc
  ·cases hc; simp[St.made] at hm
  ·cases hc
 case build=>
  simp only[Ae] at hc
  split at hc
  ·split at hc
   ·split at hc
    ·cases hc; simp[St.made] at hm
    ·cases hc
   ·cases hc
  ·split at hc
   ·split at hc
    ·cases hc; simp[St.made] at hm
    ·cases hc
   ·cases hc
  ·cases hc
 case load=>
  simp only[Ae] at hc
  split at hc
  ·split at hc
   ·cases hc; simp[St.made] at hm
   ·cases hc
  ·cases hc
 case binOp=>
  simp only[Ae] at hc
  split at hc
  ·split at hc<;>first
    | (cases hc; simp[St.made] at hm; done)
    | (simp only[F] at hc; obtain⟨_,_,rfl⟩:=hc; simp[St.made] at hm)
  ·cases hc
 case convert=>
  simp only[Ae] at hc
  split at hc
  ·cases hc; simp[St.made] at hm
  ·split at hc
   ·cases hc; simp[St.made] at hm
   ·cases hc
  ·cases hc
 case slice=>
  simp only[Ae] at hc
  split at hc
  ·split at hc
   ·cases hc
   ·split at hc
    ·split at hc
     ·cases hc; simp[St.made] at hm
     ·cases hc
    ·simp only[F] at hc
     obtain⟨_,_,rfl⟩:=hc;simp[St.made] at hm
    ·cases hc
  ·cases hc
 case makeInterface=>
  simp only[Ae] at hc
  split at hc
  ·cases hc
  ·cases hc; simp[St.made] at hm
  ·cases hc
 case typeAssert=>
  simp only[Ae] at hc
  split at hc
  ·cases hc
  ·split at hc
   ·cases hc; simp[St.made] at hm
   ·cases hc
  ·cases hc
 case fieldAddr=>
  simp only[Ae] at hc
  split at hc
  ·split at hc
   ·split at hc
    ·split at hc
     ·cases hc
     ·cases hc; simp[St.made] at hm
    ·cases hc
   ·cases hc
  ·cases hc
 case field=>
  simp only[Ae] at hc
  split at hc
  ·split at hc
   ·split at hc
    ·split at hc
     ·cases hc; simp[St.made] at hm
     ·cases hc
    ·cases hc
   ·cases hc
  ·cases hc
 case indexAddr=>
  simp only[Ae] at hc
  split at hc
  ·cases hc; simp[St.made] at hm
  ·split at hc
   ·split at hc
    ·split at hc
     ·split at hc
      ·cases hc; simp[St.made] at hm
      ·cases hc
     ·cases hc; simp[St.made] at hm
    ·cases hc
   ·cases hc
  ·cases hc
 case index=>
  simp only[Ae] at hc
  split at hc
  ·cases hc; simp[St.made] at hm
  ·split at hc
   ·split at hc
    ·cases hc; simp[St.made] at hm
    ·cases hc
   ·cases hc
  ·cases hc
 case makeFunc fn first caps=>
  cases fn with
  | func f=>
   simp only[Ae] at hc
   split at hc
   ·simp only[F] at hc
    obtain⟨_,_,rfl⟩:=hc;simp[St.made] at hm
   ·cases hc
  | _=>simp[Ae] at hc
 case call c=>
  obtain⟨callee,args,argTypes⟩:=c;cases callee with
  | value f=>
   cases f with
   | func f=>
    simp only[Ae] at hc
    split at hc
    ·split at hc
     ·simp only[F] at hc
      obtain⟨ys,_,rfl⟩:=hc;simp[St.made] at hm
     ·cases hc
    ·cases hc
   | tmp t=>
    simp only[Ae,F] at hc
    obtain⟨ys,_,rfl⟩:=hc;simp[St.made] at hm
   | _=>simp[Ae] at hc
  | invoke r m=>simp[Ae] at hc
  | builtin bi=>
   cases bi<;>try (simp[Ae] at hc; done)
   all_goals
    simp only[Ae] at hc
    split at hc
    ·split at hc
     all_goals first
      | (cases hc; done)
      | (cases hc; simp[St.made] at hm; done)
      | (split at hc<;>first | (cases hc; done) | (cases hc; simp[St.made] at hm; done))
    ·cases hc
theorem ni{X:Cx}{cs ds:T AC}{C:Array Value}{vs:T Value}{off:Nat}(hC:CRels X cs C.toList)(hd:CRels X ds vs) :
  CRels X (Bx cs off ds) (C.toList.take (off+0)++vs++C.toList.drop (off+0+vs.length)):=by
 have h1:=hd.length;unfold Bx;rw[h1];exact((hC.take off).append hd).append (hC.drop (off+vs.length))
theorem CRels.one:∀{X:Cx} {cs vs},CRels X cs vs→∀v∈vs,v.oneCell'=true
 | _,_,_,.nil,_,hv=>by cases hv
 | _,_,_,.cons a b,v,hv=>by
  cases hv with
  | head=>exact a.one
  | tail _ hm=>exact b.one v hm
end
end Go.Vi
