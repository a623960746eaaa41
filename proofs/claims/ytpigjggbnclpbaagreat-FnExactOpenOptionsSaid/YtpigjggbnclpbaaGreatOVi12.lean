/-
The value level. No condition.
-/
import Derived.Test.YtpigjggbnclpbaaGreatOVi11
namespace Go.Vi
set_option linter.all false
open Nat renaming mul_le_mul_right → G, add_mul → O, add_zero → Q, le_refl → V
open List renaming length_eq_zero_iff → L, append_assoc → N, replicate → W
open Option.some renaming inj → U
open Option renaming some → T
open _root_ renaming List → F, Nat → E
theorem Reps.one{h:A6}:∀{ds:F D} {vs:F Value},Reps h ds vs→∀v∈vs.take ds.length,v.oneCell'=true
 | _,_,.nil,v,hv=>by simp at hv
 | _,_,.cons a b,v,hv=>by
  simp at hv
  rcases hv with rfl|hv
  ·exact a.one
  ·exact b.one v hv
theorem RepRows.one{h:A6}{sz:E}:∀{es:F (F D)} {vs:F Value},RepRows h sz es vs→vs.length=es.length*sz→∀v∈vs,v.oneCell'=true
 | [],vs,_,hl,v,hv=>by
  obtain rfl:vs= []:=L.1 (by simpa using hl);cases hv
 | d::es,vs,.cons a b c,hl,v,hv=>by
  simp only[List.length_cons,O,Nat.one_mul] at hl
  rw[← List.take_append_drop sz vs,List.mem_append] at hv
  rcases hv with hv|hv
  ·exact b.one v (by rw[a]; exact hv)
  ·exact c.one (by simp; omega) v hv
theorem BoxRel.move{X Y:Cx}{id:E}{cs:F AC}(H:BoxRel X id cs)(h1:∀b,X.nm (2*id)=T b→Y.nm (2*id)=T b∧Y.w.heap[b]?=X.w.heap[b]?)(h2:∀c v,c∈cs→CRel X c v→CRel Y c v):BoxRel Y id cs:=by
 obtain⟨b,C,t,k1,k2,k3⟩:=H;obtain⟨k4,k5⟩:=h1 b k1;exact⟨b,C,t,k4,k5.trans k2,k3.to h2⟩
theorem CRel.turn{X Y:Cx}{c:AC}{v:Value}{id sz:E}{es es':F (F D)}(H:CRel X c v)(hc:c.has id=true)(hx:A1 X.rs id=T (sz,es))(hy:A1 Y.rs id=T (sz,es'))(hl:es'.length=es.length)
  (hn:Y.nm (2*id+1)=X.nm (2*id+1)) (ho:∀b cap,X.nm (2*id+1)=T b→OwnB X.h X.w b sz cap es→OwnB Y.h Y.w b sz cap es'):CRel Y c v:=by
 cases c with
 | own i=>
  simp only[AC.has,beq_iff_eq] at hc
  subst hc;rcases H.inv_own hx with ⟨rfl,k1,a0,rfl⟩|⟨b,cap,k1,k2,rfl⟩
  ·have:es'= []:=L.1 (by simpa using hl);subst this;exact .ownNil hy (hn.trans k1)
  ·exact .own hy (hn.trans k1) (ho b cap k1 k2) hl.symm
 | osub i lo hi=>
  simp only[AC.has,beq_iff_eq] at hc
  subst hc;rcases H.inv_osub hx with ⟨rfl,rfl,rfl,k1,a0,rfl⟩|⟨b,cap,cap',off,k1,k2,k3,k4,k5,k6,k7,rfl⟩
  ·have:es'= []:=L.1 (by simpa using hl);subst this;exact .osubNil hy (hn.trans k1)
  ·exact .osub hy (hn.trans k1) (ho b cap k1 k2) k3 (by omega) k5 rfl k6 k7
 | pe i idx off=>
  simp only[AC.has,beq_iff_eq] at hc
  subst hc;obtain⟨b,cap,k1,k2,k3,rfl⟩:=H.inv_pe hx;exact .pe hy (hn.trans k1) (ho b cap k1 k2) (by omega) rfl
 | _=>simp[AC.has] at hc
section
variable {P : Program} {A : Ar} {B : E} {w0 : Base} {w : World} {nm : Ad} {σ : St} {a : Act}
theorem Zd{w0:Base}{k:E}(hv:w0.vv k)(h:w0.M k):False:=w0.no k hv h
theorem Om{g:E}(h:BelowX B w0 w)(hg:B≤g∨w0.M g){C C0:Array Value}{t:TypeId}{fr:E × E}(h0:w.heap[g]?=T (.cells C0 t fr))(hs:C.size=C0.size):BelowX B w0 (w.setRow g C):=
 ⟨h.os,h.tape,h.output,by simp[h.size],fun k hk hm hv=>by
  rw[setRow_other w g k C (by
   rintro rfl
   rcases hg with hg|hg
   ·omega
   ·exact hm hg)]
  exact h.block k hk hm hv,fun k hm C1 t1 Ap h1=>by
  obtain⟨C',k1,k2⟩:=h.room k hm C1 t1 Ap h1;by_cases e:k=g
  ·subst e;rw[k1] at h0
   cases h0;exact⟨C,setRow_heap w k _ C _ _ k1,hs.trans k2⟩
  ·exact⟨C',(setRow_other w g k C e).trans k1,k2⟩,h.vlt,fun k hv C1 t1 Ap h1=>by
  obtain⟨C',k1,k2⟩:=h.shape k hv C1 t1 Ap h1
  have e:k≠g:=by
   rintro rfl
   rcases hg with hg|hg
   ·have:=h.vlt k hv; omega
   ·exact Zd hv hg
  exact⟨C',(setRow_other w g k C e).trans k1,k2⟩⟩
theorem LK{g i:E}{C:Array Value}(hi:nm i=T g):∀b C',Ab A nm w b C'→Ab A nm (w.setRow g C) b C':=
 Cf fun b _ hn=>⟨hn,setRow_other w g b C (fun e=>hn i (e▸hi))⟩
theorem PO{t:TypeId}{inf:TypeInfo}{ad:Addr}{v:Value}(hi:P.info? t=T inf)(hsz:v.cells.size=inf.size):(storeVar t ad v).run P w=(storeCells ad v.cells.toList).run P w:=by
 simp[storeVar,sizeOf,typeInfo,hi,hsz]
theorem od(R:Rel A B w0 nm σ a.tmps w){id off n:E}{cs:F AC}{y:V1}{va vx:Value}{t:TypeId}{inf:TypeInfo}(hi:P.info? t=T inf)(hn:inf.size=n)(ha:VRel (cx A nm σ w) (.v (.sc (.pb id off))) va)(hx:VRel (cx A nm σ w) (.v y) vx)
  (hf:A1 σ.bx id=T cs) (hl:y.cells.length=n) (hle:off+n≤cs.length) :
  ∃w',(Instr.storeAt t va vx).run P w= .ok () w'∧Rel A B w0 nm {σ with bx:=put σ.bx id (Bx cs off y.cells)} a.tmps w':=by
 have hp:=ha.inv_sc;cases hp with
 | @pb _ _ b hb=>
 obtain⟨b',C,t',h1,h2,h3⟩:=R.bxs id cs hf;have e:b'=b:=U (h1.symm.trans hb);subst e;have hy:V1Rel (cx A nm σ w) y vx:=by cases hx with | v H=>exact H
 have hyc:=hy.cells;have hlc:=h3.length;have hlv:=hyc.length;have hsz:vx.cells.size=n:=by simp at hlv; omega
 have hst:=run_storeCells_at P b' off t' vx.cells.toList 0 C w h2 (by simp at hlc ⊢; omega) hyc.one;refine⟨w.setRow b' (C.toList.take (off+0)++vx.cells.toList++C.toList.drop (off+0+vx.cells.toList.length)).toArray,?_,?_⟩
 ·have h5:=PO (P:=P) (w:=w) (ad:=⟨b',off,none⟩) hi (hsz.trans hn.symm);simp only[Instr.storeAt,Instr.sureAddr,Sem.run_bind,Sem.run_pure,Result.andThen_ok];rw[h5];exact hst
 ·have hB:=(R.names _ b' h1).1
  have hcell:∀c v,CRel (cx A nm σ w) c v→CRel (cx A nm {σ with bx:=put σ.bx id (Bx cs off y.cells)} (w.setRow b' (C.toList.take (off+0)++vx.cells.toList++C.toList.drop (off+0+vx.cells.toList.length)).toArray)) c v:=by
   intro c v hr;refine hr.move (LK h1) (fun i _=> .inr ⟨rfl,rfl,fun b hb2=> ?_⟩) (fun i _ b hb2=>hb2);exact setRow_other w b' b _ (fun e=>by subst e; have:=R.inj _ _ _ hb2 h1; omega)
  refine⟨Om R.below hB h2 (by simp at hlc ⊢; omega),by simp[R.size],R.all,R.good,fun i b hb2=>by simpa using R.names i b hb2,R.inj,R.pin,fun k=>(R.env k).to fun c v _=>hcell c v,fun i c hc=> ?_⟩;by_cases hii:i=id
  ·subst hii;rw[show A1 (put σ.bx i (Bx cs off y.cells)) i=T (Bx cs off y.cells) from B9 _ _ _] at hc
   cases hc;refine⟨b',_,t',h1,setRow_heap w b' C _ t' _ h2,?_⟩;have:=ni (off:=off) h3 hyc;exact(by simpa using this:CRels (cx A nm σ w) _ _).to fun c v _=>hcell c v
  ·rw[show A1 (put σ.bx id (Bx cs off y.cells)) i=A1 σ.bx i from Bb _ _ hii] at hc
   refine(R.bxs i c hc).move (fun b hb2=>⟨hb2,setRow_other w b' b _ (fun e=> ?_)⟩) fun c v _=>hcell c v
   subst e;have:=R.inj _ _ _ hb2 h1;omega
theorem Reps.lenOf{h:A6}:∀{ds:F D} {vs:F Value},Reps h ds vs→ds.length≤vs.length:=fun H=>H.le
theorem Ut(R:Rel A B w0 nm σ a.tmps w){id b sz:E}{es es':F (F D)}{C:Array Value}{t':TypeId}{C':F Value}(hb:nm (2*id+1)=T b)(hf:A1 σ.rows id=T (sz,es))(h2:w.heap[b]?=T (.cells C t' (0,0)))
  (hC:C'.length=C.size) (hrow2:RepRows (Ab A nm w) sz es' C') (hl:es'.length=es.length):Rel A B w0 nm {σ with rows:=put σ.rows id (sz,es')} a.tmps (w.setRow b C'.toArray):=by
 have hB:=(R.names _ b hb).1
 have hcell:∀c v,CRel (cx A nm σ w) c v→CRel (cx A nm {σ with rows:=put σ.rows id (sz,es')} (w.setRow b C'.toArray)) c v:=by
  intro c v hr;by_cases hc:c.has id=true
  ·refine hr.turn hc hf (B9 _ _ _) hl rfl fun b2 cap2 hb2 own2=> ?_
   have e:b2=b:=U (hb2.symm.trans hb);subst e;obtain⟨q1,q2,q3,C2,t2,q4,q5,q6⟩:=own2;have e2:Obj.cells C2 t2 (0,0)=Obj.cells C t' (0,0):=U (q4.symm.trans h2);cases e2;refine⟨q1,by rw[hl]; exact q2,q3,_,t',setRow_heap w b2 C _ t' _ h2,?_,?_⟩
   ·rw[← q5];simpa using hC
   ·exact hrow2.mono (LK (nm:=nm) hb)
  ·refine hr.move (LK hb) (fun j hj=> .inr ⟨?_,rfl,fun b2 hb2=> ?_⟩) (fun j _ b2 hb2=>hb2)
   ·refine Bb _ _ fun e=> ?_
    subst e;exact hc hj
   ·refine setRow_other w b b2 _ (fun e=> ?_);subst e;have:=R.inj _ _ _ hb2 hb;have e3:j=id:=by omega
    subst e3;exact hc hj
 refine⟨Om R.below hB h2 (by simpa using hC),by simp[R.size],R.all,R.good,fun j b2 hb2=>by simpa using R.names j b2 hb2,R.inj,R.pin,fun k=>(R.env k).to fun c v _=>hcell c v,fun j c hc=> ?_⟩;refine(R.bxs j c hc).move (fun b2 hb2=>⟨hb2,setRow_other w b b2 _ (fun e=> ?_)⟩) fun c v _=>hcell c v
 subst e;have:=R.inj _ _ _ hb2 hb;omega
theorem oh(R:Rel A B w0 nm σ a.tmps w){id i off n sz:E}{es:F (F D)}{d ds:F D}{y:V1}{va vx:Value}{t:TypeId}{inf:TypeInfo}(hi:P.info? t=T inf)(hn:inf.size=n)
  (ha:VRel (cx A nm σ w) (.v (.sc (.pe id i off))) va) (hx:VRel (cx A nm σ w) (.v y) vx) (hf:A1 σ.rows id=T (sz,es)) (hd:es[i]?=T d) (hds:y.toDs=T ds) (hl:ds.length=n) (hle:off+n≤d.length) :
  ∃w',(Instr.storeAt t va vx).run P w= .ok () w'∧Rel A B w0 nm {σ with rows:=put σ.rows id (sz,es.set i (Ew d off ds))} a.tmps w':=by
 obtain⟨b,cap,hb,own,hlt,rfl⟩:=ha.inv_sc.inv_pe hf;obtain⟨hpos,hroom,hsmall,C,t',h2,hcs,hrows⟩:=own;have hy:V1Rel (cx A nm σ w) y vx:=by cases hx with | v H=>exact H
 have hyc:=hy.cells;obtain⟨hrep,hlen⟩:=IX hyc hds;have hlv:=hyc.length;have hsz:vx.cells.size=n:=by simp at hlv; omega
 obtain⟨hdl,hdr⟩:=hrows.row hd;have hmul:(i+1)*sz≤cap*sz:=G _ (by omega);rw[O,Nat.one_mul] at hmul
 have hst:=run_storeCells_at P b (i*sz+off) t' vx.cells.toList 0 C w h2 (by simp; omega) hyc.one;simp only[Q] at hst
 refine⟨w.setRow b (C.toList.take (i*sz+off)++vx.cells.toList++C.toList.drop (i*sz+off+vx.cells.toList.length)).toArray,?_,?_⟩
 ·have h5:=PO (P:=P) (w:=w) (ad:=⟨b,i*sz+off,none⟩) hi (hsz.trans hn.symm);simp only[Instr.storeAt,Instr.sureAddr,Sem.run_bind,Sem.run_pure,Result.andThen_ok];rw[h5];exact hst
 ·have hB:=(R.names _ b hb).1
  have hrow2:RepRows (Ab A nm w) sz (es.set i (Ew d off ds)) (C.toList.take (i*sz+off)++vx.cells.toList++C.toList.drop (i*sz+off+vx.cells.toList.length)):=by
   have hul:(((C.toList.drop (i*sz)).take sz).take off++vx.cells.toList++((C.toList.drop (i*sz)).take sz).drop (off+ds.length)).length=sz:=by
    simp;omega
   have hdr2:=hdr.cut (Nat.le_of_eq hdl);have hd2l:((C.toList.drop (i*sz)).take sz).length=sz:=by simp; omega
   have hu:Reps (Ab A nm w) (Ew d off ds) (((C.toList.drop (i*sz)).take sz).take off++vx.cells.toList++((C.toList.drop (i*sz)).take sz).drop (off+ds.length)):=by
    unfold Ew;refine((Reps.take off hdr2).append ?_ hrep).append ?_ (hdr2.drop _)
    ·simp; omega
    ·simp; omega
   have hsd:(Ew d off ds).length=sz:=by unfold Ew; simp; omega
   have:=hrows.set (i:=i) hlt hsd hul hu
   have e:C.toList.take (i*sz)++(((C.toList.drop (i*sz)).take sz).take off++vx.cells.toList++((C.toList.drop (i*sz)).take sz).drop (off+ds.length))++C.toList.drop (i*sz+sz) =
     C.toList.take (i*sz+off)++vx.cells.toList++C.toList.drop (i*sz+off+vx.cells.toList.length):=by
    have e1:((C.toList.drop (i*sz)).take sz).take off=(C.toList.drop (i*sz)).take off:=by rw[List.take_take,Nat.min_eq_left (by omega)]
    have e2:((C.toList.drop (i*sz)).take sz).drop (off+ds.length)++C.toList.drop (i*sz+sz)=C.toList.drop (i*sz+off+vx.cells.toList.length):=by
     have e3:vx.cells.toList.length=ds.length:=by simp; omega
     rw[e3,List.drop_take,List.drop_drop]
     have e4:C.toList.drop (i*sz+sz)=(C.toList.drop (i*sz+(off+ds.length))).drop (sz - (off+ds.length)):=by
      rw[List.drop_drop];congr 1
      omega
     rw[e4,List.take_append_drop];congr 1
     omega
    rw[e1,N,N,e2,← N,← N,← List.take_add]
   rwa [e] at this
  exact Ut R hb hf h2 (by simp; omega) hrow2 (by simp)
theorem Ui{α:Type}:∀{l:F (E × α)} {n:E} {v:α},A1 l n=T v→put l n v=l
 | [],_,_,h=>by simp[A1] at h
 | (k,u)::r,n,v,h=>by
  simp only[A1] at h;simp only[put];by_cases hk:k=n
  ·subst hk;simp at h;subst h;simp
  ·have h':(k==n)=false:=by simpa using hk
   simp only[h',cond_false] at h ⊢
   rw[Ui h]
theorem ZR(R:Rel A B w0 nm σ a.tmps w){t ty e:TypeId}{i:TypeInfo}{z:Value}{zs:F D}{ax:AV}{vx:Value}{σ':St}(ht:P.underlying t=T (.slice e))(hi:P.info? e=T i)(hz:i.zero=T z)(hzs:z.cells.size=i.size)(hpos:0<i.size)
  (hzr:zs.length=i.size∧Reps (Ab A nm w) zs z.cells.toList) (hx:VRel (cx A nm σ w) ax vx) (hs:σ.clrV i.size zs ax=T σ'):∃v w',(Builtin.clear_ #[t] ty #[vx]).run P w= .ok v w'∧Rel A B w0 nm σ' a.tmps w':=by
 unfold St.clrV at hs
 split at hs
 ·rename_i id lo hi'
  split at hs
  ·rename_i z' es hf
   split at hs
   ·rename_i hcond
    obtain⟨rfl,hzl,hle,rfl⟩:=hcond;cases hs
    have same:es.take lo++W (es.length - lo) zs=es→Rel A B w0 nm {σ with rows:=put σ.rows id (i.size,es.take lo++W (es.length - lo) zs)} a.tmps w:=fun h=>by
     rw[h,Ui hf];exact R
    rcases hx.inv_sc.inv_osub hf with ⟨rfl,rfl,_,_,a0,rfl⟩|⟨b,cap,cap',off,hb,own,h1,h2,⟨h3,_⟩,h4,h5,rfl⟩
    ·refine⟨.tuple #[],w,?_,same rfl⟩;cases a0<;>simp[Builtin.clear_,run_underlying ht]
    ·by_cases hlo:lo=es.length
     ·refine⟨.tuple #[],w,?_,same (by subst hlo; simp)⟩;simp[Builtin.clear_,run_underlying ht,hlo]
     ·have hlt:lo<es.length:=by omega
      obtain⟨q1,hroom,q3,C,t',q4,hcs,hrows⟩:=own;have hoff:=h3 hlt;subst hoff;have hmul:es.length*i.size≤cap*i.size:=G _ hroom;have hsp:es.length*i.size=lo*i.size+(es.length - lo)*i.size:=by rw[← O]; congr 1; omega
      have hfl:(Builtin.zeroCells z.cells (es.length - lo)).toList=(W (es.length - lo) z.cells.toList).flatten:=by
       unfold Builtin.zeroCells;rw[hzs];have:=Pu z.cells (es.length - lo) i.size hzs hpos;rw[hzs] at this
       exact this
      have hfll:(Builtin.zeroCells z.cells (es.length - lo)).toList.length=(es.length - lo)*i.size:=by rw[hfl]; simp[hzs]
      have hzrr:=RepRows.replicate hzl (by simpa using hzs) hzr.2 (es.length - lo);rw[← hfl] at hzrr
      have hone:=hzrr.one (by rw[hfll]; simp);have hst:=run_storeCells_at P b (lo*i.size) t' (Builtin.zeroCells z.cells (es.length - lo)).toList 0 C w q4 (by rw[hfll]; omega) hone;simp only[Q] at hst
      refine⟨.tuple #[],w.setRow b (C.toList.take (lo*i.size)++(Builtin.zeroCells z.cells (es.length - lo)).toList++C.toList.drop (lo*i.size+(Builtin.zeroCells z.cells (es.length - lo)).toList.length)).toArray,?_,?_⟩
      ·obtain⟨m,hm⟩:∃m,es.length - lo=m+1:=⟨es.length - lo - 1,by omega⟩;rw[hm] at hst ⊢
       simp[Builtin.clear_,run_underlying ht,zeroValue,typeInfo,hi,hz,hst]
      ·refine Ut R hb hf q4 (by simp only[List.length_append,List.length_take,List.length_drop,hfll,Array.length_toList]; omega) ?_ (by simp; omega);have hta:RepRows (Ab A nm w) i.size (es.take lo) (C.toList.take (lo*i.size)):=(hrows.takeRows lo).cut (by simp; exact G _ (Nat.min_le_left _ _));refine((hta.append ?_ hzrr).more _);simp only[List.length_take,Array.length_toList,Nat.min_eq_left hle];omega
   ·cases hs
  ·cases hs
 ·cases hs
theorem RepS.flat1{h h':A6}{c d:D}{u u' v:Value}(H:RepS h c u)(hs:ShV u u')(hl:IF c d=true)(hd:Rep h' d v):ShV u' v:=by
 cases c<;>cases d<;>simp[IF] at hl
 ·subst hl;cases H with | int a b=>
  cases hd with | int p q=>
  cases hs with
  | same=>exact .int p q
  | int _ _=>exact .int p q
 ·cases H;cases hd;cases hs<;>exact .bool
 ·cases H with | str a=>
  cases hd with | str p=>
  cases hs with
  | same=>exact .str p
  | str _=>exact .str p
theorem ShL.put:∀{l:F Value} {i:E} {u v:Value},l[i]?=T u→ShV u v→ShL l (l.take i++ [v]++l.drop (i+1))
 | [],_,_,_,h,_=>by simp at h
 | x::l,0,u,v,h,hs=>by
  simp at h;subst h;simpa using .cons hs (ShL.refl l)
 | x::l,i+1,u,v,h,hs=>by
  simp at h;have:=ShL.put h hs;simp only[N,List.cons_append,List.nil_append] at this
  simp;exact .cons .same this
theorem UB{a b c:F Value}:ShL a b→ShL b c→ShL a c
 | .nil,.nil=> .nil
 | .cons h hs,.cons k ks=> .cons (by
  cases h with
  | same=>exact k
  | int h1 h2=>cases k with
   | same=>exact .int h1 h2
   | int k1 k2=>exact .int k1 k2
  | bool=>cases k with
   | same=>exact .bool
   | bool=>exact .bool
  | str h1=>cases k with
   | same=>exact .str h1
   | str k1=>exact .str k1) (UB hs ks)
theorem oi(R:Rel A B w0 nm σ a.tmps w){c d:D}{cs:F D}{va vx:Value}{t:TypeId}{inf:TypeInfo}(hi:P.info? t=T inf)(hn:inf.size=1)(ha:VRel (cx A nm σ w) (.v (.sc (.vol (.pd (c::cs))))) va)(hx:VRel (cx A nm σ w) (.v (.sc (.dat d))) vx)(hl:IF c d=true) :
  ∃w',(Instr.storeAt t va vx).run P w= .ok () w'∧Rel A B w0 nm σ a.tmps w':=by
 have hp:=ha.inv_sc;cases hp with | vol hp hsh=>
 cases hp with | pd hC hreps=>
 cases hsh;rename_i b C0 off
 obtain⟨C,t',fr,hC2,hshl,rfl,hvv⟩:=R.volAt hC
 obtain⟨u,us,hu,hrep⟩:∃u us,C0.drop off=u::us∧RepS A.v c u:=by
  generalize C0.drop off=l at hreps
  cases hreps with | cons a b=>exact⟨_,_,rfl,a⟩
 have hu0:C0[off]?=T u:=by
  have:(C0.drop off)[0]?=T u:=by rw[hu]; rfl
  simpa using this
 obtain⟨u',hu',hs'⟩:=hshl.get hu0;have hy:V1Rel (cx A nm σ w) (.sc (.dat d)) vx:=by cases hx with | v H=>exact H
 have hyc:CRels (cx A nm σ w) [.dat d] vx.cells.toList:=hy.cells
 obtain⟨v',hv',hd⟩:∃v',vx.cells.toList= [v']∧Rep (Ab A nm w) d v':=by
  generalize vx.cells.toList=l at hyc
  cases hyc with | cons p q=>
  cases q;exact⟨_,rfl,p.inv_dat⟩
 have hsz:vx.cells.size=1:=by
  have:=congrArg List.length hv';simpa using this
 have hoff:off<C.toList.length:=(List.getElem?_eq_some_iff.1 hu').1;have hst:=run_storeCells_at P b off t' vx.cells.toList 0 C w hC2 (by rw[hv']; simp at hoff ⊢; omega) hyc.one;have hsv:ShV u' v':=hrep.flat1 hs' hl hd;simp only[Q,hv',List.length_singleton] at hst
 refine⟨w.setRow b (C.toList.take off++ [v']++C.toList.drop (off+1)).toArray,?_,?_⟩
 ·have h5:=PO (P:=P) (w:=w) (ad:=⟨b,off,none⟩) hi (hsz.trans hn.symm);simp only[Instr.storeAt,Instr.sureAddr,Sem.run_bind,Sem.run_pure,Result.andThen_ok];rw[h5,hv'];exact hst
 ·have hne:∀i g,nm i=T g→g≠b:=fun i g hg e=>by
   subst e;rcases(R.names i g hg).1 with h1|h1
   ·have:=R.below.vlt g hvv; omega
   ·exact w0.no g hvv h1
  have hview:∀b' C',Ab A nm w b' C'→Ab A nm (w.setRow b (C.toList.take off++ [v']++C.toList.drop (off+1)).toArray) b' C':=by
   rintro b' C' ⟨h1,c1,t1,Ap,hA,h2,h3⟩
   exact⟨h1,c1,t1,Ap,hA,(setRow_other w b b' _ (fun e=>R.all.vout b Ap hvv (e▸hA))).trans h2,h3⟩
  have hcell:∀c v,CRel (cx A nm σ w) c v→CRel (cx A nm σ (w.setRow b (C.toList.take off++ [v']++C.toList.drop (off+1)).toArray)) c v:=fun c v hr=>
   hr.move hview (fun i _=> .inr ⟨rfl,rfl,fun g hg=>setRow_other w b g _ (hne _ _ hg)⟩) (fun i _ b hb2=>hb2)
  refine⟨⟨R.below.os,R.below.tape,R.below.output,by simp[R.below.size],fun k hk hm hv=> ?_,fun k hm C1 t1 Ap h1=> ?_,R.below.vlt,fun k hv C1 t1 Ap h1=> ?_⟩,by simp[R.size],R.all,R.good,fun i g hg=>by simpa using R.names i g hg,R.inj,R.pin,fun k=>(R.env k).to fun c v _=>hcell c v,fun i cs hcs=> ?_⟩
  ·rw[setRow_other w b k _ (fun e=>hv (e▸hvv))];exact R.below.block k hk hm hv
  ·obtain⟨C',k1,k2⟩:=R.below.room k hm C1 t1 Ap h1;exact⟨C',(setRow_other w b k _ (fun e=>w0.no b hvv (e▸hm))).trans k1,k2⟩
  ·obtain⟨C',k1,k2⟩:=R.below.shape k hv C1 t1 Ap h1;by_cases e:k=b
   ·subst e;rw[k1] at hC2
    cases hC2;exact⟨_,setRow_heap w k _ _ _ _ k1,UB k2 (by simpa using ShL.put hu' hsv)⟩
   ·exact⟨C',(setRow_other w b k _ e).trans k1,k2⟩
  ·exact(R.bxs i cs hcs).move (fun g hg=>⟨hg,setRow_other w b g _ (hne _ _ hg)⟩) fun c v _=>hcell c v
theorem QY{av:AV}{v:Value}{es:F (F D)}{sz:E}(hv:VRel (cx A nm σ w) av v)(hs:appSrc σ.rows av=T es)(hall:es.all (fun r=>r.length==sz)=true)(hpos:0<sz) :
  ∃p c news,v= .slice p es.length c∧news.length=es.length*sz∧RepRows (Ab A nm w) sz es news∧(∀w':World,w'.heap=w.heap→(Builtin.firstCells sz es.length v).run P w'= .ok news.toArray w'):=by
 have empty:es= []→∀p c,v= .slice p 0 c→∃p c news,v= .slice p es.length c∧news.length=es.length*sz∧RepRows (Ab A nm w) sz es news∧(∀w':World,w'.heap=w.heap→(Builtin.firstCells sz es.length v).run P w'= .ok news.toArray w'):=by
  intro he p c hv;subst he hv;refine⟨p,c,[],rfl,by simp,.nil,fun w' _=> ?_⟩;cases p<;>simp[Builtin.firstCells,loadCells,loadCellsFrom]
 have full:∀(b off c lo:E) (C:Array Value) (t:TypeId) (fr:E × E),es≠ []→v= .slice (T ⟨b,off,none⟩) es.length c→w.heap[b]?=T (.cells C t fr)→RepRows (Ab A nm w) sz es (C.toList.drop off)→
   ∃p c news,v= .slice p es.length c∧news.length=es.length*sz∧RepRows (Ab A nm w) sz es news∧(∀w':World,w'.heap=w.heap→(Builtin.firstCells sz es.length v).run P w'= .ok news.toArray w'):=by
  intro b off c lo C t fr hne hv hC hr;have hlen:=hr.len;have hpe:0<es.length:=List.length_pos_iff.2 hne;have hp:0<es.length*sz:=Nat.mul_pos hpe hpos;simp only[List.length_drop,Array.length_toList] at hlen
  refine⟨_,_,(C.toList.drop off).take (es.length*sz),hv,by simp; omega,hr.cut (V _),fun w' hw=> ?_⟩;subst hv;simp only[Builtin.firstCells];exact Nx (by rw[hw]; exact hC) (by omega)
 have hsz:∀{sz':E} {vs:F Value} {h:A6},es≠ []→RepRows h sz' es vs→sz'=sz:=by
  intro sz' vs h hne hr;cases es with
  | nil=>exact absurd rfl hne
  | cons d ds=>
   simp at hall
   cases hr with | cons k _ _=>omega
 unfold appSrc at hs
 split at hs
 ·rename_i c
  split at hs
  ·rename_i es' hd
   cases hs;have hc:=hv.inv_sc;cases c with
   | dat d=>
    simp only[toD0,Option.some.injEq] at hd
    subst hd;have hr:=hc.inv_dat;cases hr with
    | nil=>exact empty rfl _ _ rfl
    | @sl _ b C sz' off cap _ hC hp hrows hlen hcap hmax=>
     subst hlen;obtain⟨_,C',t,fr,_,hC',rfl⟩:=hC;by_cases hne:es= []
     ·subst hne; exact empty rfl _ _ rfl
     ·have e:=hsz hne hrows;subst e;exact full b off cap 0 C' t fr hne rfl hC' hrows
   | own id=>
    simp only[toD0] at hd
    split at hd
    ·rename_i sz' es2 hf
     cases hd;rcases hc.inv_own hf with ⟨rfl,_,a0,rfl⟩|⟨b,cap,hb,own,rfl⟩
     ·exact empty rfl _ _ rfl
     ·obtain⟨_,_,_,C,t,h1,h2,h3⟩:=own;by_cases hne:es= []
      ·subst hne; exact empty rfl _ _ rfl
      ·have e:=hsz hne h3;subst e;exact full b 0 cap 0 C t _ hne rfl h1 (by rw[List.drop_zero]; exact h3)
    ·cases hd
   | osub id lo hi=>
    simp only[toD0] at hd
    split at hd
    ·rename_i sz' es2 hf
     cases hd;rcases hc.inv_osub hf with ⟨rfl,rfl,rfl,_,a0,rfl⟩|⟨b,cap,cap',off,hb,own,h1,h2,⟨h3,_⟩,h4,h5,rfl⟩
     ·exact empty (by simp) a0 0 rfl
     ·obtain⟨_,_,_,C,t,k1,k2,k3⟩:=own;have hl:((es2.drop lo).take (hi - lo)).length=hi - lo:=by simp; omega
      by_cases hlt:lo<hi
      ·have hne:(es2.drop lo).take (hi - lo)≠ []:=fun e=>by rw[e] at hl; simp at hl; omega
       have hr:=(k3.dropRows lo).takeRows (hi - lo);have e:=hsz hne hr;subst e;exact full b (lo*sz') cap' 0 C t _ hne (by rw[hl,h3 hlt]) k1 hr
      ·have e0:hi - lo=0:=by omega
       exact empty (by rw[e0]; simp) (T ⟨b,off,none⟩) cap' (by rw[e0])
    ·cases hd
   | nil=>
    simp only[toD0,Option.some.injEq,D.sl.injEq] at hd
    subst hd;cases hc;exact empty rfl _ _ rfl
   | _=>simp[toD0] at hd
  ·cases hs
 ·cases hs
section
variable {t t' ty e e' : TypeId} {i : TypeInfo} {z x : Value}
theorem nb(ht:P.underlying t=T (.slice e))(ht':P.underlying t'=T (.slice e'))(hi:P.info? e=T i){g n cap m c:E}{p:Option Addr}{cur:Array Value}{t0:TypeId}{news:F Value}
  (hg:w.heap[g]?=T (.cells cur t0 (0,0))) (hx:x= .slice p m c) (hf:(Builtin.firstCells i.size m x).run P w= .ok news.toArray w) (h1:∀u∈news,u.oneCell'=true) (hroom:n+m≤cap) (hfit:n*i.size+news.length≤cur.size) :
  (Builtin.append_ #[t,t'] ty #[.slice (T ⟨g,0,none⟩) n cap,x]).run P w =
   .ok (.slice (T ⟨g,0,none⟩) (n+m) cap) (w.setRow g (cur.toList.take (n*i.size)++news++cur.toList.drop (n*i.size+news.length)).toArray):=by
 subst hx;have hst:=run_storeCells_at P g (n*i.size) t0 news 0 cur w hg (by simpa using hfit) h1;simp only[Q] at hst
 simp[Builtin.append_,run_underlying ht,run_underlying ht',sizeOf,typeInfo,hi,Builtin.lenOf,hroom,hf,Addr.add_lit,hst]
theorem Ux(ht:P.underlying t=T (.slice e))(ht':P.underlying t'=T (.slice e'))(hi:P.info? e=T i){m c:E}{p base:Option Addr}
  (hx:x= .slice p m c) (hf:(Builtin.firstCells i.size m x).run P w= .ok #[] w) (hm:m=0) :
  (Builtin.append_ #[t,t'] ty #[.slice base 0 0,x]).run P w= .ok (.slice base 0 0) w:=by
 subst hx hm;cases base<;>simp[Builtin.append_,run_underlying ht,run_underlying ht',sizeOf,typeInfo,hi,Builtin.lenOf,hf,storeCells]
theorem Uw(ht:P.underlying t=T (.slice e))(ht':P.underlying t'=T (.slice e'))(hi:P.info? e=T i)(hz:i.zero=T z){base:Option Addr}{n cap m c:E}{p:Option Addr}{olds news:F Value}
  (hx:x= .slice p m c) (ho:(Builtin.firstCells i.size n (.slice base n cap)).run P w.drew= .ok olds.toArray w.drew) (hf:(Builtin.firstCells i.size m x).run P w.drew= .ok news.toArray w.drew)
  (hg:cap<n+m) (h63:((n+m:E):Int)≤9223372036854775807) (hfit:(n+m)*i.bytes≤140737488355328) :
  (Builtin.append_ #[t,t'] ty #[.slice base n cap,x]).run P w =
   .ok (.slice (T ⟨w.heap.size,0,none⟩) (n+m) (grownCap w (n+m) cap e))
    (w.drew.alloc (.cells (olds.toArray++news.toArray++Builtin.zeroCells z.cells (grownCap w (n+m) cap e - (n+m))) e)):=by
 subst hx;have hn:¬(n+m≤cap):=by omega
 have h63':¬(9223372036854775807<((n:Int)+(m:Int))):=by omega
 have h48':¬(281474976710656<Builtin.nextslicecap (n+m) cap*i.bytes):=by have:=growslice_fits hg hfit; omega
 simp[Builtin.append_,run_underlying ht,run_underlying ht',sizeOf,typeInfo,zeroValue,hi,hz,Builtin.lenOf,hn,h63',h48',Question.forced,hf,ho,newRow,grownCap];congr 2
 apply Array.ext'
 simp
end
theorem St.get_map{f:AC→AC}{k:E}:(σ.map f).get k=(σ.get k).map f:=by
 unfold St.get St.map;simp only
 have:∀l:F (E × AV),A1 (l.map fun p=>(p.1,p.2.map f)) k=(A1 l k).map (AV.map f):=by
  intro l
  induction l with
  | nil=>rfl
  | cons p r ih=>
   by_cases h:p.1=k
   ·simp[A1,h]
   ·have h':(p.1==k)=false:=by simpa using h
    simp[A1,h',ih]
 rw[this];cases A1 σ.env k<;>rfl
theorem Fi{f:AC→AC}{k:E}:A1 (σ.map f).bx k=(A1 σ.bx k).map (List.map f):=by
 unfold St.map;simp only
 have:∀l:F (E × F AC),A1 (l.map fun p=>(p.1,p.2.map f)) k=(A1 l k).map (List.map f):=by
  intro l
  induction l with
  | nil=>rfl
  | cons p r ih=>
   by_cases h:p.1=k
   ·simp[A1,h]
   ·have h':(p.1==k)=false:=by simpa using h
    simp[A1,h',ih]
 exact this _
theorem BK{i j:E}(h:¬i=j):(i==j)=false:=by simpa using h
theorem Ns(c:AC)(id:E):(c.has id=true∧c.kill id= .undef)∨(c.has id=false∧c.kill id=c):=by
 cases c with
 | own i=>by_cases h:i=id<;>simp[AC.has,AC.kill,h,BK]
 | osub i _ _=>by_cases h:i=id<;>simp[AC.has,AC.kill,h,BK]
 | pe i _ _=>by_cases h:i=id<;>simp[AC.has,AC.kill,h,BK]
 | _=>exact .inr ⟨rfl,rfl⟩
theorem Rel.afterApp(R:Rel A B w0 nm σ a.tmps w){nm':Ad}{w':World}{id d sz:E}{es2:F (F D)}{v:Value}(hd:d<a.tmps.size)
  (hbel:BelowX B w0 w') (hsz:B≤w'.heap.size) (hnames:∀i b,nm' i=T b→(B≤b∨w0.M b)∧b<w'.heap.size) (hinj:∀i j b,nm' i=T b→nm' j=T b→i=j) (hpin:∀i,Av≤i→nm' i=nm i)
  (hsame:∀i,i≠2*id+1→nm' i=nm i∧∀b,nm i=T b→w'.heap[b]?=w.heap[b]?) (hview:∀b C,Ab A nm w b C→Ab A nm' w' b C)
  (hv:CRel ⟨nm',Vi.put σ.rows id (sz,es2),Ab A nm' w',w',A.o,A.v,A.new⟩ (.own id) v) :
  Rel A B w0 nm' {((σ.map (AC.kill id)).set d (.v (.sc (.own id)))) with rows:=Vi.put σ.rows id (sz,es2)} (a.put (T d) v).tmps w':=by
 have R1:Rel A B w0 nm' {(σ.map (AC.kill id)) with rows:=Vi.put σ.rows id (sz,es2)} a.tmps w':=by
  refine R.carry (f:=AC.kill id) hbel hsz hnames hinj hpin (fun k=>St.get_map) (fun k=>Fi) (fun k cs hk b hb=> ?_) (fun c v hc hr=> ?_)
  ·obtain⟨h1,h2⟩:=hsame (2*k) (by omega);exact⟨h1.trans hb,h2 b hb⟩
  ·rcases Ns c id with ⟨_,hk⟩|⟨hn,hk⟩
   ·rw[hk]; exact .undef hr.one
   ·rw[hk];refine hr.move hview (fun j hj=> .inr ?_) (fun j _ b hb=> ?_)
    ·have hne:j≠id:=fun e=>by subst e; rw[hn] at hj; cases hj
     obtain⟨h1,h2⟩:=hsame (2*j+1) (by omega);exact⟨Bb _ _ hne,h1,h2⟩
    ·exact(hsame (2*j) (by omega)).1.trans hb
 exact R1.put hd (Be hv)
theorem YU(R:Rel A B w0 nm σ a.tmps w){t t' ty e e':TypeId}{i:TypeInfo}{z:Value}{d:E}{ax ay:AV}{vx vy:Value}{σ':St}(ht:P.underlying t=T (.slice e))(ht':P.underlying t'=T (.slice e'))
  (hi:P.info? e=T i) (hz:i.zero=T z) (hzs:z.cells.size=i.size) (hpos:0<i.size) (hd:d<a.tmps.size)
  (hx:VRel (cx A nm σ w) ax vx) (hy:VRel (cx A nm σ w) ay vy) (hs:σ.appV d i.size i.bytes ax ay=T σ') :
  ∃v w' nm',(Builtin.append_ #[t,t'] ty #[vx,vy]).run P w= .ok v w'∧Rel A B w0 nm' σ' (a.put (T d) v).tmps w':=by
 unfold St.appV at hs
 split at hs
 ·rename_i id
  split at hs
  rotate_left
  ·cases hs
  rename_i hid
  split at hs
  ·rename_i sz' es es' hf hes
   split at hs
   ·rename_i hc
    obtain⟨rfl,hall,hb47,h62⟩:=hc;cases hs;obtain⟨p,c,news,rfl,hnl,hnr,hload⟩:=QY (P:=P) hy hes hall hpos;have hone:=hnr.one hnl;have h63:((es.length+es'.length:E):Int)≤9223372036854775807:=by omega
    have grow:∀(base:Option Addr) (cap:E) (olds:F Value),vx= .slice base es.length cap→(Builtin.firstCells i.size es.length (.slice base es.length cap)).run P w.drew= .ok olds.toArray w.drew→
      olds.length=es.length*i.size→RepRows (Ab A nm w) i.size es olds→cap<es.length+es'.length→
      ∃v w' nm',(Builtin.append_ #[t,t'] ty #[vx,.slice p es'.length c]).run P w= .ok v w'∧
       Rel A B w0 nm' {((σ.map (AC.kill id)).set d (.v (.sc (.own id)))) with rows:=put σ.rows id (i.size,es++es')} (a.put (T d) v).tmps w':=by
     intro base cap olds hvx ho hol hor hlt;subst hvx;have hrun:=Uw (P:=P) (w:=w) (ty:=ty) ht ht' hi hz (base:=base) (n:=es.length) (cap:=cap) (x:= .slice p es'.length c) rfl ho (hload w.drew rfl) hlt h63 hb47;have hge:=grownCap_ge w (es.length+es'.length) cap e;have hcm:grownCap w (es.length+es'.length) cap e≤maxLen:=grownCap_le_maxLen w (es.length+es'.length) cap e (by unfold maxLen; omega);generalize hgc:grownCap w (es.length+es'.length) cap e=gc at hrun hge hcm
     let nm':Ad:=fun n=>if n=2*id+1 then T w.heap.size else nm n
     refine⟨_,_,nm',hrun,?_⟩;have hbel:BelowX B w0 (w.drew.alloc (.cells (olds.toArray++news.toArray++Builtin.zeroCells z.cells (gc - (es.length+es'.length))) e)):=R.below.trans R.there (((RowKit.Below.refl w.heap.size w).drew).alloc (V _) _) R.size
     have hview:∀b C,Ab A nm w b C→Ab A nm' (w.drew.alloc (.cells (olds.toArray++news.toArray++Builtin.zeroCells z.cells (gc - (es.length+es'.length))) e)) b C:=Cf fun b hb hn=>⟨fun j=>by
      simp only[nm'];split
      ·intro e2; cases e2; omega
      ·exact hn j,heap_alloc_old w.drew _ b hb⟩
     refine R.afterApp hd hbel (by simp; have:=R.size; omega) (fun j b hjb=> ?_) (fun j k b hj hk=> ?_) (fun j hpj=>by simp only[nm']; rw[if_neg]; unfold Av at hpj; omega) (fun j hj=> ?_) hview ?_
     ·simp only[nm'] at hjb
      split at hjb
      ·cases hjb; have:=R.size; exact⟨.inl this,by simp⟩
      ·obtain⟨k1,k2⟩:=R.names j b hjb; exact⟨k1,by simp; omega⟩
     ·simp only[nm'] at hj hk
      split at hj<;>split at hk
      ·omega
      ·cases hj; have:=R.names k _ hk; omega
      ·cases hk; have:=R.names j _ hj; omega
      ·exact R.inj j k b hj hk
     ·refine⟨by simp only[nm']; rw[if_neg hj],fun b hb=>heap_alloc_old w.drew _ b (R.names _ b hb).2⟩
     ·refine .own (B9 _ _ _) (by simp[nm']) ⟨hpos,by simp; omega,hcm,_,e,heap_alloc_new w.drew _,?_,?_⟩ (by simp)
      ·simp only[Array.size_append,List.size_toArray,size_zeroCells,hzs,hol,hnl,← O];congr 1
       omega
      ·simp only[Array.toList_append];exact(((hor.append hol hnr).mono hview).more _)
    rcases hx.inv_sc.inv_own hf with ⟨rfl,hn,a0,rfl⟩|⟨b,cap,hb,own,rfl⟩
    ·by_cases he:es'= []
     ·subst he;have hl0:=hload w rfl;have hn0:news= []:=L.1 (by simpa using hnl);subst hn0;refine⟨_,w,nm,Ux (base:=a0) ht ht' hi rfl hl0 rfl,?_⟩;exact R.afterApp hd R.below R.size R.names R.inj (fun _ _=>rfl) (fun j _=>⟨rfl,fun _ _=>rfl⟩) (fun _ _ h=>h) (.ownNil (B9 _ _ _) hn)
     ·have hp0:0<es'.length:=List.length_pos_iff.2 he;exact grow a0 0 [] rfl (by cases a0<;>simp[Builtin.firstCells,loadCells,loadCellsFrom]) (by simp) .nil (by simpa using hp0)
    ·obtain⟨_,hroom,hsmall,C,t0,h1,h2,h3⟩:=own;have h1':w.heap[b]?=T (.cells C t0 (0,0)):=h1;by_cases hr:es.length+es'.length≤cap
     ·have hmul:(es.length+es'.length)*i.size≤cap*i.size:=G _ hr;rw[O] at hmul
      have hrun:=nb (P:=P) (w:=w) (ty:=ty) ht ht' hi h1' (x:= .slice p es'.length c) rfl (hload w rfl) hone hr (by omega);refine⟨_,_,nm,hrun,?_⟩;have hB:=(R.names _ b hb).1;refine R.afterApp hd (Om R.below hB h1' (by simp; omega)) (by simp[R.size]) (fun j b2 hj=>by simpa using R.names j b2 hj) R.inj (fun _ _=>rfl) (fun j hj=>⟨rfl,fun b2 hb2=>setRow_other w b b2 _ fun e2=> ?_⟩) (LK hb) ?_
      ·subst e2;exact hj (R.inj _ _ _ hb2 hb)
      ·refine .own (B9 _ _ _) hb ⟨hpos,by simp; omega,hsmall,_,t0,setRow_heap w b C _ t0 _ h1',?_,?_⟩ (by simp)
       ·rw[← h2];simp;omega
       ·have hcut:RepRows (Ab A nm w) i.size es (C.toList.take (es.length*i.size)):=h3.cut (V _);have h6:=(hcut.append (by simp; omega) hnr).more (C.toList.drop (es.length*i.size+news.length));exact h6.mono (LK (nm:=nm) hb)
     ·have hlen:es.length*i.size≤C.size:=by rw[h2]; exact G _ hroom
      refine grow (T ⟨b,0,none⟩) cap (C.toList.take (es.length*i.size)) rfl ?_ (by simp; omega) (h3.cut (V _)) (by omega);simp only[Builtin.firstCells];have:=Nx (P:=P) (w:=w.drew) (b:=b) (off:=0) (n:=es.length*i.size) (C:=C) h1' (by omega);simpa using this
   ·cases hs
  ·cases hs
 ·cases hs
end
end Go.Vi
