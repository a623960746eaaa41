/-
The value level. No condition.
-/
import Derived.Test.YtfmhammmkkbonaaGreatDoorCVi33
namespace Go.Vi
set_option linter.all false
open Option renaming map_eq_some_iff → O, some → F, none → E
open Option.some renaming inj → U
open Nat renaming le_trans → V
open List renaming all_cons → W
open Bool renaming true → T
open _root_ renaming List → G, Option → L, Nat → N
inductive YV where
 | d (x:DV)
 | p
inductive YVRel (h:A3) (p:N):YV→Value→Prop
 | d {x v}:DVRel h x v→YVRel h p (.d x) v
 | p:YVRel h p .p (.pointer (F ⟨p,0,E⟩))
inductive YVRels (h:A3) (p:N):G YV→G Value→Prop
 | nil:YVRels h p [] []
 | cons {x v xs vs}:YVRel h p x v→YVRels h p xs vs→YVRels h p (x::xs) (v::vs)
theorem YVRels.len{h:A3}{p:N}:∀{xs vs},YVRels h p xs vs→xs.length=vs.length
 | _,_,.nil=>rfl
 | _,_,.cons _ b=>by simp[b.len]
theorem YVRels.get{h:A3}{p:N}:∀{xs:G YV} {vs:G Value} (i:N) {x:YV} {v:Value},YVRels h p xs vs→xs[i]?=F x→vs[i]?=F v→YVRel h p x v
 | _,_,_,_,_,.nil,hd,_=>by simp at hd
 | _,_,0,_,_,.cons a _,hd,hv=>by simp at hd hv; subst hd hv; exact a
 | _,_,i+1,_,_,.cons _ b,hd,hv=>YVRels.get i b (by simpa using hd) (by simpa using hv)
def B9(p:N):Ab:=fun i=>if i=199999999998 then F p else E
theorem Dx{p i b:N}(h:B9 p i=F b):i=199999999998∧p=b:=by
 unfold B9 at h;split at h
 ·exact⟨by assumption,U h⟩
 ·cases h
def Em(h:A3)(w:World)(p:N)(cs:G D):Prop:=∃C t,w.heap[p]?=F (.cells C t (0,0))∧Reps h cs C.toList∧cs.length=C.toList.length
def FCy(P:Program)(f:FuncId)(xs:G YV)(cs0 cs1:G D)(rs:G R1):Prop:=
 ∀(w:World) (A:B5) (p:N) (vs:G Value),(∀w2,BelowX w.heap.size (.of w (B9 p)) w2→GoodW w2)→p<w.heap.size→(∀fr,¬A p fr)→Em (Al A w) w p cs0→YVRels (Al A w) p xs vs→Calls P f vs.toArray w fun e w'=>
  ∃(v:Value) (bs:G (L N)),e= .returned v∧BelowX w.heap.size (.of w (B9 p)) w'∧Em (Al (fun b fr=>b≠p∧((w.heap.size≤b∧fr=(0,0))∨A b fr)) w') w' p cs1∧RRel (Al (fun b fr=>b≠p∧((w.heap.size≤b∧fr=(0,0))∨A b fr)) w') w' rs v bs
def RC.isV:RC→Bool
 | .v _=>T
 | .o .. =>false
def F3(rs:G R1):Bool:=rs.all fun r=>r.cells.all RC.isV
section
variable {X : Cx} {g : N}
theorem VZ:∀{cs:G RC} {vs:G Value} {bs:G (L N)} {j:N},cs.all RC.isV=T→RCRels X.h X.w cs vs bs→CRels X (Ed g j cs) vs
 | _,_,_,_,_,.nil=> .nil
 | _,_,_,j,h,.cons a b=>by
  simp only[W,Bool.and_eq_true] at h;refine .cons ?_ (VZ h.2 b);cases a with
  | v hd=>exact .dat hd
  | nil=>cases h.1
  | o=>cases h.1
theorem VS{r:R1}{v:Value}{bs:G (L N)}{j:N}(h:r.cells.all RC.isV=T)(H:R1Rel X.h X.w r v bs):V1Rel X (r.inst g j) v:=by
 cases H with
 | sc hc=>
  refine .sc ?_;cases hc with
  | v hd=>exact .dat hd
  | nil=>simp[R1.cells,RC.isV] at h
  | o=>simp[R1.cells,RC.isV] at h
 | ag hc=>exact .ag (VZ h hc)
theorem W2:∀{rs:G R1} {vs:G Value} {bs:G (L N)} {j:N},F3 rs=T→R1Rels X.h X.w rs vs bs→V1Rels X (Dt g j rs) vs
 | _,_,_,_,_,.nil=> .nil
 | _,_,_,j,h,.cons a b=>by
  simp only[F3,W,Bool.and_eq_true] at h;exact .cons (VS h.1 a) (W2 h.2 b)
theorem VU{rs:G R1}{v:Value}{bs:G (L N)}(h:F3 rs=T)(H:RRel X.h X.w rs v bs):VRel X (By g rs) v:=by
 cases H with
 | one a=>
  simp only[F3,W,List.all_nil,Bool.and_true] at h;exact .v (VS h a)
 | @many rs vs bs hl a=>
  have:By g rs= .tup (Dt g 0 rs):=by
   cases rs with
   | nil=>rfl
   | cons x r=>cases r with
    | nil=>exact absurd rfl hl
    | cons=>rfl
  rw[this];exact .tup (W2 h a)
end
def PE(id:N):AV→L YV
 | .v (.sc (.pb k o))=>bif (k==id)&&(o==0) then F .p else E
 | av=>(Ko av).map .d
def CH(id:N):G AV→L (G YV)
 | []=>F []
 | a::r=>match PE id a,CH id r with
  | some x,F xs=>F (x::xs)
  | _,_=>E
theorem CRels.reps{X:Cx}:∀{ds:G D} {vs:G Value},CRels X (ds.map .dat) vs→Reps X.h ds vs∧ds.length=vs.length
 | [],_,.nil=>⟨.nil,rfl⟩
 | d::ds,_,.cons a b=>by
  obtain⟨h1,h2⟩:=CRels.reps b;cases a with | dat h=>exact⟨.cons h h1,by simp[h2]⟩
section
variable {P : Program} {A : Ar} {B : N} {w0 : Base} {w : World} {nm : Ab} {σ : St} {tmps : Array Value}
theorem xJ{id p:N}{av:AV}{v:Value}{x:YV}(hp:nm (2*id)=F p)(H:VRel (cx A nm σ w) av v)(h:PE id av=F x):YVRel (Ad A nm w) p x v:=by
 unfold PE at h;split at h
 ·rename_i k o
  by_cases hk:k=id∧o=0
  ·obtain⟨rfl,rfl⟩:=hk;simp at h;subst h;have hc:=H.inv_sc;cases hc with | pb hb=>
   have hb':nm (2*k)=F _:=hb;have e:=U (hb'.symm.trans hp);subst e;exact .p
  ·exfalso
   have:((k==id)&&(o==0))=false:=by
    rw[Bool.and_eq_false_iff];by_cases h1:k=id
    ·right; simpa using fun h2=>hk ⟨h1,h2⟩
    ·left; simpa using h1
   rw[this] at h;cases h
 ·simp only[O] at h;obtain⟨d,h1,rfl⟩:=h;exact .d (N4 (X:=cx A nm σ w) H h1)
theorem PF{id p:N}(hp:nm (2*id)=F p):∀{avs:G AV} {vs:G Value} {xs:G YV},VsRel (cx A nm σ w) avs vs→CH id avs=F xs→YVRels (Ad A nm w) p xs vs
 | [],vs,xs,H,h=>by
  simp[CH] at h;subst h;obtain rfl:vs= []:=List.length_eq_zero_iff.1 H.1.symm;exact .nil
 | a::avs,vs,xs,H,h=>by
  unfold CH at h;split at h
  ·rename_i x xs' h1 h2
   cases h;cases vs with
   | nil=>have:=H.1; simp at this
   | cons v vs=>
    exact .cons (xJ hp (H.2 0 a v rfl rfl) h1) (PF hp ⟨by have:=H.1; simpa using this,fun i u v hu hv=>H.2 (i+1) u v (by simpa using hu) (by simpa using hv)⟩ h2)
  ·cases h
theorem TB(R:Rel A B w0 nm σ tmps w){id p:N}{cs1:G D}{w':World}(hp:nm (2*id)=F p)(hb:BelowX w.heap.size (.of w (B9 p)) w')(hh:Em (Al (fun b fr=>b≠p∧((w.heap.size≤b∧fr=(0,0))∨((∀i,nm i≠F b)∧A b fr))) w') w' p cs1) :
  Rel A B w0 nm {σ with bx:=put σ.bx id (cs1.map .dat)} tmps w':=by
 have hM:∀b,Base.M (.of w (B9 p)) b→b=p:=fun b hmm=>by
  obtain⟨i,_,e⟩:=Base.of_M hmm;exact(Dx e).2.symm
 have hbel:BelowX B w0 w':=R.below.after hb R.size R.there fun i b e=>by
  obtain⟨_,rfl⟩:=Dx e;exact(R.names _ _ hp).1
 have hsame:∀b,b<w.heap.size→b≠p→w'.heap[b]?=w.heap[b]?:=fun b hlt h=>hb.block b hlt (fun hm=>h (hM b hm)) fun hv=>hv.elim
 have hview:∀b C,Ad A nm w b C→Ad A nm w' b C:=CY fun b hlt hn=>⟨hn,hsame b hlt fun e=>hn _ (e▸hp)⟩
 have hcell:∀(σ':St) c v,σ'.rows=σ.rows→CRel (cx A nm σ w) c v→CRel (cx A nm σ' w') c v:=fun σ' c v hrs H=>
  H.move hview (fun k hk=> .inr ⟨by show A1 σ'.rows k=A1 σ.rows k; rw[hrs],rfl,fun b hbn=>hsame b (R.names _ b hbn).2 fun e=>by
   subst e;have:=R.inj _ _ _ hbn hp;omega⟩) (fun k _ b hb2=>hb2)
 refine⟨hbel,V R.size hb.size,R.all,R.good,fun i b hi=> ?_,R.inj,R.pin,fun k=>(R.env k).to fun c v _=>hcell _ c v rfl,fun k cs hcs=> ?_⟩
 ·obtain⟨h1,h2⟩:=R.names i b hi;exact⟨h1,Nat.lt_of_lt_of_le h2 hb.size⟩
 ·by_cases hk:k=id
  ·subst hk
   have e:cs=cs1.map .dat:=by
    have:=Bg σ.bx k (cs1.map AC.dat);exact U (hcs.symm.trans this)
   subst e;obtain⟨C,t,h1,h2,h3⟩:=hh;refine⟨p,C,t,hp,h1,CRels.of_dat (h2.mono fun b C hb2=> ?_) h3⟩;obtain⟨cc,tt,fr,⟨g1,g2⟩,g3⟩:=hb2;rcases g2 with ⟨g2,rfl⟩|g2
   ·exact⟨fun i e=>by have:=(R.names i b e).2; omega,cc,tt,_,R.all.all b (.inl (V R.size g2)),g3⟩
   ·exact⟨g2.1,cc,tt,fr,g2.2,g3⟩
  ·have hcs':A1 (put σ.bx id (cs1.map .dat)) k=F cs:=hcs;rw[Bt _ _ hk] at hcs'
   obtain⟨b,C,t,h1,h2,h3⟩:=R.bxs k cs hcs'
   have hne:b≠p:=fun e=>by
    subst e;have:=R.inj _ _ _ h1 hp;omega
   exact⟨b,C,t,h1,(hsame b (R.names _ _ h1).2 hne).trans h2,h3.to fun c v _=>hcell _ c v rfl⟩
theorem FCy.callC{f:FuncId}{xs:G YV}{cs0 cs1:G D}{rs:G R1}(H:FCy P f xs cs0 cs1 rs)(hv:F3 rs=T){id:N}{avs:G AV}(hx:CH id avs=F xs)(hb:A1 σ.bx id=F (cs0.map .dat)) :
  DX P f avs σ {σ with bx:=put σ.bx id (cs1.map .dat)} (By 0 rs):=by
 intro A B w0 w nm tmps vs R hvs;obtain⟨p,C,t,h1,h2,h3⟩:=R.bxs id _ hb;have h1':nm (2*id)=F p:=h1;obtain⟨k1,k2⟩:=CRels.reps h3;refine(H w (fun b fr=>(∀i,nm i≠F b)∧A b fr) p vs (fun w2 hb2=>R.good w2 (R.below.after hb2 R.size R.there fun i b e=> ?_)) (R.names _ _ h1').2 (fun _ h=>h.1 _ h1') ⟨C,t,h2,by rw[Ek]; exact k1,k2⟩ (by rw[Ek]; exact PF h1' hvs hx)).mono fun e w' h=> ?_
 ·obtain⟨_,rfl⟩:=Dx e;exact(R.names _ _ h1').1
 ·obtain⟨v,bs,rfl,g1,g2,g3⟩:=h;have R':=TB R h1' g1 g2;refine⟨v,nm,rfl,R',VU hv (g3.conv fun c _=> .inl fun b C hb2=> ?_)⟩;obtain⟨cc,tt,fr,⟨q1,q2⟩,q3⟩:=hb2;rcases q2 with ⟨q2,rfl⟩|q2
  ·exact⟨fun i e=>by have:=(R.names i b e).2; omega,cc,tt,_,R.all.all b (.inl (V R.size q2)),q3⟩
  ·exact⟨q2.1,cc,tt,fr,q2.2,q3⟩
end
def YV.av:YV→AV
 | .d x=>x.av
 | .p=> .v (.sc (.pb 99999999999 0))
def Gz:N→G YV→G (N × AV)
 | _,[]=> []
 | k,x::xs=>(k,x.av)::Gz (k+1) xs
def St.initY(xs:G YV)(cs0:G D):St:=⟨Gz 0 xs,[(99999999999,cs0.map .dat)],[]⟩
theorem QT:∀(ds:G YV) (k i:N),A1 (Gz k ds) i=if k≤i then(ds[i - k]?).map YV.av else E
 | [],k,i=>by simp[Gz,A1]
 | d::ds,k,i=>by
  simp only[Gz,A1];by_cases hk:k=i
  ·subst hk; simp
  ·have h':=C4 hk;rw[h',cond_false,QT ds (k+1) i];by_cases h1:k≤i
   ·rw[if_pos (by omega),if_pos h1,show i - k=(i - (k+1))+1 by omega]; simp
   ·rw[if_neg (by omega),if_neg h1]
theorem VO{w:World}{A0:B5}{p:N}{xs:G YV}{cs0:G D}{vs:G Value}(nt:N)(hG:∀w2,BelowX w.heap.size (.of w (B9 p)) w2→GoodW w2)(hp:p<w.heap.size)(hA:∀fr,¬A0 p fr)(hh:Em (Al A0 w) w p cs0)(h:YVRels (Al A0 w) p xs vs) :
  Rel (.of fun b fr=>A0 b fr∨(w.heap.size≤b∧fr=(0,0))) w.heap.size (.of w (B9 p)) (B9 p) (St.initY xs cs0) (vs.toArray++Array.replicate (nt - vs.toArray.size) undef) w:=by
 have hv:∀b C,Al A0 w b C→Ad (fun b fr=>A0 b fr∨(w.heap.size≤b∧fr=(0,0))) (B9 p) w b C:=fun b C ⟨cc,tt,fr,h0,h1⟩=>⟨fun i e=>by
  obtain⟨_,rfl⟩:=Dx e;exact hA _ h0,cc,tt,fr,.inl h0,h1⟩
 have hnp:B9 p (2*99999999999)=F p:=if_pos rfl;refine⟨BelowX.start _ _ (fun _ h=>h.elim),Nat.le_refl _,Glob.mk1 fun b hb=> .inr ⟨hb,rfl⟩,hG,fun i b hi=> ?_,fun i j b hi hj=> ?_,fun i _=>rfl,fun k=> ?_,fun id cs hcs=> ?_⟩
 ·obtain⟨e,rfl⟩:=Dx hi;exact⟨.inr (.inl ⟨i,by unfold AK; omega,hi⟩),hp⟩
 ·obtain⟨e,_⟩:=Dx hi;obtain⟨e2,_⟩:=Dx hj;omega
 ·unfold St.get;rw[show(St.initY xs cs0).env=Gz 0 xs from rfl,QT xs 0 k];simp only[Nat.zero_le,if_true,Nat.sub_zero];cases hd:xs[k]? with
  | none=>exact .undef
  | some x=>
   have hk:k<vs.length:=by rw[← h.len]; exact(List.getElem?_eq_some_iff.1 hd).1
   have hvk:vs[k]?=F (vs[k]'hk):=List.getElem?_eq_getElem hk
   have e:(vs.toArray++Array.replicate (nt - vs.toArray.size) undef).getD k undef=vs[k]'hk:=by
    rw[Array.getD_eq_getD_getElem?,Array.getElem?_append_left (by simpa using hk)];simp[hk]
   rw[e];have hr:=YVRels.get k h hd hvk;revert hr
   generalize vs[k]'hk=z
   intro hr;cases hr with
   | d hr=>exact DVRel.vrel (X:=cx (.of fun b fr=>A0 b fr∨(w.heap.size≤b∧fr=(0,0))) (B9 p) (St.initY xs cs0) w) (hr.mono hv)
   | p=>exact .v (.sc (.pb hnp))
 ·have hc:id=99999999999∧cs=cs0.map .dat:=by
   have h':A1 [(99999999999,cs0.map AC.dat)] id=F cs:=hcs;simp only[A1] at h'
   by_cases h1:99999999999=id
   ·subst h1; simp at h'; exact⟨rfl,h'.symm⟩
   ·have e1:((99999999999:N)==id)=false:=by simpa using h1
    simp[e1] at h'
  obtain⟨rfl,rfl⟩:=hc;obtain⟨C,t,h1,h2,h3⟩:=hh;exact⟨p,C,t,hnp,h1,CRels.of_dat (h2.mono hv) h3⟩
def C9(ts:G RV)(rs:G R1)(cs1:G D)(e:Xn)(σ:St):Prop:=
 match e with
 | .exit _=>False
 | .pan _=>False
 | _=>OutVs σ ts rs∧A1 σ.bx 99999999999=F (cs1.map .dat)
section
variable {P : Program}
theorem XH{fn:Func}{A:Ar}{B:N}{w0:Base}{nm:Ab}{σ:St}{a:Act}{w:World}{h':A3}(R:Rel A B w0 nm σ a.tmps w)(hh:∀b C,Ad A nm w b C→h' b C){ts:G RV}{rs:G R1}(hr:DD P fn.results.toList=F ts)(ho:OutVs σ ts rs) :
  ∃(v:Value) (bs:G (L N)),(results fn a.tmps).run P w= .ok v w∧RRel h' w rs v bs:=by
 obtain⟨vs',hrun,hvl,hrel⟩:=Kf (P:=P) (f:=fun | .tmp t=>pure (a.tmps.getD t undef) | .cell c t=>do loadVar t (← asAddr (a.tmps.getD c undef))) R hh (fun _=>rfl) (fun _ _=>rfl) hr ho;refine⟨(if h:vs'.length=1 then vs'[0] else .tuple vs'.toArray),(Dz σ ts rs).map (BN nm),?_,?_⟩
 ·unfold results;rw[← Array.toArray_toList (xs:=fn.results)];simp only[List.mapM_toArray,Sem.run_bind,map_eq_pure_bind];erw [hrun]
  simp only[Result.andThen_ok,Sem.run_pure];simp
 ·split
  ·rename_i h1
   obtain⟨v1,rfl⟩:=List.length_eq_one_iff.1 h1;have hrl:rs.length=1:=by rw[ho.len,← hvl]; exact h1
   obtain⟨r,rfl⟩:=List.length_eq_one_iff.1 hrl;revert hrel
   generalize (Dz σ ts [r]).map (BN nm)=bs
   intro hrel;cases hrel with
   | cons h1 h2=>
    cases h2;simp only[List.append_nil] at h1 ⊢
    exact .one h1
  ·rename_i h1
   refine .many ?_ hrel;rw[ho.len,← hvl];exact h1
theorem aF(hm:P.follows .mixedOrders=T){f:FuncId}{c:Xg}{ts:G RV}{nt:N}{xs:G YV}{cs0 cs1:G D}{rs:G R1}(he:AG P f=F (c.strip,ts,nt))(hl:xs.length≤nt)(h:B4 P c (C9 ts rs cs1) (St.initY xs cs0)):FCy P f xs cs0 cs1 rs:=by
 unfold AG at he
 split at he
 ·rename_i fn hf
  split at he
  ·rename_i C ts' hb hr
   simp only[O] at he
   obtain⟨c',hc,e⟩:=he;cases e;intro w A0 p vs hG hp hA hh hvs;refine calls_of_wp hf hb ?_;have hlv:=hvs.len;refine wp_mono (IY (df:= []) hm c C _ (B9 p) (St.initY xs cs0) _ w hc h (VO fn.ntmps hG hp hA hh hvs) (by simp; omega) rfl) fun e a w' hq=> ?_
   obtain⟨e',nm,σ,he,hq,R,hnt,hdf⟩:=hq;have hnp:nm (2*99999999999)=F p:=(R.pin _ (by unfold AK; omega)).trans (show B9 p (2*99999999999)=F p from if_pos rfl);have hview:∀b C,Ad (fun b fr=>A0 b fr∨(w.heap.size≤b∧fr=(0,0))) nm w' b C→Al (fun b fr=>b≠p∧((w.heap.size≤b∧fr=(0,0))∨A0 b fr)) w' b C:=fun b C ⟨g1,cc,tt,fr,g2,g3⟩=>⟨cc,tt,fr,⟨fun e=>g1 _ (e▸hnp),g2.symm⟩,g3⟩
   have key:OutVs σ ts rs∧A1 σ.bx 99999999999=F (cs1.map .dat)→a.defers= []∧∃v,(results fn a.tmps).run P w'= .ok v w'∧∃(v':Value) (bs:G (L N)),Ending.returned v= .returned v'∧BelowX w.heap.size (.of w (B9 p)) w'∧
     Em (Al (fun b fr=>b≠p∧((w.heap.size≤b∧fr=(0,0))∨A0 b fr)) w') w' p cs1∧RRel (Al (fun b fr=>b≠p∧((w.heap.size≤b∧fr=(0,0))∨A0 b fr)) w') w' rs v' bs:=by
    rintro⟨ho,hbx⟩
    obtain⟨v,bs,hrun,hrel⟩:=XH R hview hr ho;obtain⟨b,C,t,h1,h2,h3⟩:=R.bxs _ _ hbx;have e:b=p:=U (h1.symm.trans hnp);subst e;obtain⟨k1,k2⟩:=CRels.reps h3;exact⟨hdf,v,hrun,v,bs,rfl,R.below,⟨C,t,h2,k1.mono hview,k2⟩,hrel⟩
   cases e' with
   | normal=>obtain rfl:e= .normal:=he; exact key hq
   | ret=>obtain rfl:e= .ret:=he; exact key hq
   | exit id=>exact hq.elim
   | pan d=>exact hq.elim
  ·cases he
 ·cases he
theorem Ci(hm:P.follows .mixedOrders=T){f nt:N}{c:Xg}{ts:G RV}{xs:G YV}{cs0 cs1:G D}{rs:G R1}{σ:St}(he:AG P f=F (c.strip,ts,nt))(hl:Nat.ble xs.length nt=T)(hσ:St.initY xs cs0=σ)
  (h:go P [.code c] (C9 ts rs cs1) .normal (F σ)):FCy P f xs cs0 cs1 rs:=aF hm he (Nat.le_of_ble_eq_true hl) (hσ▸JS h)
theorem nf{k:G Fr}{Q:Xn→St→Prop}{σ:St}{its:G AItem}{d f:N}{args:G Opd}{xs:G YV}{cs0 cs1:G D}{rs:G R1}(hf:FCy P f xs cs0 cs1 rs)(id:N)(hv:F3 rs=T)(hx:CH id (args.map σ.val)=F xs)(hb:A1 σ.bx id=F (cs0.map .dat))
  (h:go P (.ops its::k) Q .normal (F (({σ with bx:=put σ.bx id (cs1.map .dat)}:St).set d (By 0 rs)))):go P (.ops ((E,.call d f args)::its)::k) Q .normal (F σ):=Ml (hf.callC hv hx hb) h
end
def FCn(P:Program)(f:FuncId)(ds:G DV)(cs1:G D):Prop:=
 ∀(w:World) (A:B5) (vs:G Value),GoodW w→DVRels (Al A w) ds vs→Calls P f vs.toArray w fun e w'=>
  ∃p,e= .returned (.pointer (F ⟨p,0,E⟩))∧RowKit.Below w.heap.size w w'∧w.heap.size≤p∧p<w'.heap.size∧Em (Al (fun b fr=>b≠p∧((w.heap.size≤b∧fr=(0,0))∨A b fr)) w') w' p cs1
theorem YU{A:Ar}{nm:Ab}{σ:St}{w:World}:∀{avs:G AV} {vs:G Value} {ds:G DV},VsRel (cx A nm σ w) avs vs→CH 0 avs=F (ds.map .d)→DVRels (Ad A nm w) ds vs
 | [],vs,ds,H,h=>by
  obtain rfl:vs= []:=List.length_eq_zero_iff.1 H.1.symm;cases ds with
  | nil=>exact .nil
  | cons=>simp[CH] at h
 | a::avs,vs,ds,H,h=>by
  unfold CH at h;split at h
  ·rename_i x xs h1 h2
   cases ds with
   | nil=>simp at h
   | cons d ds=>
    simp at h;obtain⟨rfl,rfl⟩:=h;cases vs with
    | nil=>have:=H.1; simp at this
    | cons v vs=>
     refine .cons ?_ (YU ⟨by have:=H.1; simpa using this,fun i u v hu hv=>H.2 (i+1) u v (by simpa using hu) (by simpa using hv)⟩ h2);have hv0:=H.2 0 a v rfl rfl;unfold PE at h1
     split at h1
     ·rename_i k o
      cases hb:((k==0)&&(o==0))<;>simp only[hb,cond_true,cond_false] at h1<;>cases h1
     ·simp only[O] at h1
      obtain⟨d',h3,h4⟩:=h1;cases h4;exact N4 (X:=cx A nm σ w) hv0 h3
  ·cases h
section
variable {P : Program}
theorem FCn.callC{f:FuncId}{ds:G DV}{cs1:G D}(H:FCn P f ds cs1){σ:St}{avs:G AV}{d:N}(hx:CH 0 avs=F (ds.map .d))(hf:σ.fresh d=T):DX P f avs σ {σ with bx:=put σ.bx d (cs1.map .dat)} (.v (.sc (.pb d 0))):=by
 intro A B w0 w nm tmps vs R hvs;have hds:DVRels (Ad A nm w) ds vs:=YU hvs hx;refine(H w (fun b fr=>(∀i,nm i≠F b)∧A b fr) vs (R.good w R.below) (by rw[Ek]; exact hds)).mono fun e w' h=> ?_
 obtain⟨p,rfl,hb,hp1,hp2,hh⟩:=h
 have R1:=R.grow hf hb (fun n=>if n=2*d then F p else E) σ.rows (fun n b _ h=>by
  have h:(if n=2*d then F p else E)=F b:=h;split at h
  ·cases h; exact⟨hp1,hp2⟩
  ·cases h) (fun n m b _ _ h1 h2=>by
  have h1:(if n=2*d then F p else E)=F b:=h1;have h2:(if m=2*d then F p else E)=F b:=h2;split at h1
  ·split at h2
   ·omega
   ·cases h2
  ·cases h1) (fun _ _=>rfl)
 have hnm:AJ d (fun n=>if n=2*d then F p else E) nm (2*d)=F p:=by
  unfold AJ;rw[if_pos (.inl rfl)];exact if_pos rfl
 refine⟨_,AJ d (fun n=>if n=2*d then F p else E) nm,rfl,?_,.v (.sc (.pb hnm))⟩;refine⟨R1.below,R1.size,R1.all,R1.good,R1.names,R1.inj,R1.pin,fun k=>(R1.env k).to fun c v _ h=>h.same rfl (fun _=>rfl) (fun _ _ h=>h) rfl,fun k cs hcs=> ?_⟩;by_cases hk:k=d
 ·subst hk;have e:cs=cs1.map .dat:=U ((show A1 (put σ.bx k (cs1.map AC.dat)) k=F cs from hcs).symm.trans (Bg σ.bx k (cs1.map AC.dat)));subst e;obtain⟨C,t,h1,h2,h3⟩:=hh;refine⟨p,C,t,hnm,h1,CRels.of_dat (h2.mono fun b C hb2=> ?_) h3⟩;obtain⟨cc,tt,fr,⟨g1,g2⟩,g3⟩:=hb2;refine⟨fun i e=> ?_,cc,tt,fr,?_,g3⟩
  ·unfold AJ at e
   split at e
   ·have e:(if _=2*_ then F p else E)=F b:=e;split at e
    ·cases e; exact g1 rfl
    ·cases e
   ·rcases g2 with g2|g2
    ·have:=(R.names i b e).2; omega
    ·exact g2.1 i e
  ·rcases g2 with ⟨g2,rfl⟩|g2
   ·exact R.all.all b (.inl (V R.size g2))
   ·exact g2.2
 ·have hcs':A1 (put σ.bx d (cs1.map AC.dat)) k=F cs:=hcs;rw[Bt _ _ hk] at hcs'
  obtain⟨b,C,t,h1,h2,h3⟩:=R1.bxs k cs hcs';exact⟨b,C,t,h1,h2,h3.to fun c v _ h=>h.same rfl (fun _=>rfl) (fun _ _ h=>h) rfl⟩
def Ns(ts:G RV)(cs1:G D)(e:Xn)(σ:St):Prop:=
 match e with
 | .exit _=>False
 | .pan _=>False
 | _=>∃s k,ts= [.t s]∧k / 99999999999=0∧σ.get s= .v (.sc (.pb k 0))∧A1 σ.bx k=F (cs1.map .dat)
theorem ZY(hm:P.follows .mixedOrders=T){f:FuncId}{c:Xg}{ts:G RV}{nt:N}{ds:G DV}{cs1:G D}(he:AG P f=F (c.strip,ts,nt))(hl:ds.length≤nt)(h:B4 P c (Ns ts cs1) (St.init ds)):FCn P f ds cs1:=by
 unfold AG at he
 split at he
 ·rename_i fn hf
  split at he
  ·rename_i C ts' hb hr
   simp only[O] at he
   obtain⟨c',hc,e⟩:=he;cases e;intro w A0 vs hG hvs;refine calls_of_wp hf hb ?_;have hlv:=hvs.len;refine wp_mono (IY (df:= []) hm c C _ (fun _=>E) (St.init ds) _ w hc h (VP fn.ntmps hG hvs) (by simp; omega) rfl) fun e a w' hq=> ?_
   obtain⟨e',nm,σ,he,hq,R,hnt,hdf⟩:=hq
   have key:(∃s k,ts= [.t s]∧k / 99999999999=0∧σ.get s= .v (.sc (.pb k 0))∧A1 σ.bx k=F (cs1.map .dat))→a.defers= []∧∃v,(results fn a.tmps).run P w'= .ok v w'∧∃p,Ending.returned v= .returned (.pointer (F ⟨p,0,E⟩))∧RowKit.Below w.heap.size w w'∧w.heap.size≤p∧p<w'.heap.size∧
     Em (Al (fun b fr=>b≠p∧((w.heap.size≤b∧fr=(0,0))∨A0 b fr)) w') w' p cs1:=by
    rintro⟨s,k,rfl,hk,hs,hbx⟩
    obtain⟨b,C,t,h1,h2,h3⟩:=R.bxs _ _ hbx;have hb1:nm (2*k)=F b:=h1;have hx:=R.env s;rw[hs] at hx
    have hpv:a.tmps.getD s undef= .pointer (F ⟨b,0,E⟩):=by
     have hc:=hx.inv_sc;revert hc
     generalize a.tmps.getD s undef=z
     intro hc;cases hc with | pb hb=>
     have hb':nm (2*k)=F _:=hb;have e:=U (hb'.symm.trans hb1);subst e;rfl
    obtain⟨k1,k2⟩:=CRels.reps h3
    have hlist:fn.results.toList= [.tmp s]:=by
     revert hr
     generalize fn.results.toList=l
     intro hr;cases l with
     | nil=>cases hr
     | cons x l=>cases x with
      | tmp t'=>
       simp only[DD,O] at hr
       obtain⟨l',h5,h6⟩:=hr;cases h6;cases l with
       | nil=>rfl
       | cons y l=>
        cases y with
        | tmp t2=>simp[DD] at h5
        | cell a2 t2=>
         simp only[DD] at h5
         split at h5<;>cases h5
      | cell a1 t1=>
       simp only[DD] at hr
       split at hr<;>cases hr
    have hres:fn.results= #[.tmp s]:=by apply Array.ext'; simpa using hlist
    have hnames:=R.names _ _ hb1;have hge:w.heap.size≤b:=hnames.1.resolve_right (by intro hmm; obtain⟨i,_,hi⟩:=Base.of_M hmm; cases hi);refine⟨hdf,a.tmps.getD s undef,by simp[results,hres],b,by rw[hpv],R.below.plain (fun _=>rfl),hge,hnames.2,⟨C,t,h2,k1.mono fun b2 C2 ⟨g1,cc,tt,fr,g2,g3⟩=>⟨cc,tt,fr,⟨fun e=>g1 _ (e▸hb1),g2.symm⟩,g3⟩,k2⟩⟩
   cases e' with
   | normal=>obtain rfl:e= .normal:=he; exact key hq
   | ret=>obtain rfl:e= .ret:=he; exact key hq
   | exit id=>exact hq.elim
   | pan d=>exact hq.elim
  ·cases he
 ·cases he
theorem ZZ(hm:P.follows .mixedOrders=T){f nt:N}{c:Xg}{ts:G RV}{ds:G DV}{cs1:G D}{σ:St}(he:AG P f=F (c.strip,ts,nt))(hl:Nat.ble ds.length nt=T)(hσ:St.init ds=σ)
  (h:go P [.code c] (Ns ts cs1) .normal (F σ)):FCn P f ds cs1:=ZY hm he (Nat.le_of_ble_eq_true hl) (hσ▸JS h)
theorem nb{k:G Fr}{Q:Xn→St→Prop}{σ:St}{its:G AItem}{d f:N}{args:G Opd}{ds:G DV}{cs1:G D}(hf:FCn P f ds cs1)(hx:CH 0 (args.map σ.val)=F (ds.map .d))(hfr:σ.fresh d=T)
  (h:go P (.ops its::k) Q .normal (F (({σ with bx:=put σ.bx d (cs1.map .dat)}:St).set d (.v (.sc (.pb d 0)))))):go P (.ops ((E,.call d f args)::its)::k) Q .normal (F σ):=Ml (hf.callC hx hfr) h
end
theorem A7{b:Bool}{v:AV}{f:AC→AC}:(bif b then v else .undef).map f=bif b then v.map f else .undef:=by cases b<;>rfl
theorem BL{b:Bool}{v:AV}{f:AC→Bool}:(bif b then v else AV.undef).cells.all f=(!b || v.cells.all f):=by cases b<;>rfl
end Go.Vi
