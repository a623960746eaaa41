/-
The value level. No condition.
-/
import Derived.Test.YtpigjggbnclpbaaGreatOVi33
namespace Go.Vi
set_option linter.all false
open Option.some renaming inj → L
open Nat renaming le_trans → N
open List renaming all_cons → O
open Option renaming some → T
open _root_ renaming List → F, Option → E, Nat → G
inductive YV where
 | d (x:DV)
 | p
inductive YVRel (h:A6) (p:G):YV→Value→Prop
 | d {x v}:DVRel h x v→YVRel h p (.d x) v
 | p:YVRel h p .p (.pointer (T ⟨p,0,none⟩))
inductive YVRels (h:A6) (p:G):F YV→F Value→Prop
 | nil:YVRels h p [] []
 | cons {x v xs vs}:YVRel h p x v→YVRels h p xs vs→YVRels h p (x::xs) (v::vs)
theorem YVRels.len{h:A6}{p:G}:∀{xs vs},YVRels h p xs vs→xs.length=vs.length
 | _,_,.nil=>rfl
 | _,_,.cons _ b=>by simp[b.len]
theorem YVRels.get{h:A6}{p:G}:∀{xs:F YV} {vs:F Value} (i:G) {x:YV} {v:Value},YVRels h p xs vs→xs[i]?=T x→vs[i]?=T v→YVRel h p x v
 | _,_,_,_,_,.nil,hd,_=>by simp at hd
 | _,_,0,_,_,.cons a _,hd,hv=>by simp at hd hv; subst hd hv; exact a
 | _,_,i+1,_,_,.cons _ b,hd,hv=>YVRels.get i b (by simpa using hd) (by simpa using hv)
def BT(p:G):Ad:=fun i=>if i=199999999998 then T p else none
theorem Fv{p i b:G}(h:BT p i=T b):i=199999999998∧p=b:=by
 unfold BT at h;split at h
 ·exact⟨by assumption,L h⟩
 ·cases h
def Ht(h:A6)(w:World)(p:G)(cs:F D):Prop:=∃C t,w.heap[p]?=T (.cells C t (0,0))∧Reps h cs C.toList∧cs.length=C.toList.length
def FCy(P:Program)(f:FuncId)(xs:F YV)(cs0 cs1:F D)(rs:F R1):Prop:=
 ∀(w:World) (A:AY) (p:G) (vs:F Value),(∀w2,BelowX w.heap.size (.of w (BT p)) w2→GoodW w2)→p<w.heap.size→(∀fr,¬A p fr)→Ht (Af A w) w p cs0→YVRels (Af A w) p xs vs→Calls P f vs.toArray w fun e w'=>
  ∃(v:Value) (bs:F (E G)),e= .returned v∧BelowX w.heap.size (.of w (BT p)) w'∧Ht (Af (fun b fr=>b≠p∧((w.heap.size≤b∧fr=(0,0))∨A b fr)) w') w' p cs1∧RRel (Af (fun b fr=>b≠p∧((w.heap.size≤b∧fr=(0,0))∨A b fr)) w') w' rs v bs
def RC.isV:RC→Bool
 | .v _=>true
 | .o .. =>false
def FI(rs:F R1):Bool:=rs.all fun r=>r.cells.all RC.isV
section
variable {X : Cx} {g : G}
theorem Tv:∀{cs:F RC} {vs:F Value} {bs:F (E G)} {j:G},cs.all RC.isV=true→RCRels X.h X.w cs vs bs→CRels X (Da g j cs) vs
 | _,_,_,_,_,.nil=> .nil
 | _,_,_,j,h,.cons a b=>by
  simp only[O,Bool.and_eq_true] at h;refine .cons ?_ (Tv h.2 b);cases a with
  | v hd=>exact .dat hd
  | nil=>cases h.1
  | o=>cases h.1
theorem Tp{r:R1}{v:Value}{bs:F (E G)}{j:G}(h:r.cells.all RC.isV=true)(H:R1Rel X.h X.w r v bs):V1Rel X (r.inst g j) v:=by
 cases H with
 | sc hc=>
  refine .sc ?_;cases hc with
  | v hd=>exact .dat hd
  | nil=>simp[R1.cells,RC.isV] at h
  | o=>simp[R1.cells,RC.isV] at h
 | ag hc=>exact .ag (Tv h hc)
theorem Ty:∀{rs:F R1} {vs:F Value} {bs:F (E G)} {j:G},FI rs=true→R1Rels X.h X.w rs vs bs→V1Rels X (CE g j rs) vs
 | _,_,_,_,_,.nil=> .nil
 | _,_,_,j,h,.cons a b=>by
  simp only[FI,O,Bool.and_eq_true] at h;exact .cons (Tp h.1 a) (Ty h.2 b)
theorem Tr{rs:F R1}{v:Value}{bs:F (E G)}(h:FI rs=true)(H:RRel X.h X.w rs v bs):VRel X (Bt g rs) v:=by
 cases H with
 | one a=>
  simp only[FI,O,List.all_nil,Bool.and_true] at h;exact .v (Tp h a)
 | @many rs vs bs hl a=>
  have:Bt g rs= .tup (CE g 0 rs):=by
   cases rs with
   | nil=>rfl
   | cons x r=>cases r with
    | nil=>exact absurd rfl hl
    | cons=>rfl
  rw[this];exact .tup (Ty h a)
end
def NR(id:G):AV→E YV
 | .v (.sc (.pb k o))=>bif (k==id)&&(o==0) then T .p else none
 | av=>(Hm av).map .d
def D1(id:G):F AV→E (F YV)
 | []=>T []
 | a::r=>match NR id a,D1 id r with
  | some x,T xs=>T (x::xs)
  | _,_=>none
theorem CRels.reps{X:Cx}:∀{ds:F D} {vs:F Value},CRels X (ds.map .dat) vs→Reps X.h ds vs∧ds.length=vs.length
 | [],_,.nil=>⟨.nil,rfl⟩
 | d::ds,_,.cons a b=>by
  obtain⟨h1,h2⟩:=CRels.reps b;cases a with | dat h=>exact⟨.cons h h1,by simp[h2]⟩
section
variable {P : Program} {A : Ar} {B : G} {w0 : Base} {w : World} {nm : Ad} {σ : St} {tmps : Array Value}
theorem pp{id p:G}{av:AV}{v:Value}{x:YV}(hp:nm (2*id)=T p)(H:VRel (cx A nm σ w) av v)(h:NR id av=T x):YVRel (Ab A nm w) p x v:=by
 unfold NR at h;split at h
 ·rename_i k o
  by_cases hk:k=id∧o=0
  ·obtain⟨rfl,rfl⟩:=hk;simp at h;subst h;have hc:=H.inv_sc;cases hc with | pb hb=>
   have hb':nm (2*k)=T _:=hb;have e:=L (hb'.symm.trans hp);subst e;exact .p
  ·exfalso
   have:((k==id)&&(o==0))=false:=by
    rw[Bool.and_eq_false_iff];by_cases h1:k=id
    ·right; simpa using fun h2=>hk ⟨h1,h2⟩
    ·left; simpa using h1
   rw[this] at h;cases h
 ·simp only[Option.map_eq_some_iff] at h;obtain⟨d,h1,rfl⟩:=h;exact .d (IW (X:=cx A nm σ w) H h1)
theorem NS{id p:G}(hp:nm (2*id)=T p):∀{avs:F AV} {vs:F Value} {xs:F YV},VsRel (cx A nm σ w) avs vs→D1 id avs=T xs→YVRels (Ab A nm w) p xs vs
 | [],vs,xs,H,h=>by
  simp[D1] at h;subst h;obtain rfl:vs= []:=List.length_eq_zero_iff.1 H.1.symm;exact .nil
 | a::avs,vs,xs,H,h=>by
  unfold D1 at h;split at h
  ·rename_i x xs' h1 h2
   cases h;cases vs with
   | nil=>have:=H.1; simp at this
   | cons v vs=>
    exact .cons (pp hp (H.2 0 a v rfl rfl) h1) (NS hp ⟨by have:=H.1; simpa using this,fun i u v hu hv=>H.2 (i+1) u v (by simpa using hu) (by simpa using hv)⟩ h2)
  ·cases h
theorem R8(R:Rel A B w0 nm σ tmps w){id p:G}{cs1:F D}{w':World}(hp:nm (2*id)=T p)(hb:BelowX w.heap.size (.of w (BT p)) w')(hh:Ht (Af (fun b fr=>b≠p∧((w.heap.size≤b∧fr=(0,0))∨((∀i,nm i≠T b)∧A b fr))) w') w' p cs1) :
  Rel A B w0 nm {σ with bx:=put σ.bx id (cs1.map .dat)} tmps w':=by
 have hM:∀b,Base.M (.of w (BT p)) b→b=p:=fun b hmm=>by
  obtain⟨i,_,e⟩:=Base.of_M hmm;exact(Fv e).2.symm
 have hbel:BelowX B w0 w':=R.below.after hb R.size R.there fun i b e=>by
  obtain⟨_,rfl⟩:=Fv e;exact(R.names _ _ hp).1
 have hsame:∀b,b<w.heap.size→b≠p→w'.heap[b]?=w.heap[b]?:=fun b hlt h=>hb.block b hlt (fun hm=>h (hM b hm)) fun hv=>hv.elim
 have hview:∀b C,Ab A nm w b C→Ab A nm w' b C:=Cf fun b hlt hn=>⟨hn,hsame b hlt fun e=>hn _ (e▸hp)⟩
 have hcell:∀(σ':St) c v,σ'.rows=σ.rows→CRel (cx A nm σ w) c v→CRel (cx A nm σ' w') c v:=fun σ' c v hrs H=>
  H.move hview (fun k hk=> .inr ⟨by show A1 σ'.rows k=A1 σ.rows k; rw[hrs],rfl,fun b hbn=>hsame b (R.names _ b hbn).2 fun e=>by
   subst e;have:=R.inj _ _ _ hbn hp;omega⟩) (fun k _ b hb2=>hb2)
 refine⟨hbel,N R.size hb.size,R.all,R.good,fun i b hi=> ?_,R.inj,R.pin,fun k=>(R.env k).to fun c v _=>hcell _ c v rfl,fun k cs hcs=> ?_⟩
 ·obtain⟨h1,h2⟩:=R.names i b hi;exact⟨h1,Nat.lt_of_lt_of_le h2 hb.size⟩
 ·by_cases hk:k=id
  ·subst hk
   have e:cs=cs1.map .dat:=by
    have:=B9 σ.bx k (cs1.map AC.dat);exact L (hcs.symm.trans this)
   subst e;obtain⟨C,t,h1,h2,h3⟩:=hh;refine⟨p,C,t,hp,h1,CRels.of_dat (h2.mono fun b C hb2=> ?_) h3⟩;obtain⟨cc,tt,fr,⟨g1,g2⟩,g3⟩:=hb2;rcases g2 with ⟨g2,rfl⟩|g2
   ·exact⟨fun i e=>by have:=(R.names i b e).2; omega,cc,tt,_,R.all.all b (.inl (N R.size g2)),g3⟩
   ·exact⟨g2.1,cc,tt,fr,g2.2,g3⟩
  ·have hcs':A1 (put σ.bx id (cs1.map .dat)) k=T cs:=hcs;rw[Bb _ _ hk] at hcs'
   obtain⟨b,C,t,h1,h2,h3⟩:=R.bxs k cs hcs'
   have hne:b≠p:=fun e=>by
    subst e;have:=R.inj _ _ _ h1 hp;omega
   exact⟨b,C,t,h1,(hsame b (R.names _ _ h1).2 hne).trans h2,h3.to fun c v _=>hcell _ c v rfl⟩
theorem FCy.callC{f:FuncId}{xs:F YV}{cs0 cs1:F D}{rs:F R1}(H:FCy P f xs cs0 cs1 rs)(hv:FI rs=true){id:G}{avs:F AV}(hx:D1 id avs=T xs)(hb:A1 σ.bx id=T (cs0.map .dat)) :
  CallC P f avs σ {σ with bx:=put σ.bx id (cs1.map .dat)} (Bt 0 rs):=by
 intro A B w0 w nm tmps vs R hvs;obtain⟨p,C,t,h1,h2,h3⟩:=R.bxs id _ hb;have h1':nm (2*id)=T p:=h1;obtain⟨k1,k2⟩:=CRels.reps h3;refine(H w (fun b fr=>(∀i,nm i≠T b)∧A b fr) p vs (fun w2 hb2=>R.good w2 (R.below.after hb2 R.size R.there fun i b e=> ?_)) (R.names _ _ h1').2 (fun _ h=>h.1 _ h1') ⟨C,t,h2,by rw[D2]; exact k1,k2⟩ (by rw[D2]; exact NS h1' hvs hx)).mono fun e w' h=> ?_
 ·obtain⟨_,rfl⟩:=Fv e;exact(R.names _ _ h1').1
 ·obtain⟨v,bs,rfl,g1,g2,g3⟩:=h;have R':=R8 R h1' g1 g2;refine⟨v,nm,rfl,R',Tr hv (g3.conv fun c _=> .inl fun b C hb2=> ?_)⟩;obtain⟨cc,tt,fr,⟨q1,q2⟩,q3⟩:=hb2;rcases q2 with ⟨q2,rfl⟩|q2
  ·exact⟨fun i e=>by have:=(R.names i b e).2; omega,cc,tt,_,R.all.all b (.inl (N R.size q2)),q3⟩
  ·exact⟨q2.1,cc,tt,fr,q2.2,q3⟩
end
def YV.av:YV→AV
 | .d x=>x.av
 | .p=> .v (.sc (.pb 99999999999 0))
def IA:G→F YV→F (G × AV)
 | _,[]=> []
 | k,x::xs=>(k,x.av)::IA (k+1) xs
theorem RD:∀(ds:F YV) (k i:G),A1 (IA k ds) i=if k≤i then(ds[i - k]?).map YV.av else none
 | [],k,i=>by simp[IA,A1]
 | d::ds,k,i=>by
  simp only[IA,A1];by_cases hk:k=i
  ·subst hk; simp
  ·have h':=BK hk;rw[h',cond_false,RD ds (k+1) i];by_cases h1:k≤i
   ·rw[if_pos (by omega),if_pos h1,show i - k=(i - (k+1))+1 by omega]; simp
   ·rw[if_neg (by omega),if_neg h1]
section
variable {P : Program}
theorem Uq{fn:Func}{A:Ar}{B:G}{w0:Base}{nm:Ad}{σ:St}{a:Act}{w:World}{h':A6}(R:Rel A B w0 nm σ a.tmps w)(hh:∀b C,Ab A nm w b C→h' b C){ts:F RV}{rs:F R1}(hr:CW P fn.results.toList=T ts)(ho:OutVs σ ts rs) :
  ∃(v:Value) (bs:F (E G)),(results fn a.tmps).run P w= .ok v w∧RRel h' w rs v bs:=by
 obtain⟨vs',hrun,hvl,hrel⟩:=Fx (P:=P) (f:=fun | .tmp t=>pure (a.tmps.getD t undef) | .cell c t=>do loadVar t (← asAddr (a.tmps.getD c undef))) R hh (fun _=>rfl) (fun _ _=>rfl) hr ho;refine⟨(if h:vs'.length=1 then vs'[0] else .tuple vs'.toArray),(Cl σ ts rs).map (AZ nm),?_,?_⟩
 ·unfold results;rw[← Array.toArray_toList (xs:=fn.results)];simp only[List.mapM_toArray,Sem.run_bind,map_eq_pure_bind];erw [hrun]
  simp only[Result.andThen_ok,Sem.run_pure];simp
 ·split
  ·rename_i h1
   obtain⟨v1,rfl⟩:=List.length_eq_one_iff.1 h1;have hrl:rs.length=1:=by rw[ho.len,← hvl]; exact h1
   obtain⟨r,rfl⟩:=List.length_eq_one_iff.1 hrl;revert hrel
   generalize (Cl σ ts [r]).map (AZ nm)=bs
   intro hrel;cases hrel with
   | cons h1 h2=>
    cases h2;simp only[List.append_nil] at h1 ⊢
    exact .one h1
  ·rename_i h1
   refine .many ?_ hrel;rw[ho.len,← hvl];exact h1
end
def FCn(P:Program)(f:FuncId)(ds:F DV)(cs1:F D):Prop:=
 ∀(w:World) (A:AY) (vs:F Value),GoodW w→DVRels (Af A w) ds vs→Calls P f vs.toArray w fun e w'=>
  ∃p,e= .returned (.pointer (T ⟨p,0,none⟩))∧RowKit.Below w.heap.size w w'∧w.heap.size≤p∧p<w'.heap.size∧Ht (Af (fun b fr=>b≠p∧((w.heap.size≤b∧fr=(0,0))∨A b fr)) w') w' p cs1
theorem Vv{A:Ar}{nm:Ad}{σ:St}{w:World}:∀{avs:F AV} {vs:F Value} {ds:F DV},VsRel (cx A nm σ w) avs vs→D1 0 avs=T (ds.map .d)→DVRels (Ab A nm w) ds vs
 | [],vs,ds,H,h=>by
  obtain rfl:vs= []:=List.length_eq_zero_iff.1 H.1.symm;cases ds with
  | nil=>exact .nil
  | cons=>simp[D1] at h
 | a::avs,vs,ds,H,h=>by
  unfold D1 at h;split at h
  ·rename_i x xs h1 h2
   cases ds with
   | nil=>simp at h
   | cons d ds=>
    simp at h;obtain⟨rfl,rfl⟩:=h;cases vs with
    | nil=>have:=H.1; simp at this
    | cons v vs=>
     refine .cons ?_ (Vv ⟨by have:=H.1; simpa using this,fun i u v hu hv=>H.2 (i+1) u v (by simpa using hu) (by simpa using hv)⟩ h2);have hv0:=H.2 0 a v rfl rfl;unfold NR at h1
     split at h1
     ·rename_i k o
      cases hb:((k==0)&&(o==0))<;>simp only[hb,cond_true,cond_false] at h1<;>cases h1
     ·simp only[Option.map_eq_some_iff] at h1
      obtain⟨d',h3,h4⟩:=h1;cases h4;exact IW (X:=cx A nm σ w) hv0 h3
  ·cases h
section
variable {P : Program}
theorem FCn.callC{f:FuncId}{ds:F DV}{cs1:F D}(H:FCn P f ds cs1){σ:St}{avs:F AV}{d:G}(hx:D1 0 avs=T (ds.map .d))(hf:σ.fresh d=true):CallC P f avs σ {σ with bx:=put σ.bx d (cs1.map .dat)} (.v (.sc (.pb d 0))):=by
 intro A B w0 w nm tmps vs R hvs;have hds:DVRels (Ab A nm w) ds vs:=Vv hvs hx;refine(H w (fun b fr=>(∀i,nm i≠T b)∧A b fr) vs (R.good w R.below) (by rw[D2]; exact hds)).mono fun e w' h=> ?_
 obtain⟨p,rfl,hb,hp1,hp2,hh⟩:=h
 have R1:=R.grow hf hb (fun n=>if n=2*d then T p else none) σ.rows (fun n b _ h=>by
  have h:(if n=2*d then T p else none)=T b:=h;split at h
  ·cases h; exact⟨hp1,hp2⟩
  ·cases h) (fun n m b _ _ h1 h2=>by
  have h1:(if n=2*d then T p else none)=T b:=h1;have h2:(if m=2*d then T p else none)=T b:=h2;split at h1
  ·split at h2
   ·omega
   ·cases h2
  ·cases h1) (fun _ _=>rfl)
 have hnm:AF d (fun n=>if n=2*d then T p else none) nm (2*d)=T p:=by
  unfold AF;rw[if_pos (.inl rfl)];exact if_pos rfl
 refine⟨_,AF d (fun n=>if n=2*d then T p else none) nm,rfl,?_,.v (.sc (.pb hnm))⟩;refine⟨R1.below,R1.size,R1.all,R1.good,R1.names,R1.inj,R1.pin,fun k=>(R1.env k).to fun c v _ h=>h.same rfl (fun _=>rfl) (fun _ _ h=>h) rfl,fun k cs hcs=> ?_⟩;by_cases hk:k=d
 ·subst hk;have e:cs=cs1.map .dat:=L ((show A1 (put σ.bx k (cs1.map AC.dat)) k=T cs from hcs).symm.trans (B9 σ.bx k (cs1.map AC.dat)));subst e;obtain⟨C,t,h1,h2,h3⟩:=hh;refine⟨p,C,t,hnm,h1,CRels.of_dat (h2.mono fun b C hb2=> ?_) h3⟩;obtain⟨cc,tt,fr,⟨g1,g2⟩,g3⟩:=hb2;refine⟨fun i e=> ?_,cc,tt,fr,?_,g3⟩
  ·unfold AF at e
   split at e
   ·have e:(if _=2*_ then T p else none)=T b:=e;split at e
    ·cases e; exact g1 rfl
    ·cases e
   ·rcases g2 with g2|g2
    ·have:=(R.names i b e).2; omega
    ·exact g2.1 i e
  ·rcases g2 with ⟨g2,rfl⟩|g2
   ·exact R.all.all b (.inl (N R.size g2))
   ·exact g2.2
 ·have hcs':A1 (put σ.bx d (cs1.map AC.dat)) k=T cs:=hcs;rw[Bb _ _ hk] at hcs'
  obtain⟨b,C,t,h1,h2,h3⟩:=R1.bxs k cs hcs';exact⟨b,C,t,h1,h2,h3.to fun c v _ h=>h.same rfl (fun _=>rfl) (fun _ _ h=>h) rfl⟩
end
theorem A3{b:Bool}{v:AV}{f:AC→AC}:(bif b then v else .undef).map f=bif b then v.map f else .undef:=by cases b<;>rfl
theorem Ak{b:Bool}{v:AV}{f:AC→Bool}:(bif b then v else AV.undef).cells.all f=(!b || v.cells.all f):=by cases b<;>rfl
end Go.Vi
