/-
The value level. No condition.
-/
import Derived.Test.YtpigjggbnclpbaaGreatOVi13
namespace Go.Vi
set_option linter.all false
open Option renaming map_eq_some_iff → N, some → T, none → F
open _root_ renaming List → E, Option → G, Nat → L
def Af(A:AY)(w:World):A6:=fun b C=>∃c t fr,A b fr∧w.heap[b]?=T (.cells c t fr)∧c.toList=C
inductive DVRel (h:A6):DV→Value→Prop
 | sc {d v}:Rep h d v→DVRel h (.sc d) v
 | ag {ds vs}:Reps h ds vs→ds.length=vs.length→DVRel h (.ag ds) (.agg vs.toArray)
inductive DVRels (h:A6):E DV→E Value→Prop
 | nil:DVRels h [] []
 | cons {d v ds vs}:DVRel h d v→DVRels h ds vs→DVRels h (d::ds) (v::vs)
inductive RCRel (h:A6) (w:World):RC→Value→G L→Prop
 | v {d v}:Rep h d v→RCRel h w (.v d) v F
 | nil {sz a}:RCRel h w (.o sz []) (.slice a 0 0) F
 | o {sz es b cap len}:OwnB h w b sz cap es→len=es.length→RCRel h w (.o sz es) (.slice (T ⟨b,0,F⟩) len cap) (T b)
inductive RCRels (h:A6) (w:World):E RC→E Value→E (G L)→Prop
 | nil:RCRels h w [] [] []
 | cons {c v b cs vs bs}:RCRel h w c v b→RCRels h w cs vs bs→RCRels h w (c::cs) (v::vs) (b::bs)
inductive R1Rel (h:A6) (w:World):R1→Value→E (G L)→Prop
 | sc {c v b}:RCRel h w c v b→R1Rel h w (.sc c) v [b]
 | ag {cs vs bs}:RCRels h w cs vs bs→R1Rel h w (.ag cs) (.agg vs.toArray) bs
inductive R1Rels (h:A6) (w:World):E R1→E Value→E (G L)→Prop
 | nil:R1Rels h w [] [] []
 | cons {c v b cs vs bs}:R1Rel h w c v b→R1Rels h w cs vs bs→R1Rels h w (c::cs) (v::vs) (b++bs)
inductive RRel (h:A6) (w:World):E R1→Value→E (G L)→Prop
 | one {r v bs}:R1Rel h w r v bs→RRel h w [r] v bs
 | many {rs vs bs}:rs.length≠1→R1Rels h w rs vs bs→RRel h w rs (.tuple vs.toArray) bs
def FC(P:Program)(f:FuncId)(ds:E DV)(rs:E R1):Prop:=
 ∀(w:World) (A:AY) (vs:E Value),GoodW w→DVRels (Af A w) ds vs→Calls P f vs.toArray w fun e w'=>
  ∃(v:Value) (bs:E (G L)),e= .returned v∧RowKit.Below w.heap.size w w'∧RRel (Af (fun b fr=>T b∉bs∧((w.heap.size≤b∧fr=(0,0))∨A b fr)) w') w' rs v bs∧
   (∀b,T b∈bs→w.heap.size≤b∧b<w'.heap.size)∧(∀(i j b:L),bs[i]?=T (T b)→bs[j]?=T (T b)→i=j)
def FCf(P:Program)(f:FuncId)(ds:E DV)(rs:E R1):Prop:=
 ∀(w:World) (A:AY) (vs:E Value),GoodW w→DVRels (Af A w) ds vs→Calls P f vs.toArray w fun e w'=>
  ∃(v:Value) (bs:E (G L)),e= .returned v∧RowKit.Below w.heap.size w w'∧RRel (Af (fun b fr=>T b∉bs∧((w.heap.size≤b∧fr=(0,0))∨False)) w') w' rs v bs∧
   (∀b,T b∈bs→w.heap.size≤b∧b<w'.heap.size)∧(∀(i j b:L),bs[i]?=T (T b)→bs[j]?=T (T b)→i=j)
def J5(P:Program)(f:FuncId)(ds:E DV)(pd:D):Prop:=
 ∀(w:World) (A:AY) (vs:E Value),GoodW w→DVRels (Af A w) ds vs→Calls P f vs.toArray w fun e w'=>
  ∃v:Value,e= .panicked [{v:=v,recovered:=false }]∧RowKit.Below w.heap.size w w'∧Rep (fun _ _=>False) pd v
def D.flat1:D→Bool
 | .int .. | .bool _ | .str _=>true
 | _=>false
def D.flat:D→Bool
 | .int .. | .bool _ | .str _=>true
 | .ifs _ cs=>cs.all D.flat1
 | _=>false
def RC.flat:RC→Prop
 | .v d=>d.flat=true
 | .o _ es=>∀r∈es,∀d∈r,d.flat=true
def C7(rs:E R1):Prop:=∀c∈rs.flatMap R1.cells,c.flat
theorem Rep.flat1{h h':A6}{d:D}{v:Value}(H:Rep h d v)(hf:d.flat1=true):Rep h' d v:=by
 cases H<;>first
  | exact .bool
  | (cases hf; done)
  | skip
 case int a b=>exact .int a b
 case str a=>exact .str a
theorem Reps.flat1{h h':A6}:∀{ds:E D} {vs:E Value},Reps h ds vs→ds.all D.flat1=true→Reps h' ds vs
 | _,_,.nil,_=> .nil
 | _,_,.cons a b,H=>by
  simp only[List.all_cons,Bool.and_eq_true] at H
  exact .cons (a.flat1 H.1) (b.flat1 H.2)
theorem Rep.flat{h h':A6}{d:D}{v:Value}(H:Rep h d v)(hf:d.flat=true):Rep h' d v:=by
 cases H<;>first
  | exact .bool
  | (cases hf; done)
  | skip
 case int a b=>exact .int a b
 case str a=>exact .str a
 case ifs a b=>exact .ifs (a.flat1 hf) b
theorem Reps.flat{h h':A6}:∀{ds:E D} {vs:E Value},Reps h ds vs→(∀d∈ds,d.flat=true)→Reps h' ds vs
 | _,_,.nil,_=> .nil
 | _,_,.cons a b,H=> .cons (a.flat (H _ (by simp))) (b.flat fun d hd=>H d (by simp[hd]))
theorem RepRows.flat{h h':A6}{sz:L}:∀{es:E (E D)} {vs:E Value},RepRows h sz es vs→(∀r∈es,∀d∈r,d.flat=true)→RepRows h' sz es vs
 | _,_,.nil,_=> .nil
 | _,_,.cons a b c,H=> .cons a (b.flat (H _ (by simp))) (c.flat fun r hr=>H r (by simp[hr]))
def Hm:AV→G DV
 | .v (.sc c)=>(DK c).map .sc
 | .v (.ag cs)=>(Cn cs).map .ag
 | _=>F
def St.toIVs(σ:St):E Opd→G (E DV)
 | []=>T []
 | x::xs=>match Hm (σ.val x),σ.toIVs xs with
  | some d,T ds=>T (d::ds)
  | _,_=>F
section
variable {P : Program} {A : Ar} {B : L} {w0 : Base} {w : World} {nm : Ad} {σ : St} {a : Act}
theorem EB{b:L}{C:E Value}(h:Ab A nm w b C):AS w b C:=qD h
theorem Q8{b:L}{C:E Value}(h:AS w b C):Af (fun _ _=>True) w b C:=by
 obtain⟨c,t,fr,h1,h2⟩:=h;exact⟨c,t,fr,trivial,h1,h2⟩
theorem Ua(R:Rel A B w0 nm σ a.tmps w){id off b:L}{d:D}(hb:nm (2*id)=T b)(hd:σ.pdOf id off=T d):Rep (AS w) d (.pointer (T ⟨b,off,F⟩)):=by
 unfold St.pdOf at hd
 split at hd
 ·rename_i cs hf
  simp only[N] at hd
  obtain⟨ds,hds,rfl⟩:=hd;obtain⟨b',C,t,h1,h2,h3⟩:=R.bxs id cs hf;have e:b'=b:=Option.some.inj (h1.symm.trans hb);subst e;exact .pd (C:=C.toList) ⟨C,t,_,h2,rfl⟩ (PU (X:=cx A nm σ w) (fun _ _ h=>EB h) (fun _ _ h=>R.oldAt h) ((h3.pre).drop off) hds).1
 ·cases hd
theorem PH(R:Rel A B w0 nm σ a.tmps w):∀{ids bs:E L} {ds:E D},ids.mapM (fun i=>nm (2*i))=T bs→σ.pdsOf ids=T ds→Reps (AS w) ds (bs.map fun b=>Value.pointer (T ⟨b,0,F⟩))∧ds.length=bs.length
 | [],bs,ds,hb,hd=>by
  simp at hb
  subst hb;simp[St.pdsOf] at hd
  subst hd;exact⟨.nil,rfl⟩
 | i::ids,bs,ds,hb,hd=>by
  simp only[List.mapM_cons,Option.bind_eq_bind,Option.pure_def] at hb
  cases hn:nm (2*i) with
  | none=>simp[hn] at hb
  | some b=>
   cases hr:ids.mapM (fun i=>nm (2*i)) with
   | none=>simp[hn,hr] at hb
   | some bs'=>
    simp[hn,hr] at hb
    subst hb;simp only[St.pdsOf] at hd
    split at hd
    ·rename_i d ds' h1 h2
     cases hd;obtain⟨h3,h4⟩:=PH R hr h2;exact⟨.cons (Ua R hn h1) h3,by simp[h4]⟩
    ·cases hd
theorem pU(R:Rel A B w0 nm σ a.tmps w){c:AC}{v:Value}{d:D}(H:CRel (cx A nm σ w) c v)(hd:σ.toD c=T d):Rep (AS w) d v:=by
 cases c with
 | pb id off=>
  cases H with | pb hb=>exact Ua R hb hd
 | pe id idx off=>
  simp only[St.toD] at hd
  split at hd
  ·rename_i sz es hf
   simp only[N] at hd
   obtain⟨r,hr,rfl⟩:=hd;obtain⟨b,cap,hb,own,hlt,rfl⟩:=H.inv_pe hf;obtain⟨C,hC,hrows⟩:=PG (fun _ _ h=>EB h) own;obtain⟨h1,h2⟩:=hrows.row hr;have h3:=h2.drop off;rw[List.drop_drop] at h3
   exact .pd hC h3
  ·cases hd
 | clo f ids=>
  simp only[St.toD,N] at hd
  obtain⟨ds,hds,rfl⟩:=hd;cases H with | clo hb=>
  exact .clo (PH R hb hds).1 (by simpa using(PH R hb hds).2)
 | undef=>simp[St.toD,toD1,toD0] at hd
 | dat d'=>exact Hk (X:=cx A nm σ w) (fun _ _ h=>EB h) (fun _ _ h=>R.oldAt h) H hd
 | own id=>exact Hk (X:=cx A nm σ w) (fun _ _ h=>EB h) (fun _ _ h=>R.oldAt h) H hd
 | osub id lo hi=>exact Hk (X:=cx A nm σ w) (fun _ _ h=>EB h) (fun _ _ h=>R.oldAt h) H hd
 | nil=>exact Hk (X:=cx A nm σ w) (fun _ _ h=>EB h) (fun _ _ h=>R.oldAt h) H hd
 | old d'=>exact Hk (X:=cx A nm σ w) (fun _ _ h=>EB h) (fun _ _ h=>R.oldAt h) H hd
 | vol=>simp[St.toD,toD1,toD0] at hd
 | nw=>simp[St.toD,toD1,toD0] at hd
 | mix d'=>exact Hk (X:=cx A nm σ w) (fun _ _ h=>EB h) (fun _ _ h=>R.oldAt h) H hd
 | z=>simp[St.toD,toD1,toD0] at hd
 | ipb=>simp[St.toD,toD1,toD0] at hd
theorem PW(R:Rel A B w0 nm σ a.tmps w){av:AV}{v:Value}{d:DV}(H:VRel (cx A nm σ w) av v)(hd:σ.toDV av=T d):DVRel (AS w) d v:=by
 unfold St.toDV at hd
 split at hd
 ·simp only[N] at hd
  obtain⟨d',h1,rfl⟩:=hd;exact .sc (pU R H.inv_sc h1)
 ·simp only[N] at hd
  obtain⟨ds,h1,rfl⟩:=hd;obtain⟨vs,rfl,hcs⟩:=H.inv_ag;obtain⟨h2,h3⟩:=PU (X:=cx A nm σ w) (fun _ _ h=>EB h) (fun _ _ h=>R.oldAt h) hcs.pre h1;exact .ag h2 (h3.trans hcs.length)
 ·cases hd
theorem IW{X:Cx}{av:AV}{v:Value}{d:DV}(H:VRel X av v)(hd:Hm av=T d):DVRel X.h d v:=by
 unfold Hm at hd
 split at hd
 ·simp only[N] at hd
  obtain⟨d',h1,rfl⟩:=hd;exact .sc (Vj H.inv_sc h1)
 ·simp only[N] at hd
  obtain⟨ds,h1,rfl⟩:=hd;obtain⟨vs,rfl,hcs⟩:=H.inv_ag;obtain⟨h2,h3⟩:=IX hcs h1;exact .ag h2 (h3.trans hcs.length)
 ·cases hd
theorem DVRel.mono{h h':A6}(hh:∀b C,h b C→h' b C){d:DV}{v:Value}(H:DVRel h d v):DVRel h' d v:=by
 cases H with
 | sc a=>exact .sc (a.mono hh)
 | ag a b=>exact .ag (a.mono hh) b
theorem DVRels.mono{h h':A6}(hh:∀b C,h b C→h' b C):∀{ds vs},DVRels h ds vs→DVRels h' ds vs
 | _,_,.nil=> .nil
 | _,_,.cons a b=> .cons (a.mono hh) (b.mono hh)
theorem DVRels.append{h:A6}:∀{ds vs ds' vs'},DVRels h ds vs→DVRels h ds' vs'→DVRels h (ds++ds') (vs++vs')
 | _,_,_,_,.nil,H=>H
 | _,_,_,_,.cons a b,H=> .cons a (b.append H)
theorem DVRels.of_reps{h:A6}:∀{ds vs},Reps h ds vs→ds.length=vs.length→DVRels h (ds.map .sc) vs
 | [],vs,_,hl=>by
  obtain rfl:vs= []:=List.length_eq_zero_iff.1 (by simpa using hl.symm);exact .nil
 | _,_,.cons a b,hl=> .cons (.sc a) (.of_reps b (by simpa using hl))
theorem NO(R:Rel A B w0 nm σ a.tmps w):∀{xs:E Operand} {ys:E Opd} {ds:E DV},BG xs=T ys→σ.toDVs ys=T ds→DVRels (AS w) ds (xs.map a.eval)
 | [],ys,ds,hy,hd=>by simp[BG] at hy; subst hy; simp[St.toDVs] at hd; subst hd; exact .nil
 | x::xs,ys,ds,hy,hd=>by
  simp only[BG] at hy
  split at hy
  ·rename_i y ys' h1 h2
   cases hy;simp only[St.toDVs] at hd
   split at hd
   ·rename_i d ds' h3 h4
    cases hd;exact .cons (PW R (Al R h1) h3) (NO R h2 h4)
   ·cases hd
  ·cases hy
theorem PX(R:Rel A B w0 nm σ a.tmps w):∀{xs:E Operand} {ys:E Opd} {ds:E DV},BG xs=T ys→σ.toIVs ys=T ds→DVRels (Ab A nm w) ds (xs.map a.eval)
 | [],ys,ds,hy,hd=>by simp[BG] at hy; subst hy; simp[St.toIVs] at hd; subst hd; exact .nil
 | x::xs,ys,ds,hy,hd=>by
  simp only[BG] at hy
  split at hy
  ·rename_i y ys' h1 h2
   cases hy;simp only[St.toIVs] at hd
   split at hd
   ·rename_i d ds' h3 h4
    cases hd;exact .cons (IW (X:=cx A nm σ w) (Al R h1) h3) (PX R h2 h4)
   ·cases hd
  ·cases hy
end
inductive XC where
 | d (x:D)
 | r (j:L)
inductive XV where
 | sc (c:XC)
 | ag (cs:E XC)
abbrev Ai:=E (L × E (E D))
inductive Xm (w:World) (bs:E (G L)) (R:Ai):XC→Value→Prop
 | d {x v}:Rep Bu x v→Xm w bs R (.d x) v
 | nil {j sz a}:R[j]?=T (sz,[])→bs[j]?=T F→Xm w bs R (.r j) (.slice a 0 0)
 | r {j sz es b cap len}:R[j]?=T (sz,es)→bs[j]?=T (T b)→OwnB Bu w b sz cap es→len=es.length→Xm w bs R (.r j) (.slice (T ⟨b,0,F⟩) len cap)
inductive Xl (w:World) (bs:E (G L)) (R:Ai):E XC→E Value→Prop
 | nil:Xl w bs R [] []
 | cons {c v cs vs}:Xm w bs R c v→Xl w bs R cs vs→Xl w bs R (c::cs) (v::vs)
inductive Xn (w:World) (bs:E (G L)) (R:Ai):XV→Value→Prop
 | sc {c v}:Xm w bs R c v→Xn w bs R (.sc c) v
 | ag {cs vs}:Xl w bs R cs vs→Xn w bs R (.ag cs) (.agg vs.toArray)
inductive Xk (w:World) (bs:E (G L)) (R:Ai):E XV→E Value→Prop
 | nil:Xk w bs R [] []
 | cons {x v xs vs}:Xn w bs R x v→Xk w bs R xs vs→Xk w bs R (x::xs) (v::vs)
theorem Xk.len{w:World}{bs:E (G L)}{R:Ai}:∀{xs vs},Xk w bs R xs vs→xs.length=vs.length
 | _,_,.nil=>rfl
 | _,_,.cons _ b=>by simp[b.len]
def B5(bs:E (G L)):Ad:=fun i=>if Av≤i∧(i - Av) % 2=1 then(bs[(i - Av) / 2]?).join else F
theorem Fw{bs:E (G L)}{i b:L}(h:B5 bs i=T b):∃j,i=Av+2*j+1∧bs[j]?=T (T b):=by
 unfold B5 at h;split at h
 ·rename_i hc
  refine⟨(i - Av) / 2,by omega,?_⟩;cases hb:bs[(i - Av) / 2]? with
  | none=>simp[hb] at h
  | some o=>simp[hb] at h; rw[h]
 ·cases h
theorem IL{bs:E (G L)}{j:L}{o:G L}(h:bs[j]?=T o):B5 bs (Av+2*j+1)=o:=by
 unfold B5;rw[if_pos (by omega),show(Av+2*j+1 - Av) / 2=j by omega,h];rfl
def FCx(P:Program)(f:FuncId)(xs:E XV)(R0 R1:Ai)(r:D):Prop:=
 ∀(w:World) (vs:E Value) (bs:E (G L)),bs.length=R0.length→(∀(i j b:L),bs[i]?=T (T b)→bs[j]?=T (T b)→i=j)→(∀b,T b∈bs→b<w.heap.size)→
  (∀w2,BelowX w.heap.size (.of w (B5 bs)) w2→GoodW w2)→Xk w bs R0 xs vs→Calls P f vs.toArray w fun e w'=>
   ∃v,e= .returned v∧BelowX w.heap.size (.of w (B5 bs)) w'∧Rep Bu r v∧∀(j b:L),bs[j]?=T (T b)→∃sz es cap,R1[j]?=T (sz,es)∧OwnB Bu w' b sz cap es
def CX:Ai→Ai→Bool
 | [],[]=>true
 | (z,es)::r,(z',es')::r'=>(z==z')&&((es.length==es'.length)&&CX r r')
 | _,_=>false
theorem Uz:∀{R R':Ai},CX R R'=true→∀{j z:L} {es:E (E D)},R[j]?=T (z,es)→∃es',R'[j]?=T (z,es')∧es'.length=es.length
 | [],[],_,j,z,es,h=>by simp at h
 | [],_::_,h,_,_,_,_=>by simp[CX] at h
 | _::_,[],h,_,_,_,_=>by simp[CX] at h
 | (a,e)::r,(a',e')::r',h,j,z,es,hj=>by
  simp only[CX,Bool.and_eq_true,beq_iff_eq] at h;obtain⟨h1,h2,h3⟩:=h;cases j with
  | zero=>
   simp only[List.getElem?_cons_zero,Option.some.injEq,Prod.mk.injEq] at hj
   obtain⟨rfl,rfl⟩:=hj;exact⟨e',by simp[h1],h2.symm⟩
  | succ j=>
   simp only[List.getElem?_cons_succ] at hj ⊢
   exact Uz h3 hj
def DG(id:L):E L→G L
 | []=>F
 | k::r=>bif k==id then T 0 else(DG id r).map (· + 1)
theorem NE{id:L}:∀{l:E L} {j:L},DG id l=T j→l[j]?=T id
 | [],_,h=>by simp[DG] at h
 | k::r,j,h=>by
  unfold DG at h;by_cases hk:k=id
  ·simp[hk] at h; subst h; simp[hk]
  ·have h':(k==id)=false:=by simpa using hk
   simp only[h',cond_false,N] at h;obtain⟨j',h1,rfl⟩:=h;simpa using NE h1
def J2(ids:E L):AC→G XC
 | .own id=>(DG id ids).map .r
 | .dat d=>bif d.flat then T (.d d) else F
 | _=>F
def LJ(ids:E L):E AC→G (E XC)
 | []=>T []
 | c::cs=>match J2 ids c,LJ ids cs with
  | some x,T xs=>T (x::xs)
  | _,_=>F
def Q3(ids:E L):AV→G XV
 | .v (.sc c)=>(J2 ids c).map .sc
 | .v (.ag cs)=>(LJ ids cs).map .ag
 | _=>F
def St.toXVs(σ:St)(ids:E L):E Opd→G (E XV)
 | []=>T []
 | x::xs=>match Q3 ids (σ.val x),σ.toXVs ids xs with
  | some d,T ds=>T (d::ds)
  | _,_=>F
def BZ(rs:Rows):E L→G Ai
 | []=>T []
 | id::ids=>match A1 rs id,BZ rs ids with
  | some r,T R=>T (r::R)
  | _,_=>F
theorem He{rs:Rows}:∀{ids:E L} {R:Ai},BZ rs ids=T R→R.length=ids.length∧∀j:L,R[j]?=ids[j]?.bind (A1 rs)
 | [],R,h=>by simp[BZ] at h; subst h; simp
 | id::ids,R,h=>by
  unfold BZ at h;split at h
  ·rename_i r R' h1 h2
   cases h;obtain⟨k1,k2⟩:=He h2;refine⟨by simp[k1],fun j=> ?_⟩;cases j with
   | zero=>simp[h1]
   | succ j=>simpa using k2 j
  ·cases h
def Cc:Rows→E L→Ai→Rows
 | rs,id::ids,r::R=>Cc (put rs id r) ids R
 | rs,_,_=>rs
theorem NF{id:L}:∀{ids:E L} {R:Ai} {rs:Rows},id∉ids→A1 (Cc rs ids R) id=A1 rs id
 | [],R,rs,_=>by cases R<;>rfl
 | _::_,[],_,_=>rfl
 | k::ids,r::R,rs,h=>by
  simp only[List.mem_cons,not_or] at h;rw[Cc,NF h.2,Bb _ _ h.1]
theorem PM:∀{ids:E L} {R:Ai} {rs:Rows} {j id:L} {r:L × E (E D)},ids.Nodup→ids[j]?=T id→R[j]?=T r→A1 (Cc rs ids R) id=T r
 | [],_,_,j,_,_,_,h,_=>by simp at h
 | _::_,[],_,j,_,_,_,_,h=>by simp at h
 | k::ids,r0::R,rs,j,id,r,hn,h1,h2=>by
  simp only[List.nodup_cons] at hn
  cases j with
  | zero=>
   simp only[List.getElem?_cons_zero,Option.some.injEq] at h1 h2
   subst h1; subst h2;rw[Cc,NF hn.1,B9]
  | succ j=>
   simp only[List.getElem?_cons_succ] at h1 h2
   rw[Cc];exact PM hn.2 h1 h2
def CM(R:Ai):Prop:=∀p∈R,∀e∈p.2,∀d∈e,d.flat=true
def St.instX(σ:St)(d:L)(ids:E L)(R1:Ai)(r:D):St:={(σ.set d (.v (.sc (.dat r)))) with rows:=Cc σ.rows ids R1}
def St.handedX(σ:St)(args:E Opd)(ids:E L)(xs:E XV)(R0 R1:Ai):Prop:=ids.Nodup∧σ.toXVs ids args=T xs∧BZ σ.rows ids=T R0∧CM R0∧CX R0 R1=true
theorem ShV.trans{a b c:Value}(h:ShV a b)(k:ShV b c):ShV a c:=by
 cases h with
 | same=>exact k
 | int h1 h2=>cases k with
  | same=>exact .int h1 h2
  | int k1 k2=>exact .int k1 k2
 | bool=>cases k with
  | same=>exact .bool
  | bool=>exact .bool
 | str h1=>cases k with
  | same=>exact .str h1
  | str k1=>exact .str k1
theorem ShL.trans:∀{a b c:E Value},ShL a b→ShL b c→ShL a c
 | _,_,_,.nil,.nil=> .nil
 | _,_,_,.cons h hs,.cons k ks=> .cons (h.trans k) (hs.trans ks)
theorem BelowX.afterY{B:L}{b0 bz:Base}{w w':World}(h:BelowX B b0 w)(hw:bz.w=w)(k:BelowX w.heap.size bz w')(hB:B≤w.heap.size)(hM:∀b,b0.M b→b<w.heap.size)(hn:∀b,bz.M b→B≤b∨b0.M b)(hv:∀b,bz.vv b→(B≤b∨b0.M b)∨b0.vv b):BelowX B b0 w':=by
 subst hw;refine⟨k.os.trans h.os,k.tape.trans h.tape,k.output.trans h.output,Nat.le_trans h.size k.size,fun j hj hm hvv=>(k.block j (by omega) (fun hmm=> ?_) (fun hmm=> ?_)).trans (h.block j hj hm hvv),fun j hm C t fr hC=> ?_,h.vlt,fun j hvv C t fr hC=> ?_⟩
 ·rcases hn j hmm with h1|h1
  ·omega
  ·exact hm h1
 ·rcases hv j hmm with (h1|h1)|h1
  ·omega
  ·exact hm h1
  ·exact hvv h1
 ·obtain⟨C1,h1,h2⟩:=h.room j hm C t fr hC;by_cases hx:bz.M j
  ·obtain⟨C2,h3,h4⟩:=k.room j hx C1 t fr h1;exact⟨C2,h3,h4.trans h2⟩
  ·by_cases hy:bz.vv j
   ·obtain⟨C2,h3,h4⟩:=k.shape j hy C1 t fr h1;have:=h4.len;simp only[Array.length_toList] at this
    exact⟨C2,h3,this.trans h2⟩
   ·exact⟨C1,(k.block j (hM j hm) hx hy).trans h1,h2⟩
 ·obtain⟨C1,h1,h2⟩:=h.shape j hvv C t fr hC
  have hx:¬bz.M j:=fun hx=>by
   rcases hn j hx with h3|h3
   ·have:=h.vlt j hvv; omega
   ·exact b0.no j hvv h3
  by_cases hy:bz.vv j
  ·obtain⟨C2,h3,h4⟩:=k.shape j hy C1 t fr h1;exact⟨C2,h3,h2.trans h4⟩
  ·exact⟨C1,(k.block j (CR h1) hx hy).trans h1,h2⟩
theorem BelowX.afterZ{B:L}{b0 bz:Base}{w w':World}(h:BelowX B b0 w)(hw:bz.w=w)(k:BelowX w.heap.size bz w')(hB:B≤w.heap.size)(hM:∀b,b0.M b→b<w.heap.size)(hn:∀b,bz.M b→B≤b∨b0.M b)(hv:∀b,bz.vv b→B≤b∨b0.vv b):BelowX B b0 w':=h.afterY hw k hB hM hn fun b hb=>(hv b hb).imp .inl id
theorem BelowX.after{B:L}{b0:Base}{w w':World}{np:Ad}(h:BelowX B b0 w)(k:BelowX w.heap.size (.of w np) w')(hB:B≤w.heap.size)(hM:∀b,b0.M b→b<w.heap.size)(hn:∀i b,np i=T b→B≤b∨b0.M b):BelowX B b0 w':=
 h.afterZ rfl k hB hM (fun b hb=>by
  obtain⟨i,_,e⟩:=Base.of_M hb;exact hn i b e) fun b hb=>hb.elim
end Go.Vi
