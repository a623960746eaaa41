/-
The value level. No condition.
-/
import Derived.Test.YthkepjhahmknfaaGreatDoorLVi36
namespace Go.Vi
set_option linter.all false
open And renaming intro → L
open List renaming map → O, length_eq_zero_iff → U
open Option renaming map_eq_some_iff → V, some → F
open Bool renaming true → T
open _root_ renaming List → E, Nat → G
inductive DVS (h:Aj):DV→Value→Prop
 | sc {d v}:RepS h d v→DVS h (.sc d) v
 | ag {ds vs}:RepSs h ds vs→ds.length=vs.length→DVS h (.ag ds) (.agg vs.toArray)
inductive VV where
 | d (x:D)
 | v (x:DV)
inductive VVRel (h:Aj):VV→Value→Prop
 | d {x v}:Rep Cr x v→VVRel h (.d x) v
 | v {x v}:DVS h x v→VVRel h (.v x) v
inductive VVRels (h:Aj):E VV→E Value→Prop
 | nil:VVRels h [] []
 | cons {x v xs vs}:VVRel h x v→VVRels h xs vs→VVRels h (x::xs) (v::vs)
theorem VVRels.len{h:Aj}:∀{xs vs},VVRels h xs vs→xs.length=vs.length
 | _,_,.nil=>rfl
 | _,_,.cons _ b=>by simp[b.len]
theorem VVRels.get{h:Aj}:∀{xs:E VV} {vs:E Value} (i:G) {x:VV} {v:Value},VVRels h xs vs→xs[i]?=F x→vs[i]?=F v→VVRel h x v
 | _,_,_,_,_,.nil,hd,_=>by simp at hd
 | _,_,0,_,_,.cons a _,hd,hv=>by simp at hd hv; subst hd hv; exact a
 | _,_,i+1,_,_,.cons _ b,hd,hv=>VVRels.get i b (by simpa using hd) (by simpa using hv)
def Fj(A:Bg):Bg:=fun b fr=>A b fr∧fr=(0,0)
def EK(w:World)(A:Bg):Base:=⟨w,fun _=>none,fun _=>False,fun _ h=>h.elim,fun b=>A b (0,0)∧∃c t,w.heap[b]?=F (.cells c t (0,0)),fun b _ h=>h.elim (fun⟨i,_,e⟩=>by cases e) fun h=>h⟩
theorem Pf{w:World}{A:Bg}{b:G}(h:(EK w A).M b):False:=h.elim (fun⟨i,_,e⟩=>by cases e) fun h=>h
def FCd(P:Program)(f:FuncId)(xs:E VV)(r:D):Prop:=
 ∀(w:World) (A:Bg) (vs:E Value),(∀w2,BelowX w.heap.size (EK w A) w2→GoodW w2)→VVRels (AI (Fj A) w) xs vs→Calls P f vs.toArray w fun e w'=>
  ∃v,e= .returned v∧Rep Cr r v∧BelowX w.heap.size (EK w A) w'
def VV.av:VV→AV
 | VV.d x=> .v (.sc (.dat x))
 | VV.v (DV.sc y)=> .v (.sc (.vol y))
 | VV.v (DV.ag ys)=> .v (.ag (ys.map .vol))
def KC:G→E VV→E (G × AV)
 | _,[]=> []
 | k,x::xs=>(k,x.av)::KC (k+1) xs
def St.initV(xs:E VV):St:=⟨KC 0 xs,[],[]⟩
theorem eZ:∀(ds:E VV) (k i:G),A7 (KC k ds) i=if k≤i then(ds[i - k]?).map VV.av else none
 | [],k,i=>by simp[KC,A7]
 | d::ds,k,i=>by
  simp only[KC,A7];by_cases hk:k=i
  ·subst hk; simp
  ·have h':(k==i)=false:=by simpa using hk
   rw[h',cond_false,eZ ds (k+1) i];by_cases h1:k≤i
   ·rw[if_pos (by omega),if_pos h1,show i - k=(i - (k+1))+1 by omega]; simp
   ·rw[if_neg (by omega),if_neg h1]
def Pc(w:World)(A0:Bg):Ar:=⟨fun b fr=>w.heap.size≤b∧fr=(0,0),Cr,AI (Fj A0) w,false⟩
theorem vh(w:World)(A0:Bg):Glob (Pc w A0) w.heap.size (EK w A0):=by
 refine⟨fun b hb=>hb.elim (fun h=>⟨h,rfl⟩) fun h=>h.elim,fun _ _ h=>h.elim,fun b C h=> ?_,fun b fr hv h=> ?_,fun h=>by cases h⟩
 ·obtain⟨c,t,fr,⟨h1,rfl⟩,h2,h3⟩:=h;exact⟨⟨h1,c,t,h2⟩,c,t,_,h2,h3,rfl⟩
 ·obtain⟨_,c,t,h2⟩:=hv;have:=KK h2;have:=h.1;omega
theorem jR{X:Cx}:∀{ds:E D} {vs:E Value},RepSs X.v ds vs→ds.length=vs.length→CRels X (ds.map .vol) vs
 | [],vs,_,hl=>by
  obtain rfl:vs= []:=U.1 (by simpa using hl.symm);exact .nil
 | _,_,.cons a b,hl=> .cons (.vol a .same) (jR b (by simpa using hl))
theorem yk{w:World}{A0:Bg}{xs:E VV}{vs:E Value}(nt:G)(hG:∀w2,BelowX w.heap.size (EK w A0) w2→GoodW w2)(h:VVRels (AI (Fj A0) w) xs vs) :
  Rel (Pc w A0) w.heap.size (EK w A0) (fun _=>none) (St.initV xs) (vs.toArray++Array.replicate (nt - vs.toArray.size) undef) w:=by
 refine⟨BelowX.start _ _ (fun _ ⟨_,_,_,h⟩=>KK h),Nat.le_refl _,vh w A0,hG,fun i b h=>(by cases h),fun i j b h=>(by cases h),fun i _=>rfl,fun k=> ?_,fun id cs h=>by simp[St.initV,A7] at h⟩;unfold St.get;rw[show(St.initV xs).env=KC 0 xs from rfl,eZ xs 0 k];simp only[Nat.zero_le,if_true,Nat.sub_zero];cases hd:xs[k]? with
 | none=>exact .undef
 | some x=>
  have hk:k<vs.length:=by rw[← h.len]; exact(List.getElem?_eq_some_iff.1 hd).1
  have hv:vs[k]?=F (vs[k]'hk):=List.getElem?_eq_getElem hk
  have e:(vs.toArray++Array.replicate (nt - vs.toArray.size) undef).getD k undef=vs[k]'hk:=by
   rw[Array.getD_eq_getD_getElem?,Array.getElem?_append_left (by simpa using hk)];simp[hk]
  rw[e];have hr:=VVRels.get k h hd hv;revert hr
  generalize vs[k]'hk=z
  intro hr;cases hr with
  | d hr=>exact VRel.v (V1Rel.sc (CRel.dat (hr.mono IW)))
  | v hr=>
   cases hr with
   | sc hr=>exact VRel.v (V1Rel.sc (CRel.vol (X:=cx (Pc w A0) (fun _=>none) (St.initV xs) w) hr .same))
   | ag hr hl=>exact VRel.v (V1Rel.ag (jR (X:=cx (Pc w A0) (fun _=>none) (St.initV xs) w) hr hl))
def P6(ts:E RV)(r:D)(e:Xk)(σ:St):Prop:=
 match e with
 | .exit _=>False
 | .pan _=>False
 | _=>OutVs σ ts [.sc (.v r)]
section
variable {P : Program}
theorem lT(hm:P.follows .mixedOrders=T){f:FuncId}{c:X0}{ts:E RV}{nt:G}{xs:E VV}{r:D}(he:Bd P f=F (c.strip,ts,nt))(hl:xs.length≤nt)(hrf:r.flat=T)(h:Bk P c (P6 ts r) (St.initV xs)):FCd P f xs r:=by
 unfold Bd at he
 split at he
 ·rename_i fn hf
  split at he
  ·rename_i C ts' hb hr
   simp only[V] at he
   obtain⟨c',hc,e⟩:=he;cases e;intro w A0 vs hG hvs;refine calls_of_wp hf hb ?_;have hlv:=hvs.len;refine wp_mono (LJ (df:= []) hm c C _ (fun _=>none) (St.initV xs) _ w hc h (yk fn.ntmps hG hvs) (by simp; omega) rfl) fun e a w' hq=> ?_
   obtain⟨e',nm,σ,he,hq,R,hnt,hdf⟩:=hq
   have key:OutVs σ ts [.sc (.v r)]→a.defers= []∧∃v,(results fn a.tmps).run P w'= .ok v w'∧∃v',Ending.returned v= .returned v'∧Rep Cr r v'∧BelowX w.heap.size (EK w A0) w':=by
    intro ho;obtain⟨v,rb,hrun,hrel⟩:=hF R (fun _ _ h=>h) hr ho;refine⟨hdf,v,hrun,v,rfl,?_,R.below⟩;cases hrel with
    | one hrel=>
     cases hrel with | sc hrel=>
     cases hrel with | v hrel=>exact hrel.flat hrf
    | many h=>simp at h
   cases e' with
   | normal=>obtain rfl:e= .normal:=he; exact key hq
   | ret=>obtain rfl:e= .ret:=he; exact key hq
   | exit id=>exact hq.elim
   | pan d=>exact hq.elim
  ·cases he
 ·cases he
theorem Yk(hm:P.follows .mixedOrders=T){f nt:G}{c:X0}{ts:E RV}{xs:E VV}{r:D}{σ:St}(he:Bd P f=F (c.strip,ts,nt))(hl:Nat.ble xs.length nt=T)(hrf:r.flat=T)(hσ:St.initV xs=σ)
  (h:go P [.code c] (P6 ts r) .normal (F σ)):FCd P f xs r:=lT hm he (Nat.le_of_ble_eq_true hl) hrf (hσ▸O5 h)
end
def OQ:E AC→Option (E D)
 | []=>F []
 | .vol d::cs=>(OQ cs).map (d:: ·)
 | _=>none
def XP:AV→Option VV
 | .v (.sc (.dat d))=>bif d.flat then F (.d d) else none
 | .v (.sc (.vol d))=>F (.v (.sc d))
 | .v (.ag cs)=>(OQ cs).map fun ds=> .v (.ag ds)
 | _=>none
def L0:E AV→Option (E VV)
 | []=>F []
 | a::r=>match XP a,L0 r with
  | some x,F xs=>F (x::xs)
  | _,_=>none
section
variable {P : Program} {A : Ar} {B : G} {w0 : Base} {w : World} {nm : Ap} {σ : St} {tmps : Array Value}
def OE(A:Ar):Bg:=fun b _=>∃C,A.v b C
theorem Rel.volMove(R:Rel A B w0 nm σ tmps w):∀b C,A.v b C→∃C',AI (Fj (OE A)) w b C'∧ShL C C':=fun b C hC=>by
 obtain⟨c,t,fr,h1,h2,h3,_⟩:=R.volAt hC;exact⟨c.toList,⟨c,t,fr,⟨⟨C,hC⟩,h3⟩,h1,rfl⟩,h2⟩
theorem jS{h':Aj}{X:Cx}(hh:∀b C,X.v b C→∃C',h' b C'∧ShL C C'):∀{cs:E AC} {vs:E Value} {ds:E D},CRels X cs vs→OQ cs=F ds→RepSs h' ds vs∧ds.length=vs.length
 | [],_,ds,.nil,h=>by simp[OQ] at h; subst h; exact⟨.nil,rfl⟩
 | c::cs,_,ds,.cons a b,h=>by
  cases c<;>simp[OQ] at h;obtain⟨ds',h1,rfl⟩:=h;obtain⟨k1,k2⟩:=jS hh b h1;cases a with | vol p q=>exact⟨.cons (p.move hh q) k1,by simp[k2]⟩
theorem A78(R:Rel A B w0 nm σ tmps w){av:AV}{v:Value}{x:VV}(H:VRel (cx A nm σ w) av v)(h:XP av=F x):VVRel (AI (Fj (OE A)) w) x v:=by
 unfold XP at h;split at h
 ·rename_i d
  cases hf:d.flat with
  | false=>rw[hf] at h; cases h
  | true=>
   rw[hf] at h;cases h;exact .d (H.inv_sc.inv_dat.flat hf)
 ·cases h;have hc:=H.inv_sc;cases hc with | vol p q=>exact .v (.sc (p.move R.volMove q))
 ·simp only[V] at h;obtain⟨ds,h1,rfl⟩:=h;obtain⟨vs,rfl,hcs⟩:=H.inv_ag;obtain⟨k1,k2⟩:=jS (X:=cx A nm σ w) R.volMove hcs h1;exact .v (.ag k1 k2)
 ·cases h
theorem jD(R:Rel A B w0 nm σ tmps w):∀{avs:E AV} {vs:E Value} {xs:E VV},GQ (cx A nm σ w) avs vs→L0 avs=F xs→VVRels (AI (Fj (OE A)) w) xs vs
 | [],vs,xs,H,h=>by
  simp[L0] at h;subst h;obtain rfl:vs= []:=U.1 H.1.symm;exact .nil
 | a::avs,vs,xs,H,h=>by
  unfold L0 at h;split at h
  ·rename_i x xs' h1 h2
   cases h;cases vs with
   | nil=>have:=H.1; simp at this
   | cons v vs=>
    exact .cons (A78 R (H.2 0 a v rfl rfl) h1) (jD R ⟨by have:=H.1; simpa using this,fun i u v hu hv=>H.2 (i+1) u v (by simpa using hu) (by simpa using hv)⟩ h2)
  ·cases h
theorem FCd.callC{f:FuncId}{xs:E VV}{r:D}(H:FCd P f xs r){avs:E AV}(hx:L0 avs=F xs):DG P f avs σ σ (.v (.sc (.dat r))):=by
 intro A B w0 w nm tmps vs R hvs;have after:∀w2,BelowX w.heap.size (EK w (OE A)) w2→BelowX B w0 w2:=fun w2 h=>R.below.afterZ rfl h R.size R.there (fun b hb=>(Pf hb).elim) fun b ⟨⟨C,hC⟩,_⟩=> .inr (R.all.vol b C hC).1
 refine(H w (OE A) vs (fun w2 h=>R.good w2 (after w2 h)) (jD R hvs hx)).mono fun e w' h=> ?_
 obtain⟨v,rfl,hv,hb⟩:=h;have hsame:∀b,b<w.heap.size→¬w0.vv b→w'.heap[b]?=w.heap[b]?:=fun b hlt hn=>hb.block b hlt (fun h=>Pf h) fun⟨⟨C,hC⟩,_⟩=>hn (R.all.vol b C hC).1
 have hnm:∀i b,nm i=F b→¬w0.vv b:=fun i b hi hv=>by
  rcases(R.names i b hi).1 with h1|h1
  ·have:=R.below.vlt b hv; omega
  ·exact w0.no b hv h1
 have hview:∀b C,As A nm w b C→As A nm w' b C:=by
  rintro b C ⟨h1,c,t,fr,hA,h2,h3⟩
  exact⟨h1,c,t,fr,hA,(hsame b (KK h2) fun hv=>R.all.vout b fr hv hA).trans h2,h3⟩
 refine⟨v,nm,rfl,?_,.v (.sc (.dat (hv.mono IW)))⟩;refine R.carry (f:=fun c=>c) (after w' hb) (Nat.le_trans R.size hb.size) (fun i b hi=> ?_) R.inj (fun _ _=>rfl) (fun k=>by rw[AV.mapId]) (fun id=>by simp) (fun id cs _ b hbn=>⟨hbn,hsame b (R.names _ _ hbn).2 (hnm _ _ hbn)⟩) (fun c v _ hr=> ?_)
 ·obtain⟨h1,h2⟩:=R.names i b hi;exact⟨h1,Nat.lt_of_lt_of_le h2 hb.size⟩
 ·exact hr.move hview (fun id _=> .inr ⟨rfl,rfl,fun b hbn=>hsame b (R.names _ _ hbn).2 (hnm _ _ hbn)⟩) (fun id _ b hbn=>hbn)
theorem wD{k:E Fr}{Q:Xk→St→Prop}{its:E AItem}{d f:G}{args:E Opd}{xs:E VV}{r:D}(hf:FCd P f xs r)(hx:L0 (args.map σ.val)=F xs)
  (h:go P (.ops its::k) Q .normal (F (σ.set d (.v (.sc (.dat r)))))):go P (.ops ((none,.call d f args)::its)::k) Q .normal (F σ):=Wo (hf.callC hx) h
end
def AC.wipe:AC→AC
 | .dat d=>bif d.fl then .dat d else .undef
 | c=>c
def AC.isOld:AC→Bool
 | .old _=>T
 | _=>false
def XQ:AV→Option VV
 | .v (.sc (.dat d))=>bif d.flat then F (.d d) else F (.v (.sc d))
 | .v (.ag cs)=>(CS cs).map fun ds=> .v (.ag ds)
 | _=>none
def J7:E AV→Option (E VV)
 | []=>F []
 | a::r=>match XQ a,J7 r with
  | some x,F xs=>F (x::xs)
  | _,_=>none
def IL(rs:Rows):Prop:=∀p∈rs,∀e∈p.2.2,∀d∈e,d.flat=T
theorem ex:IL []:=fun p hp=>by cases hp
theorem vB{α:Type}{row:α→E D} [FlatRow row]{id sz:G}{xs:E α}{rs:Rows}(h:IL rs):IL ((id,sz,O row xs)::rs):=fun p hp=>by
 rcases List.mem_cons.1 hp with rfl|hp
 ·intro e he d hd;obtain⟨x,_,rfl⟩:=List.mem_map.1 he;exact FlatRow.flat x d hd
 ·exact h p hp
section
variable {P : Program} {A : Ar} {B : G} {w0 : Base} {w : World} {nm : Ap} {σ : St} {tmps : Array Value}
def OF(A:Ar)(nm:Ap):Bg:=fun b fr=>(∀i,nm i≠F b)∧A b fr
theorem Rel.isNew(R:Rel A B w0 nm σ tmps w){k:G}(h:(σ.get k).cells.any AC.isOld=T):A.new=T:=by
 have H:=R.env k;obtain⟨c,hc,ho⟩:=List.any_eq_true.1 h;cases c<;>simp[AC.isOld] at ho
 rename_i d
 have key:∀{cs:E AC} {vs:E Value},CRels (cx A nm σ w) cs vs→ .old d∈cs→A.new=T:=by
  intro cs vs h
  induction h with
  | nil=>intro hm; cases hm
  | cons a b ih=>
   intro hm;rcases List.mem_cons.1 hm with rfl|hm
   ·cases a with | old hn _=>exact hn
   ·exact ih hm
 have key1:∀{x:V1} {v:Value},V1Rel (cx A nm σ w) x v→ .old d∈x.cells→A.new=T:=by
  intro x v h hm;cases h with
  | sc h=>exact key (.cons h .nil) hm
  | ag h=>exact key h hm
 have key2:∀{l:E V1} {vs:E Value},V1Rels (cx A nm σ w) l vs→ .old d∈l.flatMap V1.cells→A.new=T:=by
  intro l vs h
  induction h with
  | nil=>intro hm; simp at hm
  | cons a b ih=>
   intro hm;simp only[List.flatMap_cons,List.mem_append] at hm
   exact hm.elim (key1 a) ih
 revert H hc
 generalize tmps.getD k undef=v
 generalize σ.get k=av
 intro H hc;cases H with
 | undef=>simp[AV.cells] at hc
 | no=>simp[AV.cells] at hc
 | v H=>exact key1 H hc
 | tup H=>exact key2 H hc
theorem Rel.newMove(R:Rel A B w0 nm σ tmps w)(hn:A.new=T):∀b C,As A nm w b C→∃C',AI (Fj (OF A nm)) w b C'∧ShL C C':=by
 rintro b C ⟨h1,c,t,fr,hA,h2,h3⟩
 exact⟨C,⟨c,t,fr,⟨⟨h1,hA⟩,(R.all.new hn b fr hA).2⟩,h2,h3⟩,.refl _⟩
theorem A79(R:Rel A B w0 nm σ tmps w)(hn:A.new=T){av:AV}{v:Value}{x:VV}(H:VRel (cx A nm σ w) av v)(h:XQ av=F x):VVRel (AI (Fj (OF A nm)) w) x v:=by
 unfold XQ at h;split at h
 ·rename_i d
  cases hf:d.flat with
  | true=>rw[hf] at h; cases h; exact .d (H.inv_sc.inv_dat.flat hf)
  | false=>
   rw[hf] at h;cases h;exact .v (.sc (H.inv_sc.inv_dat.toS.move (R.newMove hn) .same))
 ·simp only[V] at h;obtain⟨ds,h1,rfl⟩:=h;obtain⟨vs,rfl,hcs⟩:=H.inv_ag;obtain⟨k1,k2⟩:=J6 hcs h1;exact .v (.ag (k1.toS.move (R.newMove hn) (.refl _)) (k2.trans hcs.length))
 ·cases h
theorem jE(R:Rel A B w0 nm σ tmps w)(hn:A.new=T):∀{avs:E AV} {vs:E Value} {xs:E VV},GQ (cx A nm σ w) avs vs→J7 avs=F xs→VVRels (AI (Fj (OF A nm)) w) xs vs
 | [],vs,xs,H,h=>by
  simp[J7] at h;subst h;obtain rfl:vs= []:=U.1 H.1.symm;exact .nil
 | a::avs,vs,xs,H,h=>by
  unfold J7 at h;split at h
  ·rename_i x xs' h1 h2
   cases h;cases vs with
   | nil=>have:=H.1; simp at this
   | cons v vs=>
    exact .cons (A79 R hn (H.2 0 a v rfl rfl) h1) (jE R hn ⟨by have:=H.1; simpa using this,fun i u v hu hv=>H.2 (i+1) u v (by simpa using hu) (by simpa using hv)⟩ h2)
  ·cases h
theorem CRel.wiped{X Y:Cx}{c:AC}{v:Value}(H:CRel X c v)(hf:IL X.rs)(hr:Y.rs=X.rs)(hn:Y.nm=X.nm)(hw:∀i b,X.nm i=F b→Y.w.heap[b]?=X.w.heap[b]?)(hz:Y.o=X.o∧Y.v=X.v∧Y.new=X.new):CRel Y c.wipe v:=by
 have h1:=H.one
 have own:∀{id sz es b cap},A7 X.rs id=F (sz,es)→X.nm (2*id+1)=F b→OwnB X.h X.w b sz cap es→OwnB Y.h Y.w b sz cap es:=fun hfd hb ho=>by
  obtain⟨a1,a2,a3,C,t,a4,a5,a6⟩:=ho;exact⟨a1,a2,a3,C,t,(hw _ _ hb).trans a4,a5,a6.flat (hf _ (Ku hfd))⟩
 cases H with
 | undef h=>exact .undef h
 | @dat d _ hd=>
  cases hfl:d.fl with
  | false=>simp only[AC.wipe,hfl,cond_false]; exact .undef h1
  | true=>
   simp only[AC.wipe,hfl,cond_true]
   cases hd<;>first
    | exact .dat .bool
    | (cases hfl; done)
    | skip
   case int a b=>exact .dat (.int a b)
   case str a=>exact .dat (.str a)
 | ownNil a b=>exact .ownNil (hr▸a) (hn▸b)
 | own a b c d=>exact .own (hr▸a) (hn▸b) (own a b c) d
 | ownDead a b=>exact .ownDead (hr▸a) b
 | osubNil a b=>exact .osubNil (hr▸a) (hn▸b)
 | osub a b c d e f g i j=>exact .osub (hr▸a) (hn▸b) (own a b c) d e f g i j
 | osubDead a b=>exact .osubDead (hr▸a) b
 | nil=>exact .nil
 | pb a=>exact .pb (hn▸a)
 | pe a b c d e=>exact .pe (hr▸a) (hn▸b) (own a b c) d e
 | peDead a b=>exact .peDead (hr▸a) b
 | clo a=>exact .clo (hn▸a)
 | z=>exact .z
 | ipb a=>exact .ipb (hn▸a)
 | old a b=>exact .old (hz.2.2.trans a) (hz.1▸b)
 | vol a b=>exact .vol (hz.2.1▸a) b
theorem FCd.callW0{f:FuncId}{xs:E VV}{r:D}(H:FCd P f xs r){avs:E AV}(hx:J7 avs=F xs)(ho:∀{A:Ar} {B:G} {w0:Base} {w:World} {nm:Ap} {tmps:Array Value},Rel A B w0 nm σ tmps w→A.new=T)(hfl:IL σ.rows):DG P f avs σ (σ.map AC.wipe) (.v (.sc (.dat r))):=by
 intro A B w0 w nm tmps vs R hvs;have hnw:=ho R;have after:∀w2,BelowX w.heap.size (EK w (OF A nm)) w2→BelowX B w0 w2:=fun w2 h=>R.below.afterZ rfl h R.size R.there (fun b hb=>(Pf hb).elim) fun b ⟨⟨_,hA⟩,_⟩=> .inl (R.all.new hnw b _ hA).1
 refine(H w (OF A nm) vs (fun w2 h=>R.good w2 (after w2 h)) (jE R hnw hvs hx)).mono fun e w' h=> ?_
 obtain⟨v,rfl,hv,hb⟩:=h;have hsame:∀i b,nm i=F b→w'.heap[b]?=w.heap[b]?:=fun i b hi=>hb.block b (R.names i b hi).2 (fun h=>Pf h) fun⟨⟨hn,_⟩,_⟩=>hn i hi
 refine⟨v,nm,rfl,?_,.v (.sc (.dat (hv.mono IW)))⟩;refine R.carry (f:=AC.wipe) (after w' hb) (Nat.le_trans R.size hb.size) (fun i b hi=> ?_) R.inj (fun _ _=>rfl) (fun k=>St.get_map) (fun id=>Gq) (fun id cs _ b hbn=>⟨hbn,hsame _ b hbn⟩) (fun c v _ hr=> ?_)
 ·obtain⟨h1,h2⟩:=R.names i b hi;exact⟨h1,Nat.lt_of_lt_of_le h2 hb.size⟩
 ·exact hr.wiped hfl rfl rfl hsame ⟨rfl,rfl,rfl⟩
theorem FCd.callW{f:FuncId}{xs:E VV}{r:D}(H:FCd P f xs r){avs:E AV}(hx:J7 avs=F xs){k:G}(ho:(σ.get k).cells.any AC.isOld=T)(hfl:IL σ.rows):DG P f avs σ (σ.map AC.wipe) (.v (.sc (.dat r))):=
 H.callW0 hx (fun R=>R.isNew ho) hfl
theorem wF{k:E Fr}{Q:Xk→St→Prop}{its:E AItem}{d f:G}{args:E Opd}{xs:E VV}{r:D}(hf:FCd P f xs r)(j:G)(hx:J7 (args.map σ.val)=F xs)(ho:(σ.get j).cells.any AC.isOld=T)(hfl:IL σ.rows)
  (h:go P (.ops its::k) Q .normal (F ((σ.map AC.wipe).set d (.v (.sc (.dat r)))))):go P (.ops ((none,.call d f args)::its)::k) Q .normal (F σ):=Wo (hf.callW hx ho hfl) h
end
section
variable {σ : St}
theorem A1o{rs:Rows}{es:E (E D)}:DT rs (.v (.sc (.old (.sl es))))=F (.v (.sc (.dat (.int .i64 es.length)))):=rfl
theorem A1s{rs:Rows}{es:E (E D)}:DT rs (.v (.sc (.vol (.sl es))))=F (.v (.sc (.dat (.int .i64 es.length)))):=rfl
theorem xh{α:Type}{rs:Rows}{sz:G}{xs:E α}{row:α→E D} [Row row sz]{kd:IntKind}{i:Int}:D1 rs sz (.v (.sc (.old (.sl (O row xs))))) (.v (.sc (.dat (.int kd i))))=(ix xs i).map fun x=> .v (.sc (.old (.pd (row x)))):=by
 simp only[D1,SS];cases ix xs i with
 | none=>rfl
 | some x=>simp[Row.len (row:=row) (sz:=sz),Row.pos row]
theorem xl{α:Type}{rs:Rows}{sz:G}{xs:E α}{row:α→E D} [Row row sz]{kd:IntKind}{i:Int}:D1 rs sz (.v (.sc (.vol (.sl (O row xs))))) (.v (.sc (.dat (.int kd i))))=(ix xs i).map fun x=> .v (.sc (.vol (.pd (row x)))):=by
 simp only[D1,SS];cases ix xs i with
 | none=>rfl
 | some x=>simp[Row.len (row:=row) (sz:=sz),Row.pos row]
theorem A13{g:Bool}{n:G}{cs:E D}:CP σ g n (.v (.sc (.old (.pd cs))))=CW (O CQ cs) 0 g n:=rfl
theorem A17{n:G}{es:E (E D)}{cs:E D}:CP σ false n (.v (.sc (.vol (.pd (.sl es::cs)))))=F (.v (.sc (.vol (.sl es)))):=rfl
theorem ud{rs:Rows}{off:G}{cs:E D}:CB rs off (.v (.sc (.old (.pd cs))))=(Dp off cs).map fun cs=> .v (.sc (.old (.pd cs))):=by
 simp only[CB,LQ];split<;>rfl
theorem ui{rs:Rows}{off:G}{cs:E D}:CB rs off (.v (.sc (.vol (.pd cs))))=(Dp off cs).map fun cs=> .v (.sc (.vol (.pd cs))):=by
 simp only[CB,LQ];split<;>rfl
theorem A20{cs:E D}:Fs (.v (.sc (.old (.pd cs))))=F (.v (.sc (.old (.pd cs)))):=rfl
theorem A24{cs:E D}:Fs (.v (.sc (.vol (.pd cs))))=F (.v (.sc (.vol (.pd cs)))):=rfl
theorem A6w{k:IntKind}{n m:Int}{cs:E D}:St.storeV σ 1 (.v (.sc (.vol (.pd (.int k n::cs))))) (.v (.sc (.dat (.int k m))))=F σ:=by cases k<;>rfl
theorem A6v{n m:Bool}{cs:E D}:St.storeV σ 1 (.v (.sc (.vol (.pd (.bool n::cs))))) (.v (.sc (.dat (.bool m))))=F σ:=rfl
theorem A6x{n m:E UInt8}{cs:E D}:St.storeV σ 1 (.v (.sc (.vol (.pd (.str n::cs))))) (.v (.sc (.dat (.str m))))=F σ:=rfl
theorem A29{k:IntKind}{n:Int}:CQ (.int k n)= .dat (.int k n):=rfl
theorem A28{b:Bool}:CQ (.bool b)= .dat (.bool b):=rfl
theorem A3b{s:E UInt8}:CQ (.str s)= .dat (.str s):=rfl
theorem A3a{es:E (E D)}:CQ (.sl es)= .old (.sl es):=rfl
theorem A3d:O CQ []= []:=rfl
theorem A3c{d:D}{ds:E D}:O CQ (d::ds)=CQ d::O CQ ds:=rfl
theorem A8r:O AC.vol []= []:=rfl
theorem A8q{d:D}{ds:E D}:O AC.vol (d::ds)= .vol d::O AC.vol ds:=rfl
theorem A0w{id:G}{d:D}:AC.kill id (.old d)= .old d:=rfl
theorem A0z{id:G}{d:D}:AC.kill id (.vol d)= .vol d:=rfl
theorem vO{id:G}{es:E (E D)}{d:D}:AC.frz id es (.old d)= .old d:=rfl
theorem vR{id:G}{es:E (E D)}{d:D}:AC.frz id es (.vol d)= .vol d:=rfl
theorem B36{k:IntKind}{n:Int}:AC.wipe (.dat (.int k n))= .dat (.int k n):=rfl
theorem B34{b:Bool}:AC.wipe (.dat (.bool b))= .dat (.bool b):=rfl
theorem B4c{s:E UInt8}:AC.wipe (.dat (.str s))= .dat (.str s):=rfl
theorem B37{es:E (E D)}:AC.wipe (.dat (.sl es))= .undef:=rfl
theorem B4b{cs:E D}:AC.wipe (.dat (.pd cs))= .undef:=rfl
theorem B4d:AC.wipe .undef= .undef:=rfl
theorem B38:AC.wipe .nil= .nil:=rfl
theorem B39{id:G}:AC.wipe (.own id)= .own id:=rfl
theorem B35{id o:G}:AC.wipe (.pb id o)= .pb id o:=rfl
theorem B4a{d:D}:AC.wipe (.old d)= .old d:=rfl
theorem pf{N:E G}{d:D}:AV.avoids N (.v (.sc (.old d)))=T:=by simp[AV.avoids,AV.cells,V1.cells,AC.avoids,AC.uses]
end
def A5d:=L @A1o (L @A1s (L @xh (L @xl (L @A13 (L @A17 (L @ud (L @ui (L @A20 (L @A24 (L @A6w (L @A6v (L @A6x (L @A29 (L @A28 (L @A3b (L @A3a (L @A3d (L @A3c (L @A8r (L @A8q (L @A0w (L @A0z (L @vO (L @vR (L @B36 (L @B34 (L @B4c (L @B37 (L @B4b (L @B4d (L @B38 (L @B39 (L @B35 (L @B4a @pf))))))))))))))))))))))))))))))))))
end Go.Vi
