/-
The value level. No condition.
-/
import Derived.Test.YtpigjggbnclpbaaGreatOVi23
namespace Go.Vi
set_option linter.all false
open List renaming mem_of_getElem? → L, getElem?_eq_some_iff → N, length_eq_one_iff → O, getElem?_eq_getElem → Q
open Bool renaming and_eq_true → U
open Option renaming some → T
open _root_ renaming List → F, Option → E, Nat → G
def DV.av:DV→AV
 | .sc d=> .v (.sc (.dat d))
 | .ag ds=> .v (.ag (ds.map .dat))
def Eg:G→F DV→F (G × AV)
 | _,[]=> []
 | k,d::ds=>(k,d.av)::Eg (k+1) ds
def St.init(ds:F DV):St:=⟨Eg 0 ds,[],[]⟩
def LX(rows:Rows):AC→RC→Prop
 | .dat d,.v d'=>d=d'
 | .nil,.o _ es=>es= []
 | .nil,.v d=>d= .sl []
 | .own id,.o sz es=>A1 rows id=T (sz,es)
 | _,_=>False
def PD:AC→RC→E G
 | .own id,.o _ _=>T id
 | _,_=>none
def O4(rows:Rows):F AC→F RC→Prop
 | [],[]=>True
 | c::cs,r::rs=>LX rows c r∧O4 rows cs rs
 | _,_=>False
def PF:F AC→F RC→F (E G)
 | c::cs,r::rs=>PD c r::PF cs rs
 | _,_=> []
def LY(rows:Rows):AV→R1→Prop
 | .v (.sc c),.sc r=>LX rows c r
 | .v (.ag cs),.ag rs=>O4 rows cs rs
 | _,_=>False
def PE:AV→R1→F (E G)
 | .v (.sc c),.sc r=> [PD c r]
 | .v (.ag cs),.ag rs=>PF cs rs
 | _,_=> []
inductive RV where
 | t (n:G)
 | c (a:G) (g:Bool) (n:G)
instance {n:G}:OfNat RV n:=⟨.t n⟩
def IN(σ:St):RV→AV
 | .t n=>σ.get n
 | .c a g n=>(Ca σ g n (σ.get a)).getD .undef
def OutVs(σ:St):F RV→F R1→Prop
 | [],[]=>True
 | t::ts,r::rs=>LY σ.rows (IN σ t) r∧OutVs σ ts rs
 | _,_=>False
def Cl(σ:St):F RV→F R1→F (E G)
 | t::ts,r::rs=>PE (IN σ t) r++Cl σ ts rs
 | _,_=> []
def DE:F (E G)→Bool
 | []=>true
 | none::r=>DE r
 | some i::r=> !r.contains (T i)&&DE r
def LZ(ts:F RV)(rs:F R1)(σ:St):Prop:=OutVs σ ts rs∧DE (Cl σ ts rs)=true
def CW(P:Program):F ResultVar→E (F RV)
 | []=>T []
 | .tmp t::r=>(CW P r).map (.t t:: ·)
 | .cell a t::r=>match Dh P t,CW P r with
  | some (g,n),T ts=>T (.c a g n::ts)
  | _,_=>none
def Ac(ts:F RV)(rs:F R1)(e:Xg)(σ:St):Prop:=
 match e with
 | .exit _=>False
 | .pan _=>False
 | _=>LZ ts rs σ
section
variable {P : Program}
theorem CRels.of_dat{X:Cx}:∀{ds:F D} {vs:F Value},Reps X.h ds vs→ds.length=vs.length→CRels X (ds.map .dat) vs
 | [],vs,_,hl=>by
  obtain rfl:vs= []:=List.length_eq_zero_iff.1 (by simpa using hl.symm);exact .nil
 | _::_,_,.cons a b,hl=> .cons (.dat a) (CRels.of_dat b (by simpa using hl))
theorem DVRel.vrel{X:Cx}{d:DV}{v:Value}(h:DVRel X.h d v):VRel X d.av v:=by
 cases h with
 | sc hr=>exact .v (.sc (.dat hr))
 | ag hr hl=>exact .v (.ag (CRels.of_dat hr hl))
theorem DVRels.len{h:A6}:∀{ds vs},DVRels h ds vs→ds.length=vs.length
 | _,_,.nil=>rfl
 | _,_,.cons _ b=>by simp[b.len]
theorem DVRels.get{h:A6}:∀{ds:F DV} {vs:F Value} (i:G) {d:DV} {v:Value},DVRels h ds vs→ds[i]?=T d→vs[i]?=T v→DVRel h d v
 | _,_,_,_,_,.nil,hd,_=>by simp at hd
 | _,_,0,_,_,.cons a _,hd,hv=>by simp at hd hv; subst hd hv; exact a
 | _,_,i+1,_,_,.cons _ b,hd,hv=>DVRels.get i b (by simpa using hd) (by simpa using hv)
theorem Ry:∀(ds:F DV) (k i:G),A1 (Eg k ds) i=if k≤i then(ds[i - k]?).map DV.av else none
 | [],k,i=>by simp[Eg,A1]
 | d::ds,k,i=>by
  simp only[Eg,A1];by_cases hk:k=i
  ·subst hk; simp
  ·have h':=BK hk;rw[h',cond_false,Ry ds (k+1) i];by_cases h1:k≤i
   ·rw[if_pos (by omega),if_pos h1,show i - k=(i - (k+1))+1 by omega]; simp
   ·rw[if_neg (by omega),if_neg h1]
theorem Glob.mk1{A:AY}{B:G}{w:World}{np:Ad}(h:∀b,B≤b→A b (0,0)):Glob (.of A) B (.of w np):=
 ⟨fun b hb=>hb.elim (h b) fun h=>h.elim,fun _ _ h=>h.elim,fun _ _ h=>h.elim,fun _ _ h=>h.elim,fun h=>by cases h⟩
theorem iT{w:World}{A0:AY}{ds:F DV}{vs:F Value}(nt:G)(hG:GoodW w)(h:DVRels (Af A0 w) ds vs) :
  Rel (.of fun b fr=>A0 b fr∨(w.heap.size≤b∧fr=(0,0))) w.heap.size (.of w (fun _=>none)) (fun _=>none) (St.init ds) (vs.toArray++Array.replicate (nt - vs.toArray.size) undef) w:=by
 refine⟨BelowX.start _ _ (fun _ h=>h.elim),Nat.le_refl _,Glob.mk1 fun b hb=> .inr ⟨hb,rfl⟩,fun w2 hb=>hG.below (hb.plain fun _=>rfl),fun i b h=>(by cases h),fun i j b h=>(by cases h),fun i _=>rfl,fun k=> ?_,fun id cs h=>by simp[St.init,A1] at h⟩;unfold St.get St.init;simp only;rw[Ry ds 0 k];simp only[Nat.zero_le,if_true,Nat.sub_zero];cases hd:ds[k]? with
 | none=>exact .undef
 | some d=>
  have hk:k<vs.length:=by rw[← h.len]; exact(N.1 hd).1
  have hv:vs[k]?=T (vs[k]'hk):=Q hk
  have e:(vs.toArray++Array.replicate (nt - vs.toArray.size) undef).getD k undef=vs[k]'hk:=by
   rw[Array.getD_eq_getD_getElem?,Array.getElem?_append_left (by simpa using hk)];simp[hk]
  rw[e];have hr:=(h.get k hd hv);have hh:DVRel (Ab (fun b fr=>A0 b fr∨(w.heap.size≤b∧fr=(0,0))) (fun _=>none) w) d (vs[k]'hk):=hr.mono fun b C ⟨c,t,fr,h0,h1,h2⟩=>⟨fun _=>by simp,c,t,fr,.inl h0,h1,h2⟩
  exact DVRel.vrel (X:=cx (.of fun b fr=>A0 b fr∨(w.heap.size≤b∧fr=(0,0))) (fun _=>none) (St.init ds) w) hh
section
variable {A : Ar} {nm : Ad} {σ : St} {w : World} {h' : A6}
def AZ(nm:Ad)(o:E G):E G:=o.bind fun id=>nm (2*id+1)
theorem U2(hh:∀b C,Ab A nm w b C→h' b C){c:AC}{r:RC}{v:Value}(H:CRel (cx A nm σ w) c v)(ho:LX σ.rows c r):RCRel h' w r v (AZ nm (PD c r)):=by
 cases c<;>cases r<;>simp only[LX] at ho<;>try exact ho.elim
 case dat.v d d'=>
  subst ho;cases H with | dat hr=>exact .v (hr.mono hh)
 case nil.v d=>
  subst ho;cases H;exact .v .nil
 case nil.o sz es=>
  subst ho;cases H;exact .nil
 case own.o id sz es=>
  cases H with
  | ownNil h1 h2=>
   have:=(Option.some.inj (h1.symm.trans ho));cases this;show RCRel h' w (.o _ []) _ (nm (2*id+1))
   rw[show nm (2*id+1)=none from h2];exact .nil
  | own h1 h2 h3 h4=>
   have:=(Option.some.inj (h1.symm.trans ho));cases this;show RCRel h' w (.o _ _) _ (nm (2*id+1))
   rw[show nm (2*id+1)=T _ from h2];exact .o (h3.move hh rfl) h4
  | ownDead h1 _=>exact absurd (h1.symm.trans ho) (by simp)
theorem U3(hh:∀b C,Ab A nm w b C→h' b C):∀{cs:F AC} {rs:F RC} {vs:F Value},CRels (cx A nm σ w) cs vs→O4 σ.rows cs rs→RCRels h' w rs vs ((PF cs rs).map (AZ nm))
 | [],[],_,.nil,_=> .nil
 | [],_::_,_,_,h=>h.elim
 | _::_,[],_,_,h=>h.elim
 | _::_,_::_,_,.cons a b,h=> .cons (U2 hh a h.1) (U3 hh b h.2)
theorem U4(hh:∀b C,Ab A nm w b C→h' b C){av:AV}{r:R1}{v:Value}(H:VRel (cx A nm σ w) av v)(ho:LY σ.rows av r):R1Rel h' w r v ((PE av r).map (AZ nm)):=by
 cases H with
 | undef=>cases r<;>exact ho.elim
 | no=>cases r<;>exact ho.elim
 | tup=>cases r<;>exact ho.elim
 | ev=>cases r<;>exact ho.elim
 | v hx=>
  cases hx with
  | sc hc=>
   cases r with
   | sc r=>exact .sc (U2 hh hc ho)
   | ag rs=>exact ho.elim
  | ag hcs=>
   cases r with
   | sc r=>exact ho.elim
   | ag rs=>exact .ag (U3 hh hcs ho)
theorem Fx{P:Program}{B:G}{w0:Base}{act:Act}(R:Rel A B w0 nm σ act.tmps w)(hh:∀b C,Ab A nm w b C→h' b C){f:ResultVar→Sem Value}(hf:∀t,f (.tmp t)=pure (act.tmps.getD t undef))
  (hg:∀a t,f (.cell a t)=(do loadVar t (← asAddr (act.tmps.getD a undef)))):∀{vars:F ResultVar} {ts:F RV} {rs:F R1},CW P vars=T ts→OutVs σ ts rs→
  ∃vs:F Value,(vars.mapM f).run P w= .ok vs w∧vs.length=ts.length∧R1Rels h' w rs vs ((Cl σ ts rs).map (AZ nm))
 | [],ts,rs,hc,ho=>by
  simp[CW] at hc
  subst hc;cases rs with
  | nil=>exact⟨[],by simp,rfl,.nil⟩
  | cons=>exact ho.elim
 | .tmp t::r,ts,rs,hc,ho=>by
  simp only[CW,Option.map_eq_some_iff] at hc
  obtain⟨ts',h1,rfl⟩:=hc;cases rs with
  | nil=>exact ho.elim
  | cons r1 rs=>
   obtain⟨vs,h2,h3,h4⟩:=Fx R hh hf hg h1 ho.2;refine⟨act.tmps.getD t undef::vs,?_,by simp[h3],?_⟩
   ·simp only[List.mapM_cons,hf,Sem.run_bind,Sem.run_pure,Result.andThen_ok,h2]
   ·simp only[Cl,List.map_append];exact .cons (U4 hh (R.env t) ho.1) h4
 | .cell a t::r,ts,rs,hc,ho=>by
  simp only[CW] at hc
  split at hc
  ·rename_i g n ts' h0 h1
   cases hc;cases rs with
   | nil=>exact ho.elim
   | cons r1 rs=>
    obtain⟨vs,h2,h3,h4⟩:=Fx R hh hf hg h1 ho.2;have ho1:LY σ.rows ((Ca σ g n (σ.get a)).getD .undef) r1:=ho.1;cases hl:Ca σ g n (σ.get a) with
    | none=>rw[hl] at ho1; cases r1<;>exact ho1.elim
    | some av=>
     rw[hl] at ho1
     obtain⟨v,hv,hrel⟩:=TE (P:=P) R h0 (R.env a) hl
     have hv2:(f (.cell a t)).run P w= .ok v w:=by
      rw[hg];unfold Instr.loadAt Instr.sureAddr at hv
      unfold asAddr;revert hv
      cases act.tmps.getD a undef with
      | pointer p=>cases p<;>simp
      | _=>simp
     refine⟨v::vs,?_,by simp[h3],?_⟩
     ·simp only[List.mapM_cons,Sem.run_bind,hv2,Sem.run_pure,Result.andThen_ok,h2]
     ·simp only[Cl,IN,hl,Option.getD_some,List.map_append];exact .cons (U4 hh hrel ho1) h4
  ·cases hc
end
theorem NC:∀{l:F (E G)},DE l=true→∀(i j id:G),l[i]?=T (T id)→l[j]?=T (T id)→i=j
 | [],_,i,_,_,h1,_=>by simp at h1
 | x::r,h,0,0,_,_,_=>rfl
 | x::r,h,i+1,j+1,id,h1,h2=>by
  have hr:DE r=true:=by
   cases x with
   | none=>exact h
   | some y=>simp only[DE,U] at h; exact h.2
  have:=NC hr i j id (by simpa using h1) (by simpa using h2);omega
 | x::r,h,0,j+1,id,h1,h2=>by
  simp at h1 h2
  subst h1;simp only[DE,U,Bool.not_eq_true',List.contains_eq_mem,decide_eq_false_iff_not] at h;exact absurd (L h2) h.1
 | x::r,h,i+1,0,id,h1,h2=>by
  simp at h1 h2
  subst h2;simp only[DE,U,Bool.not_eq_true',List.contains_eq_mem,decide_eq_false_iff_not] at h;exact absurd (L h1) h.1
theorem OutVs.len{σ:St}:∀{ts:F RV} {rs:F R1},OutVs σ ts rs→rs.length=ts.length
 | [],[],_=>rfl
 | [],_::_,h=>h.elim
 | _::_,[],h=>h.elim
 | _::_,_::_,h=>by simp[OutVs.len h.2]
theorem Wr(hm:P.follows .mixedOrders=true){f:FuncId}{fn:Func}{C:Code}{c:Xd}{ts:F RV}{ds:F DV}{rs:F R1}(hf:P.funcs[f]?=T fn)(hb:fn.body=T C)(hc:B0 P fn.ntmps C=T c.strip)
  (hr:CW P fn.results.toList=T ts) (hl:ds.length≤fn.ntmps) (h:AT P c (Ac ts rs) (St.init ds)):FC P f ds rs:=by
 intro w A0 vs hG hvs;refine calls_of_wp hf hb ?_;have hlen:=hvs.len;refine wp_mono (FN (df:= []) hm c C _ (fun _=>none) (St.init ds) _ w hc h (iT fn.ntmps hG hvs) (by simp; omega) rfl) fun e a w' hp=> ?_
 obtain⟨e',nm,σ,he,hq,R,hnt,hdf⟩:=hp
 have key:LZ ts rs σ→a.defers= []∧∃v,(results fn a.tmps).run P w'= .ok v w'∧∃(v':Value) (bs:F (E G)),Ending.returned v= .returned v'∧RowKit.Below w.heap.size w w'∧
   RRel (Af (fun b fr=>T b∉bs∧((w.heap.size≤b∧fr=(0,0))∨A0 b fr)) w') w' rs v' bs∧(∀b,T b∈bs→w.heap.size≤b∧b<w'.heap.size)∧(∀(i j b:G),bs[i]?=T (T b)→bs[j]?=T (T b)→i=j):=by
  rintro⟨ho,hnd⟩
  let ids:=Cl σ ts rs
  have hbs:∀b,T b∈ids.map (AZ nm)→∃id,T id∈ids∧nm (2*id+1)=T b:=by
   intro b hb;obtain⟨o,ho,hb⟩:=List.mem_map.1 hb;cases o with
   | none=>simp[AZ] at hb
   | some id=>exact⟨id,ho,hb⟩
  have hview:∀b C,Ab (fun b fr=>A0 b fr∨(w.heap.size≤b∧fr=(0,0))) nm w' b C→Af (fun b fr=>T b∉ids.map (AZ nm)∧((w.heap.size≤b∧fr=(0,0))∨A0 b fr)) w' b C:=by
   rintro b C ⟨h1,c,t,fr,h2,h3⟩
   refine⟨c,t,fr,⟨fun hb=> ?_,h2.symm⟩,h3⟩;obtain⟨id,_,hn⟩:=hbs b hb;exact h1 _ hn
  obtain⟨vs',hrun,hvl,hrel⟩:=Fx (P:=P) (f:=fun | .tmp t=>pure (a.tmps.getD t undef) | .cell c t=>do loadVar t (← asAddr (a.tmps.getD c undef))) R hview (fun _=>rfl) (fun _ _=>rfl) hr ho;refine⟨hdf,(if h:vs'.length=1 then vs'[0] else .tuple vs'.toArray),?_,_,ids.map (AZ nm),rfl,R.below.plain (fun _=>rfl),?_,fun b hb=> ?_,fun i j b hi hj=> ?_⟩
  ·unfold results;rw[← Array.toArray_toList (xs:=fn.results)];simp only[List.mapM_toArray,Sem.run_bind,map_eq_pure_bind];erw [hrun]
   simp only[Result.andThen_ok,Sem.run_pure];simp
  ·split
   ·rename_i h1
    obtain⟨v1,rfl⟩:=O.1 h1;have hrl:rs.length=1:=by rw[ho.len,← hvl]; exact h1
    obtain⟨r,rfl⟩:=O.1 hrl;revert hrel
    show R1Rels _ _ [r] [v1] (ids.map (AZ nm))→_
    generalize ids.map (AZ nm)=bs
    intro hrel;cases hrel with
    | cons h1 h2=>
     cases h2;simp only[List.append_nil] at h1 ⊢
     exact .one h1
   ·rename_i h1
    refine .many ?_ hrel;rw[ho.len,← hvl];exact h1
  ·obtain⟨id,_,hn⟩:=hbs b hb;obtain⟨k1,k2⟩:=R.names _ _ hn;refine⟨k1.resolve_right ?_,k2⟩;intro hmm;obtain⟨i,_,hi⟩:=Base.of_M hmm;cases hi
  ·simp only[List.getElem?_map,Option.map_eq_some_iff] at hi hj
   obtain⟨x,hx,hxb⟩:=hi;obtain⟨y,hy,hyb⟩:=hj;cases x with
   | none=>simp[AZ] at hxb
   | some x=>
    cases y with
    | none=>simp[AZ] at hyb
    | some y=>
     have:=R.inj _ _ _ hxb hyb;have e:x=y:=by omega
     subst e;exact NC hnd i j x hx hy
 cases e' with
 | normal=>obtain rfl:e= .normal:=he; exact key hq
 | ret=>obtain rfl:e= .ret:=he; exact key hq
 | exit id=>exact hq.elim
 | pan d=>exact hq.elim
end
def XC.ac:XC→AC
 | .d x=> .dat x
 | .r j=> .own (99999999999+j)
def XV.av:XV→AV
 | .sc c=> .v (.sc c.ac)
 | .ag cs=> .v (.ag (cs.map XC.ac))
def Iz:G→F XV→F (G × AV)
 | _,[]=> []
 | k,x::xs=>(k,x.av)::Iz (k+1) xs
def LA:G→Ai→Rows
 | _,[]=> []
 | k,r::R=>(99999999999+k,r)::LA (k+1) R
def St.initX(xs:F XV)(R0:Ai):St:=⟨Iz 0 xs,[],LA 0 R0⟩
theorem RB:∀(xs:F XV) (k i:G),A1 (Iz k xs) i=if k≤i then(xs[i - k]?).map XV.av else none
 | [],k,i=>by simp[Iz,A1]
 | x::xs,k,i=>by
  simp only[Iz,A1];by_cases hk:k=i
  ·subst hk; simp
  ·have h':=BK hk;rw[h',cond_false,RB xs (k+1) i];by_cases h1:k≤i
   ·rw[if_pos (by omega),if_pos h1,show i - k=(i - (k+1))+1 by omega]; simp
   ·rw[if_neg (by omega),if_neg h1]
theorem RI:∀(R:Ai) (k j:G),k≤j→A1 (LA k R) (99999999999+j)=R[j - k]?
 | [],k,j,_=>by simp[LA,A1]
 | r::R,k,j,h=>by
  simp only[LA,A1];by_cases hk:k=j
  ·subst hk; simp
  ·have h':(99999999999+k==99999999999+j)=false:=by simpa using hk
   rw[h',cond_false,RI R (k+1) j (by omega),show j - k=(j - (k+1))+1 by omega]; simp
def RowsOut(σ:St):G→Ai→F (G × G)→Prop
 | j,row::R,(k,p)::ps=>((∃x,σ.get k= .v x∧x.cells[p]?=T (.own (99999999999+j)))∧A1 σ.rows (99999999999+j)=T row)∧RowsOut σ (j+1) R ps
 | _,[],[]=>True
 | _,_,_=>False
theorem RowsOut.there{σ:St}:∀{R:Ai} {ps:F (G × G)} {k j:G},RowsOut σ k R ps→j<R.length→∃(row:G × F (F D)) (l p:G) (x:V1),R[j]?=T row∧σ.get l= .v x∧x.cells[p]?=T (AC.own (99999999999+(k+j)))∧A1 σ.rows (99999999999+(k+j))=T row
 | [],ps,_,j,_,h=>by simp at h
 | row::R,[],_,_,h,_=>h.elim
 | row::R,(l,p)::ps,k,j,h,hj=>by
  obtain⟨⟨⟨x,h1,h2⟩,h3⟩,h4⟩:=h;cases j with
  | zero=>exact⟨row,l,p,x,by simp,h1,h2,h3⟩
  | succ j=>
   obtain⟨row',l',p',x',k1,k2,k3,k4⟩:=RowsOut.there (j:=j) h4 (by simpa using hj);exact⟨row',l',p',x',by simpa using k1,k2,by rw[show k+(j+1)=k+1+j by omega]; exact k3,by rw[show k+(j+1)=k+1+j by omega]; exact k4⟩
def Ch(ts:F RV)(r:D)(R1:Ai)(ps:F (G × G))(e:Xg)(σ:St):Prop:=
 match e with
 | .exit _=>False
 | .pan _=>False
 | _=>OutVs σ ts [.sc (.v r)]∧RowsOut σ 0 R1 ps
section
variable {P : Program}
theorem Xk.get{w:World}{bs:F (E G)}{R:Ai}:∀{xs:F XV} {vs:F Value} (i:G) {x:XV} {v:Value},Xk w bs R xs vs→xs[i]?=T x→vs[i]?=T v→Xn w bs R x v
 | _,_,_,_,_,.nil,hd,_=>by simp at hd
 | _,_,0,_,_,.cons a _,hd,hv=>by simp at hd hv; subst hd hv; exact a
 | _,_,i+1,_,_,.cons _ b,hd,hv=>Xk.get i b (by simpa using hd) (by simpa using hv)
theorem Xm.crel{w:World}{bs:F (E G)}{R0:Ai}{xs:F XV}{c:XC}{v:Value}(H:Xm w bs R0 c v):CRel (cx (.of fun _ _=>True) (B5 bs) (St.initX xs R0) w) c.ac v:=by
 have hf:∀j,A1 (St.initX xs R0).rows (99999999999+j)=R0[j]?:=fun j=>RI R0 0 j (Nat.zero_le _)
 have hn:∀(j:G) (o:E G),bs[j]?=T o→B5 bs (2*(99999999999+j)+1)=o:=fun j o h=>by
  have:=IL h;rwa [show Av+2*j+1=2*(99999999999+j)+1 by unfold Av; omega] at this
 cases H with
 | d h=>exact .dat (h.mono Ep)
 | @nil j sz a0 h1 h2=>exact .ownNil ((hf j).trans h1) (hn j _ h2)
 | @r j sz es b cap len h1 h2 h3 h4=>exact .own ((hf j).trans h1) (hn j _ h2) h3.any h4
theorem Xl.crels{w:World}{bs:F (E G)}{R0:Ai}{xs:F XV}:∀{cs:F XC} {vs:F Value},Xl w bs R0 cs vs→CRels (cx (.of fun _ _=>True) (B5 bs) (St.initX xs R0) w) (cs.map XC.ac) vs
 | _,_,.nil=> .nil
 | _,_,.cons a b=> .cons a.crel b.crels
theorem Xn.vrel{w:World}{bs:F (E G)}{R0:Ai}{xs:F XV}{x:XV}{v:Value}(H:Xn w bs R0 x v):VRel (cx (.of fun _ _=>True) (B5 bs) (St.initX xs R0) w) x.av v:=by
 cases H with
 | sc h=>exact .v (.sc h.crel)
 | ag h=>exact .v (.ag h.crels)
theorem iP{w:World}{bs:F (E G)}{xs:F XV}{R0:Ai}{vs:F Value}(nt:G)(hinj:∀(i j b:G),bs[i]?=T (T b)→bs[j]?=T (T b)→i=j)(hlt:∀b,T b∈bs→b<w.heap.size)
  (hG:∀w2,BelowX w.heap.size (.of w (B5 bs)) w2→GoodW w2) (h:Xk w bs R0 xs vs) :
  Rel (.of fun _ _=>True) w.heap.size (.of w (B5 bs)) (B5 bs) (St.initX xs R0) (vs.toArray++Array.replicate (nt - vs.toArray.size) undef) w:=by
 refine⟨BelowX.start _ _ (fun _ h=>h.elim),Nat.le_refl _,Glob.mk1 fun _ _=>trivial,hG,fun i b hi=> ?_,fun i j b hi hj=> ?_,fun i _=>rfl,fun k=> ?_,fun id cs h=>by simp[St.initX,A1] at h⟩
 ·obtain⟨j,h1,h2⟩:=Fw hi;exact⟨.inr (.inl ⟨i,by omega,hi⟩),hlt b (L h2)⟩
 ·obtain⟨x,h1,h2⟩:=Fw hi;obtain⟨y,h3,h4⟩:=Fw hj;have:=hinj x y b h2 h4;omega
 ·unfold St.get;rw[show(St.initX xs R0).env=Iz 0 xs from rfl,RB xs 0 k];simp only[Nat.zero_le,if_true,Nat.sub_zero];cases hd:xs[k]? with
  | none=>exact .undef
  | some x=>
   have hk:k<vs.length:=by rw[← h.len]; exact(N.1 hd).1
   have hv:vs[k]?=T (vs[k]'hk):=Q hk
   have e:(vs.toArray++Array.replicate (nt - vs.toArray.size) undef).getD k undef=vs[k]'hk:=by
    rw[Array.getD_eq_getD_getElem?,Array.getElem?_append_left (by simpa using hk)];simp[hk]
   rw[e];exact(Xk.get k h hd hv).vrel
theorem WC(hm:P.follows .mixedOrders=true){f:FuncId}{fn:Func}{C:Code}{c:Xd}{ts:F RV}{xs:F XV}{R0 R1:Ai}{r:D}{ps:F (G × G)}(hf:P.funcs[f]?=T fn)(hb:fn.body=T C)(hc:B0 P fn.ntmps C=T c.strip)
  (hr:CW P fn.results.toList=T ts) (hl:xs.length≤fn.ntmps) (hlen:R1.length=R0.length) (hrf:r.flat=true) (hR1:CM R1) (h:AT P c (Ch ts r R1 ps) (St.initX xs R0)):FCx P f xs R0 R1 r:=by
 intro w vs bs hbl hinj hlt hG hvs;refine calls_of_wp hf hb ?_;have hlv:=hvs.len;refine wp_mono (FN (df:= []) hm c C _ (B5 bs) (St.initX xs R0) _ w hc h (iP fn.ntmps hinj hlt hG hvs) (by simp; omega) rfl) fun e a w' hp=> ?_
 obtain⟨e',nm,σ,he,hq,R,hnt,hdf⟩:=hp
 have key:OutVs σ ts [.sc (.v r)]∧RowsOut σ 0 R1 ps→a.defers= []∧∃v,(results fn a.tmps).run P w'= .ok v w'∧∃v':Value,Ending.returned v= .returned v'∧BelowX w.heap.size (.of w (B5 bs)) w'∧Rep Bu r v'∧
   ∀(j b:G),bs[j]?=T (T b)→∃sz es cap,R1[j]?=T (sz,es)∧OwnB Bu w' b sz cap es:=by
  rintro⟨ho,hro⟩
  obtain⟨vs',hrun,hvl,hrel⟩:=Fx (P:=P) (h':=Ab (fun _ _=>True) nm w') (f:=fun | .tmp t=>pure (a.tmps.getD t undef) | .cell c t=>do loadVar t (← asAddr (a.tmps.getD c undef))) R (fun _ _ h=>h) (fun _=>rfl) (fun _ _=>rfl) hr ho;have h1:vs'.length=1:=by rw[hvl,← ho.len]; rfl
  obtain⟨v1,rfl⟩:=O.1 h1
  have hv1:Rep Bu r v1:=by
   generalize List.map (AZ nm) _=q at hrel
   cases hrel with | cons a b=>
   cases a with | sc a=>
   cases a with | v a=>exact a.flat hrf
  refine⟨hdf,v1,?_,v1,rfl,R.below,hv1,fun j b hj=> ?_⟩
  ·unfold results;rw[← Array.toArray_toList (xs:=fn.results)];simp only[List.mapM_toArray,Sem.run_bind,map_eq_pure_bind];erw [hrun]
   simp only[Result.andThen_ok,Sem.run_pure];simp
  ·have hjl:j<R1.length:=by rw[hlen,← hbl]; exact(N.1 hj).1
   obtain⟨row,l,p,x,k1,k2,k3,k4⟩:=hro.there hjl;obtain⟨sz,es⟩:=row;rw[Nat.zero_add] at k3 k4
   have hv:=R.env l;rw[k2] at hv
   have hy:V1Rel (cx (.of fun _ _=>True) nm σ w') x (a.tmps.getD l undef):=by cases hv with | v H=>exact H
   obtain⟨v,_,hcr⟩:=hy.cells.get k3
   have hpin:nm (2*(99999999999+j)+1)=T b:=by
    have e:Av+2*j+1=2*(99999999999+j)+1:=by unfold Av; omega
    rw[← e,R.pin _ (by omega)];exact IL hj
   rcases hcr.inv_own k4 with ⟨_,k5,_⟩|⟨b',cap,k5,k6,_⟩
   ·rw[show(cx (.of fun _ _=>True) nm σ w').nm=nm from rfl,hpin] at k5; cases k5
   ·rw[show(cx (.of fun _ _=>True) nm σ w').nm=nm from rfl,hpin] at k5
    cases k5;exact⟨sz,es,cap,k1,RM k6 fun e he d hd=>hR1 _ (L k1) e he d hd⟩
 cases e' with
 | normal=>obtain rfl:e= .normal:=he; exact key hq
 | ret=>obtain rfl:e= .ret:=he; exact key hq
 | exit id=>exact hq.elim
 | pan d=>exact hq.elim
end
end Go.Vi
