/-
The value level. No condition.
-/
import Derived.Test.YtfmhammmkkbonaaGreatDoorCVi23
namespace Go.Vi
set_option linter.all false
open Bool renaming and_eq_true → L
open Option renaming some → T
open _root_ renaming List → F, Option → E, Nat → G
def DV.av:DV→AV
 | .sc d=> .v (.sc (.dat d))
 | .ag ds=> .v (.ag (ds.map .dat))
def FE:G→F DV→F (G × AV)
 | _,[]=> []
 | k,d::ds=>(k,d.av)::FE (k+1) ds
def St.init(ds:F DV):St:=⟨FE 0 ds,[],[]⟩
def Np(rows:Rows):AC→RC→Prop
 | .dat d,.v d'=>d=d'
 | .nil,.o _ es=>es= []
 | .nil,.v d=>d= .sl []
 | .own id,.o sz es=>A1 rows id=T (sz,es)
 | _,_=>False
def RS:AC→RC→E G
 | .own id,.o _ _=>T id
 | _,_=>none
def PY(rows:Rows):F AC→F RC→Prop
 | [],[]=>True
 | c::cs,r::rs=>Np rows c r∧PY rows cs rs
 | _,_=>False
def RW:F AC→F RC→F (E G)
 | c::cs,r::rs=>RS c r::RW cs rs
 | _,_=> []
def Nq(rows:Rows):AV→R1→Prop
 | .v (.sc c),.sc r=>Np rows c r
 | .v (.ag cs),.ag rs=>PY rows cs rs
 | _,_=>False
def RU:AV→R1→F (E G)
 | .v (.sc c),.sc r=> [RS c r]
 | .v (.ag cs),.ag rs=>RW cs rs
 | _,_=> []
inductive RV where
 | t (n:G)
 | c (a:G) (g:Bool) (n:G)
instance {n:G}:OfNat RV n:=⟨.t n⟩
def Ke(σ:St):RV→AV
 | .t n=>σ.get n
 | .c a g n=>(Cq σ g n (σ.get a)).getD .undef
def OutVs(σ:St):F RV→F R1→Prop
 | [],[]=>True
 | t::ts,r::rs=>Nq σ.rows (Ke σ t) r∧OutVs σ ts rs
 | _,_=>False
def Dz(σ:St):F RV→F R1→F (E G)
 | t::ts,r::rs=>RU (Ke σ t) r++Dz σ ts rs
 | _,_=> []
def ER:F (E G)→Bool
 | []=>true
 | none::r=>ER r
 | some i::r=> !r.contains (T i)&&ER r
def Nr(ts:F RV)(rs:F R1)(σ:St):Prop:=OutVs σ ts rs∧ER (Dz σ ts rs)=true
def DD(P:Program):F ResultVar→E (F RV)
 | []=>T []
 | .tmp t::r=>(DD P r).map (.t t:: ·)
 | .cell a t::r=>match En P t,DD P r with
  | some (g,n),T ts=>T (.c a g n::ts)
  | _,_=>none
def A6(ts:F RV)(rs:F R1)(e:Xn)(σ:St):Prop:=
 match e with
 | .exit _=>False
 | .pan _=>False
 | _=>Nr ts rs σ
section
variable {P : Program}
theorem CRels.of_dat{X:Cx}:∀{ds:F D} {vs:F Value},Reps X.h ds vs→ds.length=vs.length→CRels X (ds.map .dat) vs
 | [],vs,_,hl=>by
  obtain rfl:vs= []:=List.length_eq_zero_iff.1 (by simpa using hl.symm);exact .nil
 | _::_,_,.cons a b,hl=> .cons (.dat a) (CRels.of_dat b (by simpa using hl))
theorem DVRel.vrel{X:Cx}{d:DV}{v:Value}(h:DVRel X.h d v):VRel X d.av v:=by
 cases h with
 | sc hr=>exact .v (.sc (.dat hr))
 | ag hr hl=>exact .v (.ag (CRels.of_dat hr hl))
theorem DVRels.len{h:A3}:∀{ds vs},DVRels h ds vs→ds.length=vs.length
 | _,_,.nil=>rfl
 | _,_,.cons _ b=>by simp[b.len]
theorem DVRels.get{h:A3}:∀{ds:F DV} {vs:F Value} (i:G) {d:DV} {v:Value},DVRels h ds vs→ds[i]?=T d→vs[i]?=T v→DVRel h d v
 | _,_,_,_,_,.nil,hd,_=>by simp at hd
 | _,_,0,_,_,.cons a _,hd,hv=>by simp at hd hv; subst hd hv; exact a
 | _,_,i+1,_,_,.cons _ b,hd,hv=>DVRels.get i b (by simpa using hd) (by simpa using hv)
theorem Un:∀(ds:F DV) (k i:G),A1 (FE k ds) i=if k≤i then(ds[i - k]?).map DV.av else none
 | [],k,i=>by simp[FE,A1]
 | d::ds,k,i=>by
  simp only[FE,A1];by_cases hk:k=i
  ·subst hk; simp
  ·have h':=C4 hk;rw[h',cond_false,Un ds (k+1) i];by_cases h1:k≤i
   ·rw[if_pos (by omega),if_pos h1,show i - k=(i - (k+1))+1 by omega]; simp
   ·rw[if_neg (by omega),if_neg h1]
theorem Glob.mk1{A:B5}{B:G}{w:World}{np:Ab}(h:∀b,B≤b→A b (0,0)):Glob (.of A) B (.of w np):=
 ⟨fun b hb=>hb.elim (h b) fun h=>h.elim,fun _ _ h=>h.elim,fun _ _ h=>h.elim,fun _ _ h=>h.elim,fun h=>by cases h⟩
theorem VP{w:World}{A0:B5}{ds:F DV}{vs:F Value}(nt:G)(hG:GoodW w)(h:DVRels (Al A0 w) ds vs) :
  Rel (.of fun b fr=>A0 b fr∨(w.heap.size≤b∧fr=(0,0))) w.heap.size (.of w (fun _=>none)) (fun _=>none) (St.init ds) (vs.toArray++Array.replicate (nt - vs.toArray.size) undef) w:=by
 refine⟨BelowX.start _ _ (fun _ h=>h.elim),Nat.le_refl _,Glob.mk1 fun b hb=> .inr ⟨hb,rfl⟩,fun w2 hb=>hG.below (hb.plain fun _=>rfl),fun i b h=>(by cases h),fun i j b h=>(by cases h),fun i _=>rfl,fun k=> ?_,fun id cs h=>by simp[St.init,A1] at h⟩;unfold St.get St.init;simp only;rw[Un ds 0 k];simp only[Nat.zero_le,if_true,Nat.sub_zero];cases hd:ds[k]? with
 | none=>exact .undef
 | some d=>
  have hk:k<vs.length:=by rw[← h.len]; exact(List.getElem?_eq_some_iff.1 hd).1
  have hv:vs[k]?=T (vs[k]'hk):=List.getElem?_eq_getElem hk
  have e:(vs.toArray++Array.replicate (nt - vs.toArray.size) undef).getD k undef=vs[k]'hk:=by
   rw[Array.getD_eq_getD_getElem?,Array.getElem?_append_left (by simpa using hk)];simp[hk]
  rw[e];have hr:=(h.get k hd hv);have hh:DVRel (Ad (fun b fr=>A0 b fr∨(w.heap.size≤b∧fr=(0,0))) (fun _=>none) w) d (vs[k]'hk):=hr.mono fun b C ⟨c,t,fr,h0,h1,h2⟩=>⟨fun _=>by simp,c,t,fr,.inl h0,h1,h2⟩
  exact DVRel.vrel (X:=cx (.of fun b fr=>A0 b fr∨(w.heap.size≤b∧fr=(0,0))) (fun _=>none) (St.init ds) w) hh
section
variable {A : Ar} {nm : Ab} {σ : St} {w : World} {h' : A3}
def BN(nm:Ab)(o:E G):E G:=o.bind fun id=>nm (2*id+1)
theorem WH(hh:∀b C,Ad A nm w b C→h' b C){c:AC}{r:RC}{v:Value}(H:CRel (cx A nm σ w) c v)(ho:Np σ.rows c r):RCRel h' w r v (BN nm (RS c r)):=by
 cases c<;>cases r<;>simp only[Np] at ho<;>try exact ho.elim
 case dat.v d d'=>
  subst ho;cases H with | dat hr=>exact .v (hr.mono hh)
 case nil.v d=>
  subst ho;cases H;exact .v .nil
 case nil.o sz es=>
  subst ho;cases H;exact .nil
 case own.o id sz es=>
  cases H with
  | ownNil h1 h2=>
   have:=(Option.some.inj (h1.symm.trans ho));cases this;show RCRel h' w (.o _ []) _ (nm (2*id+1))
   rw[show nm (2*id+1)=none from h2];exact .nil
  | own h1 h2 h3 h4=>
   have:=(Option.some.inj (h1.symm.trans ho));cases this;show RCRel h' w (.o _ _) _ (nm (2*id+1))
   rw[show nm (2*id+1)=T _ from h2];exact .o (h3.move hh rfl) h4
  | ownDead h1 _=>exact absurd (h1.symm.trans ho) (by simp)
theorem WI(hh:∀b C,Ad A nm w b C→h' b C):∀{cs:F AC} {rs:F RC} {vs:F Value},CRels (cx A nm σ w) cs vs→PY σ.rows cs rs→RCRels h' w rs vs ((RW cs rs).map (BN nm))
 | [],[],_,.nil,_=> .nil
 | [],_::_,_,_,h=>h.elim
 | _::_,[],_,_,h=>h.elim
 | _::_,_::_,_,.cons a b,h=> .cons (WH hh a h.1) (WI hh b h.2)
theorem WJ(hh:∀b C,Ad A nm w b C→h' b C){av:AV}{r:R1}{v:Value}(H:VRel (cx A nm σ w) av v)(ho:Nq σ.rows av r):R1Rel h' w r v ((RU av r).map (BN nm)):=by
 cases H with
 | undef=>cases r<;>exact ho.elim
 | no=>cases r<;>exact ho.elim
 | tup=>cases r<;>exact ho.elim
 | v hx=>
  cases hx with
  | sc hc=>
   cases r with
   | sc r=>exact .sc (WH hh hc ho)
   | ag rs=>exact ho.elim
  | ag hcs=>
   cases r with
   | sc r=>exact ho.elim
   | ag rs=>exact .ag (WI hh hcs ho)
theorem Kf{P:Program}{B:G}{w0:Base}{act:Act}(R:Rel A B w0 nm σ act.tmps w)(hh:∀b C,Ad A nm w b C→h' b C){f:ResultVar→Sem Value}(hf:∀t,f (.tmp t)=pure (act.tmps.getD t undef))
  (hg:∀a t,f (.cell a t)=(do loadVar t (← asAddr (act.tmps.getD a undef)))):∀{vars:F ResultVar} {ts:F RV} {rs:F R1},DD P vars=T ts→OutVs σ ts rs→
  ∃vs:F Value,(vars.mapM f).run P w= .ok vs w∧vs.length=ts.length∧R1Rels h' w rs vs ((Dz σ ts rs).map (BN nm))
 | [],ts,rs,hc,ho=>by
  simp[DD] at hc
  subst hc;cases rs with
  | nil=>exact⟨[],by simp,rfl,.nil⟩
  | cons=>exact ho.elim
 | .tmp t::r,ts,rs,hc,ho=>by
  simp only[DD,Option.map_eq_some_iff] at hc
  obtain⟨ts',h1,rfl⟩:=hc;cases rs with
  | nil=>exact ho.elim
  | cons r1 rs=>
   obtain⟨vs,h2,h3,h4⟩:=Kf R hh hf hg h1 ho.2;refine⟨act.tmps.getD t undef::vs,?_,by simp[h3],?_⟩
   ·simp only[List.mapM_cons,hf,Sem.run_bind,Sem.run_pure,Result.andThen_ok,h2]
   ·simp only[Dz,List.map_append];exact .cons (WJ hh (R.env t) ho.1) h4
 | .cell a t::r,ts,rs,hc,ho=>by
  simp only[DD] at hc
  split at hc
  ·rename_i g n ts' h0 h1
   cases hc;cases rs with
   | nil=>exact ho.elim
   | cons r1 rs=>
    obtain⟨vs,h2,h3,h4⟩:=Kf R hh hf hg h1 ho.2;have ho1:Nq σ.rows ((Cq σ g n (σ.get a)).getD .undef) r1:=ho.1;cases hl:Cq σ g n (σ.get a) with
    | none=>rw[hl] at ho1; cases r1<;>exact ho1.elim
    | some av=>
     rw[hl] at ho1
     obtain⟨v,hv,hrel⟩:=Wm (P:=P) R h0 (R.env a) hl
     have hv2:(f (.cell a t)).run P w= .ok v w:=by
      rw[hg];unfold Instr.loadAt Instr.sureAddr at hv
      unfold asAddr;revert hv
      cases act.tmps.getD a undef with
      | pointer p=>cases p<;>simp
      | _=>simp
     refine⟨v::vs,?_,by simp[h3],?_⟩
     ·simp only[List.mapM_cons,Sem.run_bind,hv2,Sem.run_pure,Result.andThen_ok,h2]
     ·simp only[Dz,Ke,hl,Option.getD_some,List.map_append];exact .cons (WJ hh hrel ho1) h4
  ·cases hc
end
theorem RJ:∀{l:F (E G)},ER l=true→∀(i j id:G),l[i]?=T (T id)→l[j]?=T (T id)→i=j
 | [],_,i,_,_,h1,_=>by simp at h1
 | x::r,h,0,0,_,_,_=>rfl
 | x::r,h,i+1,j+1,id,h1,h2=>by
  have hr:ER r=true:=by
   cases x with
   | none=>exact h
   | some y=>simp only[ER,L] at h; exact h.2
  have:=RJ hr i j id (by simpa using h1) (by simpa using h2);omega
 | x::r,h,0,j+1,id,h1,h2=>by
  simp at h1 h2
  subst h1;simp only[ER,L,Bool.not_eq_true',List.contains_eq_mem,decide_eq_false_iff_not] at h;exact absurd (List.mem_of_getElem? h2) h.1
 | x::r,h,i+1,0,id,h1,h2=>by
  simp at h1 h2
  subst h2;simp only[ER,L,Bool.not_eq_true',List.contains_eq_mem,decide_eq_false_iff_not] at h;exact absurd (List.mem_of_getElem? h1) h.1
theorem OutVs.len{σ:St}:∀{ts:F RV} {rs:F R1},OutVs σ ts rs→rs.length=ts.length
 | [],[],_=>rfl
 | [],_::_,h=>h.elim
 | _::_,[],h=>h.elim
 | _::_,_::_,h=>by simp[OutVs.len h.2]
theorem ZW(hm:P.follows .mixedOrders=true){f:FuncId}{fn:Func}{C:Code}{c:Xg}{ts:F RV}{ds:F DV}{rs:F R1}(hf:P.funcs[f]?=T fn)(hb:fn.body=T C)(hc:B7 P fn.ntmps C=T c.strip)
  (hr:DD P fn.results.toList=T ts) (hl:ds.length≤fn.ntmps) (h:B4 P c (A6 ts rs) (St.init ds)):FC P f ds rs:=by
 intro w A0 vs hG hvs;refine calls_of_wp hf hb ?_;have hlen:=hvs.len;refine wp_mono (IY (df:= []) hm c C _ (fun _=>none) (St.init ds) _ w hc h (VP fn.ntmps hG hvs) (by simp; omega) rfl) fun e a w' hp=> ?_
 obtain⟨e',nm,σ,he,hq,R,hnt,hdf⟩:=hp
 have key:Nr ts rs σ→a.defers= []∧∃v,(results fn a.tmps).run P w'= .ok v w'∧∃(v':Value) (bs:F (E G)),Ending.returned v= .returned v'∧RowKit.Below w.heap.size w w'∧
   RRel (Al (fun b fr=>T b∉bs∧((w.heap.size≤b∧fr=(0,0))∨A0 b fr)) w') w' rs v' bs∧(∀b,T b∈bs→w.heap.size≤b∧b<w'.heap.size)∧(∀(i j b:G),bs[i]?=T (T b)→bs[j]?=T (T b)→i=j):=by
  rintro⟨ho,hnd⟩
  let ids:=Dz σ ts rs
  have hbs:∀b,T b∈ids.map (BN nm)→∃id,T id∈ids∧nm (2*id+1)=T b:=by
   intro b hb;obtain⟨o,ho,hb⟩:=List.mem_map.1 hb;cases o with
   | none=>simp[BN] at hb
   | some id=>exact⟨id,ho,hb⟩
  have hview:∀b C,Ad (fun b fr=>A0 b fr∨(w.heap.size≤b∧fr=(0,0))) nm w' b C→Al (fun b fr=>T b∉ids.map (BN nm)∧((w.heap.size≤b∧fr=(0,0))∨A0 b fr)) w' b C:=by
   rintro b C ⟨h1,c,t,fr,h2,h3⟩
   refine⟨c,t,fr,⟨fun hb=> ?_,h2.symm⟩,h3⟩;obtain⟨id,_,hn⟩:=hbs b hb;exact h1 _ hn
  obtain⟨vs',hrun,hvl,hrel⟩:=Kf (P:=P) (f:=fun | .tmp t=>pure (a.tmps.getD t undef) | .cell c t=>do loadVar t (← asAddr (a.tmps.getD c undef))) R hview (fun _=>rfl) (fun _ _=>rfl) hr ho;refine⟨hdf,(if h:vs'.length=1 then vs'[0] else .tuple vs'.toArray),?_,_,ids.map (BN nm),rfl,R.below.plain (fun _=>rfl),?_,fun b hb=> ?_,fun i j b hi hj=> ?_⟩
  ·unfold results;rw[← Array.toArray_toList (xs:=fn.results)];simp only[List.mapM_toArray,Sem.run_bind,map_eq_pure_bind];erw [hrun]
   simp only[Result.andThen_ok,Sem.run_pure];simp
  ·split
   ·rename_i h1
    obtain⟨v1,rfl⟩:=List.length_eq_one_iff.1 h1;have hrl:rs.length=1:=by rw[ho.len,← hvl]; exact h1
    obtain⟨r,rfl⟩:=List.length_eq_one_iff.1 hrl;revert hrel
    show R1Rels _ _ [r] [v1] (ids.map (BN nm))→_
    generalize ids.map (BN nm)=bs
    intro hrel;cases hrel with
    | cons h1 h2=>
     cases h2;simp only[List.append_nil] at h1 ⊢
     exact .one h1
   ·rename_i h1
    refine .many ?_ hrel;rw[ho.len,← hvl];exact h1
  ·obtain⟨id,_,hn⟩:=hbs b hb;obtain⟨k1,k2⟩:=R.names _ _ hn;refine⟨k1.resolve_right ?_,k2⟩;intro hmm;obtain⟨i,_,hi⟩:=Base.of_M hmm;cases hi
  ·simp only[List.getElem?_map,Option.map_eq_some_iff] at hi hj
   obtain⟨x,hx,hxb⟩:=hi;obtain⟨y,hy,hyb⟩:=hj;cases x with
   | none=>simp[BN] at hxb
   | some x=>
    cases y with
    | none=>simp[BN] at hyb
    | some y=>
     have:=R.inj _ _ _ hxb hyb;have e:x=y:=by omega
     subst e;exact RJ hnd i j x hx hy
 cases e' with
 | normal=>obtain rfl:e= .normal:=he; exact key hq
 | ret=>obtain rfl:e= .ret:=he; exact key hq
 | exit id=>exact hq.elim
 | pan d=>exact hq.elim
end
def XC.ac:XC→AC
 | .d x=> .dat x
 | .r j=> .own (99999999999+j)
def XV.av:XV→AV
 | .sc c=> .v (.sc c.ac)
 | .ag cs=> .v (.ag (cs.map XC.ac))
def VN:G→F XV→F (G × AV)
 | _,[]=> []
 | k,x::xs=>(k,x.av)::VN (k+1) xs
def MW:G→As→Rows
 | _,[]=> []
 | k,r::R=>(99999999999+k,r)::MW (k+1) R
def St.initX(xs:F XV)(R0:As):St:=⟨VN 0 xs,[],MW 0 R0⟩
theorem Ut:∀(R:As) (k j:G),k≤j→A1 (MW k R) (99999999999+j)=R[j - k]?
 | [],k,j,_=>by simp[MW,A1]
 | r::R,k,j,h=>by
  simp only[MW,A1];by_cases hk:k=j
  ·subst hk; simp
  ·have h':(99999999999+k==99999999999+j)=false:=by simpa using hk
   rw[h',cond_false,Ut R (k+1) j (by omega),show j - k=(j - (k+1))+1 by omega]; simp
def RowsOut(σ:St):G→As→F (G × G)→Prop
 | j,row::R,(k,p)::ps=>((∃x,σ.get k= .v x∧x.cells[p]?=T (.own (99999999999+j)))∧A1 σ.rows (99999999999+j)=T row)∧RowsOut σ (j+1) R ps
 | _,[],[]=>True
 | _,_,_=>False
theorem RowsOut.there{σ:St}:∀{R:As} {ps:F (G × G)} {k j:G},RowsOut σ k R ps→j<R.length→∃(row:G × F (F D)) (l p:G) (x:V1),R[j]?=T row∧σ.get l= .v x∧x.cells[p]?=T (AC.own (99999999999+(k+j)))∧A1 σ.rows (99999999999+(k+j))=T row
 | [],ps,_,j,_,h=>by simp at h
 | row::R,[],_,_,h,_=>h.elim
 | row::R,(l,p)::ps,k,j,h,hj=>by
  obtain⟨⟨⟨x,h1,h2⟩,h3⟩,h4⟩:=h;cases j with
  | zero=>exact⟨row,l,p,x,by simp,h1,h2,h3⟩
  | succ j=>
   obtain⟨row',l',p',x',k1,k2,k3,k4⟩:=RowsOut.there (j:=j) h4 (by simpa using hj);exact⟨row',l',p',x',by simpa using k1,k2,by rw[show k+(j+1)=k+1+j by omega]; exact k3,by rw[show k+(j+1)=k+1+j by omega]; exact k4⟩
section
variable {P : Program}
theorem Xs.get{w:World}{bs:F (E G)}{R:As}:∀{xs:F XV} {vs:F Value} (i:G) {x:XV} {v:Value},Xs w bs R xs vs→xs[i]?=T x→vs[i]?=T v→Xv w bs R x v
 | _,_,_,_,_,.nil,hd,_=>by simp at hd
 | _,_,0,_,_,.cons a _,hd,hv=>by simp at hd hv; subst hd hv; exact a
 | _,_,i+1,_,_,.cons _ b,hd,hv=>Xs.get i b (by simpa using hd) (by simpa using hv)
theorem Xu.crel{w:World}{bs:F (E G)}{R0:As}{xs:F XV}{c:XC}{v:Value}(H:Xu w bs R0 c v):CRel (cx (.of fun _ _=>True) (D8 bs) (St.initX xs R0) w) c.ac v:=by
 have hf:∀j,A1 (St.initX xs R0).rows (99999999999+j)=R0[j]?:=fun j=>Ut R0 0 j (Nat.zero_le _)
 have hn:∀(j:G) (o:E G),bs[j]?=T o→D8 bs (2*(99999999999+j)+1)=o:=fun j o h=>by
  have:=WD h;rwa [show AK+2*j+1=2*(99999999999+j)+1 by unfold AK; omega] at this
 cases H with
 | d h=>exact .dat (h.mono MN)
 | @nil j sz a0 h1 h2=>exact .ownNil ((hf j).trans h1) (hn j _ h2)
 | @r j sz es b cap len h1 h2 h3 h4=>exact .own ((hf j).trans h1) (hn j _ h2) h3.any h4
theorem Xt.crels{w:World}{bs:F (E G)}{R0:As}{xs:F XV}:∀{cs:F XC} {vs:F Value},Xt w bs R0 cs vs→CRels (cx (.of fun _ _=>True) (D8 bs) (St.initX xs R0) w) (cs.map XC.ac) vs
 | _,_,.nil=> .nil
 | _,_,.cons a b=> .cons a.crel b.crels
theorem Xv.vrel{w:World}{bs:F (E G)}{R0:As}{xs:F XV}{x:XV}{v:Value}(H:Xv w bs R0 x v):VRel (cx (.of fun _ _=>True) (D8 bs) (St.initX xs R0) w) x.av v:=by
 cases H with
 | sc h=>exact .v (.sc h.crel)
 | ag h=>exact .v (.ag h.crels)
end
end Go.Vi
