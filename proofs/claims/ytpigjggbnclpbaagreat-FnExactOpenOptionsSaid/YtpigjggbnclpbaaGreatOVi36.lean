/-
The value level. No condition.
-/
import Derived.Test.YtpigjggbnclpbaaGreatOVi35
namespace Go.Vi
set_option linter.all false
open List renaming getElem?_eq_some_iff → E
open Option renaming some → T
open _root_ renaming List → F
mutual
theorem Rep.toS{h:A6}:∀{d v},Rep h d v→RepS h d v
 | _,_,.int a b=> .int a b
 | _,_,.bool=> .bool
 | _,_,.str a=> .str a
 | _,_,.nil=> .nil
 | _,_,.sl a z b c d e=> .sl a z (RepRows.toS b) c d e
 | _,_,.slb a z b c d e _=> .slb a z (RepRows.toS b) c d e
 | _,_,.pd a b=> .pd a (Reps.toS b)
 | _,_,.clo a b=> .clo (Reps.toS a) b
 | _,_,.ifc a=> .ifc (Rep.toS a)
 | _,_,.ifs a b=> .ifs (Reps.toS a) b
 | _,_,.noi=> .noi
theorem Reps.toS{h:A6}:∀{d v},Reps h d v→RepSs h d v
 | _,_,.nil=> .nil
 | _,_,.cons a b=> .cons (Rep.toS a) (Reps.toS b)
theorem RepRows.toS{h:A6}:∀{sz d v},RepRows h sz d v→RepSRows h sz d v
 | _,_,_,.nil=> .nil
 | _,_,_,.cons a b c=> .cons a (Reps.toS b) (RepRows.toS c)
end
mutual
theorem RepS.move{h h':A6}(hh:∀b C,h b C→∃C',h' b C'∧ShL C C'):∀{d v v'},RepS h d v→ShV v v'→RepS h' d v'
 | _,_,_,.int a b,.int p q=> .int p q
 | _,_,_,.int a b,.same=> .int a b
 | _,_,_,.bool,.bool=> .bool
 | _,_,_,.bool,.same=> .bool
 | _,_,_,.str a,.str p=> .str p
 | _,_,_,.str a,.same=> .str a
 | _,_,_,.nil,.same=> .nil
 | _,_,_,.sl a z b c d e,.same=>by
  obtain⟨C',k1,k2⟩:=hh _ _ a;exact .sl k1 z (RepSRows.move hh b (k2.drop _)) c d e
 | _,_,_,.slb a z b c d e,.same=>by
  obtain⟨C',k1,k2⟩:=hh _ _ a;exact .slb k1 z (RepSRows.move hh b (k2.drop _)) c d e
 | _,_,_,.pd a b,.same=>by
  obtain⟨C',k1,k2⟩:=hh _ _ a;exact .pd k1 (RepSs.move hh b (k2.drop _))
 | _,_,_,.clo a b,.same=> .clo (RepSs.move hh a (.refl _)) b
 | _,_,_,.ifc a,.same=> .ifc (RepS.move hh a .same)
 | _,_,_,.ifs a b,.same=> .ifs (RepSs.move hh a (.refl _)) b
 | _,_,_,.noi,.same=> .noi
theorem RepSs.move{h h':A6}(hh:∀b C,h b C→∃C',h' b C'∧ShL C C'):∀{d v v'},RepSs h d v→ShL v v'→RepSs h' d v'
 | _,_,_,.nil,_=> .nil
 | _,_,_,.cons a b,.cons k l=> .cons (RepS.move hh a k) (RepSs.move hh b l)
theorem RepSRows.move{h h':A6}(hh:∀b C,h b C→∃C',h' b C'∧ShL C C'):∀{sz d v v'},RepSRows h sz d v→ShL v v'→RepSRows h' sz d v'
 | _,_,_,_,.nil,_=> .nil
 | _,_,_,_,.cons a b c,k=> .cons a (RepSs.move hh b k) (RepSRows.move hh c (k.drop _))
end
theorem FCf.fc{P:Program}{f:FuncId}{ds:F DV}{rs:F R1}(H:FCf P f ds rs):FC P f ds rs:=by
 intro w A vs hG hvs;refine(H w A vs hG hvs).mono fun e w' h=> ?_
 obtain⟨v,bs,h1,h2,h3,h4,h5⟩:=h;exact⟨v,bs,h1,h2,h3.conv fun c _=> .inl fun b C ⟨cc,t,fr,⟨k1,k2⟩,k3⟩=>⟨cc,t,fr,⟨k1,k2.imp id fun h=>h.elim⟩,k3⟩,h4,h5⟩
def DV.avo:DV→AV
 | .sc d=> .v (.sc (Cb d))
 | .ag ds=> .v (.ag (ds.map Cb))
def Ix:Nat→F DV→F (Nat × AV)
 | _,[]=> []
 | k,x::xs=>(k,x.avo)::Ix (k+1) xs
def St.initO(ds:F DV):St:=⟨Ix 0 ds,[],[]⟩
theorem Rz:∀(ds:F DV) (k i:Nat),A1 (Ix k ds) i=if k≤i then(ds[i - k]?).map DV.avo else none
 | [],k,i=>by simp[Ix,A1]
 | d::ds,k,i=>by
  simp only[Ix,A1];by_cases hk:k=i
  ·subst hk; simp
  ·have h':(k==i)=false:=by simpa using hk
   rw[h',cond_false,Rz ds (k+1) i];by_cases h1:k≤i
   ·rw[if_pos (by omega),if_pos h1,show i - k=(i - (k+1))+1 by omega]; simp
   ·rw[if_neg (by omega),if_neg h1]
def M5(w:World)(A0:AY):Ar:=⟨fun b fr=>w.heap.size≤b∧fr=(0,0),Af A0 w,Bu,true⟩
theorem em(w:World)(A0:AY):Glob (M5 w A0) w.heap.size (.of w (fun _=>none)):=by
 refine⟨fun b hb=>hb.elim (fun h=>⟨h,rfl⟩) fun h=>h.elim,fun b C h=> ?_,fun _ _ h=>h.elim,fun _ _ h=>h.elim,fun _ b fr h=>⟨.inl h.1,h.2⟩⟩;obtain⟨c,t,fr,h1,h2,h3⟩:=h;exact⟨CR h2,fun hm=>(by obtain⟨i,_,e⟩:=Base.of_M hm; cases e),fun h=>h.elim,c,t,fr,h2,h3⟩
theorem TZ{X:Cx}(hnw:X.new=true):∀{ds:F D} {vs:F Value},Reps X.o ds vs→ds.length=vs.length→CRels X (ds.map Cb) vs
 | [],vs,_,hl=>by
  obtain rfl:vs= []:=List.length_eq_zero_iff.1 (by simpa using hl.symm);exact .nil
 | _,_,.cons a b,hl=> .cons (PB hnw a) (TZ hnw b (by simpa using hl))
theorem Tl{w:World}{A0:AY}{ds:F DV}{vs:F Value}(nt:Nat)(hG:GoodW w)(h:DVRels (Af A0 w) ds vs) :
  Rel (M5 w A0) w.heap.size (.of w (fun _=>none)) (fun _=>none) (St.initO ds) (vs.toArray++Array.replicate (nt - vs.toArray.size) undef) w:=by
 refine⟨BelowX.start _ _ (fun _ h=>h.elim),Nat.le_refl _,em w A0,fun w2 hb=>hG.below (hb.plain fun _=>rfl),fun i b h=>(by cases h),fun i j b h=>(by cases h),fun i _=>rfl,fun k=> ?_,fun id cs h=>by simp[St.initO,A1] at h⟩;unfold St.get;rw[show(St.initO ds).env=Ix 0 ds from rfl,Rz ds 0 k];have hlen:=h.len;simp only[Nat.zero_le,if_true,Nat.sub_zero];cases hd:ds[k]? with
 | none=>exact .undef
 | some d=>
  have hk:k<vs.length:=by rw[← hlen]; exact(E.1 hd).1
  have hv:vs[k]?=T (vs[k]'hk):=List.getElem?_eq_getElem hk
  have e:(vs.toArray++Array.replicate (nt - vs.toArray.size) undef).getD k undef=vs[k]'hk:=by
   rw[Array.getD_eq_getD_getElem?,Array.getElem?_append_left (by simpa using hk)];simp[hk]
  rw[e];have hr:=DVRels.get k h hd hv;revert hr
  generalize vs[k]'hk=z
  intro hr;cases hr with
  | sc hr=>exact .v (.sc (PB (X:=cx (M5 w A0) (fun _=>none) (St.initO ds) w) rfl hr))
  | ag hr hl=>exact .v (.ag (TZ (X:=cx (M5 w A0) (fun _=>none) (St.initO ds) w) rfl hr hl))
section
variable {P : Program}
theorem Wv(hm:P.follows .mixedOrders=true){f:FuncId}{fn:Func}{C:Code}{c:Xd}{ts:F RV}{ds:F DV}{rs:F R1}(hf:P.funcs[f]?=T fn)(hb:fn.body=T C)(hc:B0 P fn.ntmps C=T c.strip)
  (hr:CW P fn.results.toList=T ts) (hl:ds.length≤fn.ntmps) (h:AT P c (Ac ts rs) (St.initO ds)):FCf P f ds rs:=by
 intro w A0 vs hG hvs;refine calls_of_wp hf hb ?_;have hlen:=hvs.len;refine wp_mono (FN (df:= []) hm c C _ (fun _=>none) (St.initO ds) _ w hc h (Tl fn.ntmps hG hvs) (by simp; omega) rfl) fun e a w' hp=> ?_
 obtain⟨e',nm,σ,he,hq,R,hnt,hdf⟩:=hp
 have key:LZ ts rs σ→a.defers= []∧∃v,(results fn a.tmps).run P w'= .ok v w'∧∃(v':Value) (bs:F (Option Nat)),Ending.returned v= .returned v'∧RowKit.Below w.heap.size w w'∧
   RRel (Af (fun b fr=>T b∉bs∧((w.heap.size≤b∧fr=(0,0))∨False)) w') w' rs v' bs∧(∀b,T b∈bs→w.heap.size≤b∧b<w'.heap.size)∧(∀(i j b:Nat),bs[i]?=T (T b)→bs[j]?=T (T b)→i=j):=by
  rintro⟨ho,hnd⟩
  let ids:=Cl σ ts rs
  have hbs:∀b,T b∈ids.map (AZ nm)→∃id,T id∈ids∧nm (2*id+1)=T b:=by
   intro b hb;obtain⟨o,ho,hb⟩:=List.mem_map.1 hb;cases o with
   | none=>simp[AZ] at hb
   | some id=>exact⟨id,ho,hb⟩
  have hview:∀b C,Ab (fun b fr=>w.heap.size≤b∧fr=(0,0)) nm w' b C→Af (fun b fr=>T b∉ids.map (AZ nm)∧((w.heap.size≤b∧fr=(0,0))∨False)) w' b C:=by
   rintro b C ⟨h1,c,t,fr,h2,h3⟩
   refine⟨c,t,fr,⟨fun hb=> ?_,.inl h2⟩,h3⟩;obtain⟨id,_,hn⟩:=hbs b hb;exact h1 _ hn
  obtain⟨vs',hrun,hvl,hrel⟩:=Fx (P:=P) (f:=fun | .tmp t=>pure (a.tmps.getD t undef) | .cell c t=>do loadVar t (← asAddr (a.tmps.getD c undef))) R hview (fun _=>rfl) (fun _ _=>rfl) hr ho;refine⟨hdf,(if h:vs'.length=1 then vs'[0] else .tuple vs'.toArray),?_,_,ids.map (AZ nm),rfl,R.below.plain (fun _=>rfl),?_,fun b hb=> ?_,fun i j b hi hj=> ?_⟩
  ·unfold results;rw[← Array.toArray_toList (xs:=fn.results)];simp only[List.mapM_toArray,Sem.run_bind,map_eq_pure_bind];erw [hrun]
   simp only[Result.andThen_ok,Sem.run_pure];simp
  ·split
   ·rename_i h1
    obtain⟨v1,rfl⟩:=List.length_eq_one_iff.1 h1;have hrl:rs.length=1:=by rw[ho.len,← hvl]; exact h1
    obtain⟨r,rfl⟩:=List.length_eq_one_iff.1 hrl;revert hrel
    show R1Rels _ _ [r] [v1] (ids.map (AZ nm))→_
    generalize ids.map (AZ nm)=bs
    intro hrel;cases hrel with
    | cons h1 h2=>
     cases h2;simp only[List.append_nil] at h1 ⊢
     exact .one h1
   ·rename_i h1
    refine .many ?_ hrel;rw[ho.len,← hvl];exact h1
  ·obtain⟨id,_,hn⟩:=hbs b hb;obtain⟨k1,k2⟩:=R.names _ _ hn;refine⟨k1.resolve_right ?_,k2⟩;intro hmm;obtain⟨i,_,hi⟩:=Base.of_M hmm;cases hi
  ·simp only[List.getElem?_map,Option.map_eq_some_iff] at hi hj
   obtain⟨x,hx,hxb⟩:=hi;obtain⟨y,hy,hyb⟩:=hj;cases x with
   | none=>simp[AZ] at hxb
   | some x=>
    cases y with
    | none=>simp[AZ] at hyb
    | some y=>
     have:=R.inj _ _ _ hxb hyb;have e:x=y:=by omega
     subst e;exact NC hnd i j x hx hy
 cases e' with
 | normal=>obtain rfl:e= .normal:=he; exact key hq
 | ret=>obtain rfl:e= .ret:=he; exact key hq
 | exit id=>exact hq.elim
 | pan d=>exact hq.elim
theorem Wt(hm:P.follows .mixedOrders=true){f:FuncId}{c:Xd}{ts:F RV}{nt:Nat}{ds:F DV}{rs:F R1}(he:AB P f=T (c.strip,ts,nt))(hl:ds.length≤nt)(h:AT P c (Ac ts rs) (St.initO ds)):FCf P f ds rs:=by
 unfold AB at he
 split at he
 ·rename_i fn hf
  split at he
  ·rename_i C ts' hb hr
   simp only[Option.map_eq_some_iff] at he
   obtain⟨c',hc,e⟩:=he;cases e;exact Wv hm hf hb hc hr hl h
  ·cases he
 ·cases he
theorem Wu(hm:P.follows .mixedOrders=true){f nt:Nat}{c:Xd}{ts:F RV}{ds:F DV}{rs:F R1}{σ:St}(he:AB P f=T (c.strip,ts,nt))(hl:Nat.ble ds.length nt=true)(hσ:St.initO ds=σ)
  (h:go P [.code c] (Ac ts rs) .normal (T σ)):FCf P f ds rs:=Wt hm he (Nat.le_of_ble_eq_true hl) (hσ▸H2 h)
end
section
variable {P : Program} {A : Ar} {B : Nat} {w0 : Base} {w : World} {nm : Ad} {σ : St} {tmps : Array Value}
theorem Rel.behind0(R:Rel A B w0 nm σ tmps w){d:Nat}{rs:F R1}{w':World}{v:Value}{bs:F (Option Nat)}(hf:σ.fresh d=true)(h64:(rs.flatMap R1.cells).length≤64){A':AY}
  (hA:(∀b fr,A' b fr→(∀i,nm i≠T b)∧A b fr)∨C7 rs)
  (hb:RowKit.Below w.heap.size w w') (hr:RRel (Af (fun b fr=>T b∉bs∧((w.heap.size≤b∧fr=(0,0))∨A' b fr)) w') w' rs v bs) (hn:∀b,T b∈bs→w.heap.size≤b∧b<w'.heap.size)
  (hdis:∀(i j b:Nat),bs[i]?=T (T b)→bs[j]?=T (T b)→i=j):∃nm',Rel A B w0 nm' {σ with rows:=B7 σ.rows (Bq d rs)} tmps w'∧VRel (cx A nm' {σ with rows:=B7 σ.rows (Bq d rs)} w') (Bt d rs) v:=by
 let inst:Ad:=fun n=>if n % 2=1 then(bs[(n / 2) % 64]?).join else none
 have hinst:∀n b,inst n=T b→n % 2=1∧bs[(n / 2) % 64]?=T (T b):=by
  intro n b h;simp only[inst] at h;split at h
  ·rename_i h1
   refine⟨h1,?_⟩;cases hq:bs[(n / 2) % 64]? with
   | none=>rw[hq] at h; cases h
   | some q=>rw[hq] at h; simp at h; rw[h]
  ·cases h
 have hl:=hr.len
 have R1:=R.grow hf hb inst (B7 σ.rows (Bq d rs)) (fun n b _ h=>hn b (List.mem_of_getElem? (hinst n b h).2)) (fun n m b h1 h2 h3 h4=>by
   obtain⟨k1,k2⟩:=hinst n b h3;obtain⟨k3,k4⟩:=hinst m b h4;have:=hdis _ _ _ k2 k4;unfold BF at h1 h2
   omega) (fun id hid=>MX _ _ _ _ _ (by omega) hid)
 have hview:∀b C,Af (fun b fr=>T b∉bs∧((w.heap.size≤b∧fr=(0,0))∨((∀i,nm i≠T b)∧A b fr))) w' b C→Ab A (AF d inst nm) w' b C:=by
  rintro b C ⟨cc,tt,fr,⟨h1,h2⟩,h3⟩
  refine⟨fun i=> ?_,cc,tt,fr,?_,h3⟩
  ·unfold AF;split
   ·intro e; exact h1 (List.mem_of_getElem? (hinst i b e).2)
   ·intro e;rcases h2 with h2|h2
    ·have:=R.names i b e; omega
    ·exact h2.1 i e
  ·rcases h2 with h2|h2
   ·obtain⟨h2,rfl⟩:=h2;exact R.all.all b (.inl (Nat.le_trans R.size h2))
   ·exact h2.2
 have hr2:RRel (Ab A (AF d inst nm) w') w' rs v bs:=by
  refine hr.conv fun c hc=> ?_
  rcases hA with hA|hA
  ·left
   rintro b C ⟨cc,tt,fr,⟨h1,h2⟩,h3⟩
   exact hview b C ⟨cc,tt,fr,⟨h1,h2.imp id (hA b fr)⟩,h3⟩
  ·exact .inr (hA c hc)
 have hv:VRel (cx A (AF d inst nm) {σ with rows:=B7 σ.rows (Bq d rs)} w') (Bt d rs) v:=by
  refine Pd hr2 fun i=>⟨fun sz es e=> ?_,fun b e=> ?_⟩
  ·exact MW _ _ _ _ _ _ _ e
  ·have hi:i<64:=by have:=(E.1 e).1; omega
   show AF d inst nm (2*(d*64+(0+i))+1)=b
   unfold AF;rw[if_pos (.inr (by omega))];simp only[inst];rw[if_pos (by omega),show(2*(d*64+(0+i))+1) / 2 % 64=i by omega,e];rfl
 exact⟨_,R1,hv⟩
def St.toDL(σ:St):F AV→Option (F DV)
 | []=>T []
 | x::xs=>match σ.toDV x,σ.toDL xs with
  | some d,T ds=>T (d::ds)
  | _,_=>none
theorem PV(R:Rel A B w0 nm σ tmps w):∀{avs:F AV} {vs:F Value} {ds:F DV},VsRel (cx A nm σ w) avs vs→σ.toDL avs=T ds→DVRels (AS w) ds vs
 | [],vs,ds,H,h=>by
  obtain rfl:vs= []:=List.length_eq_zero_iff.1 H.1.symm;simp[St.toDL] at h;subst h;exact .nil
 | x::avs,vs,ds,H,h=>by
  unfold St.toDL at h;split at h
  ·rename_i d ds' h1 h2
   cases h;cases vs with
   | nil=>have:=H.1; simp at this
   | cons v vs=>
    exact .cons (PW (a:=⟨tmps,[]⟩) R (H.2 0 x v rfl rfl) h1) (PV R ⟨by have:=H.1; simpa using this,fun i u v hu hv=>H.2 (i+1) u v (by simpa using hu) (by simpa using hv)⟩ h2)
  ·cases h
theorem FCf.callC{f:FuncId}{ds:F DV}{rs:F R1}(H:FCf P f ds rs){d:Nat}{avs:F AV}(hx:σ.toDL avs=T ds)(hfr:σ.fresh d=true)(h64:(rs.flatMap R1.cells).length≤64) :
  CallC P f avs σ {σ with rows:=B7 σ.rows (Bq d rs)} (Bt d rs):=by
 intro A B w0 w nm tmps vs R hvs;refine(H w (fun _ _=>True) vs (R.good w R.below) ((PV R hvs hx).mono fun _ _ h=>Q8 h)).mono fun e w' h=> ?_
 obtain⟨v,bs,rfl,h2,h3,h4,h5⟩:=h;obtain⟨nm',R',hv⟩:=R.behind0 hfr h64 (A':=fun _ _=>False) (.inl fun _ _ h=>h.elim) h2 h3 h4 h5;exact⟨v,nm',rfl,R',hv⟩
theorem fL{k:F Fr}{Q:Xg→St→Prop}{its:F AItem}{d f:Nat}{args:F Opd}{ds:F DV}{rs:F R1}(hf:FCf P f ds rs)(h1:σ.toDVs args=T ds)(h3:σ.fresh d=true)(h4:(rs.flatMap R1.cells).length≤64)
  (h5:go P (.ops its::k) Q .normal (T (σ.inst d rs))):go P (.ops ((none,.call d f args)::its)::k) Q .normal (T σ):= .inl ⟨ds,rs,.inl ⟨h1,.inr hf⟩,hf.fc,h3,h4,h5⟩
theorem fR{k:F Fr}{Q:Xg→St→Prop}{N:F Nat}{its:F AO}{d f:Nat}{args:F Opd}{ds:F DV}{rs:F R1}(hf:FCf P f ds rs)(h1:(σ.less N).toDVs args=T ds)(h3:σ.fresh d=true)(h4:(rs.flatMap R1.cells).length≤64)
  (h5:go P (.dops its::k) Q .normal (T (σ.inst d rs))):go P (.dops ((T N,none,.call d f args)::its)::k) Q .normal (T σ):=⟨ds,rs,.inl ⟨h1,.inr hf⟩,hf.fc,h3,h4,h5⟩
end
end Go.Vi
