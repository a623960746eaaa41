/-
The value level. No condition.
-/
import Derived.Test.YtpigjggbnclpbaaGreatOVi43
namespace Go.Vi
set_option linter.all false
open Option renaming map_eq_some_iff → U, some → F, none → E
open List renaming mem_cons_of_mem → V, mem_cons_self → Z, length_eq_zero_iff → I, append_nil → zC, map → zD, mem_cons → zG, getElem?_eq_some_iff → zH, map_cons → zI
open Nat renaming le_of_ble_eq_true → zA, eq_of_mul_eq_mul_right → zB, le_trans → zE, lt_of_lt_of_le → zF
open Bool renaming true → T
open _root_ renaming List → G, Option → L, Nat → N, rfl → O
inductive Tg (b:N):D→Prop
 | here {k es}:Tg b (.slb b k es)
 | sl {es r d}:r∈es→d∈r→Tg b d→Tg b (.sl es)
def BC(b:N)(es:G (G D)):Prop:=∃r∈es,∃d∈r,Tg b d
theorem Reps.mem{h:A6}{d:D}:∀{ds:G D} {vs:G Value},Reps h ds vs→d∈ds→∃v,Rep h d v
 | _,_,.nil,hd=>by cases hd
 | _,_,.cons a b,hd=>by
  rcases zG.1 hd with rfl|hd
  ·exact⟨_,a⟩
  ·exact b.mem hd
theorem RepRows.mem{h:A6}{sz:N}{r:G D}:∀{es:G (G D)} {vs:G Value},RepRows h sz es vs→r∈es→∃us,Reps h r us
 | _,_,.nil,hd=>by cases hd
 | _,_,.cons _ b c,hd=>by
  rcases zG.1 hd with rfl|hd
  ·exact⟨_,b⟩
  ·exact c.mem hd
theorem Rep.tg{h:A6}{b:N}:∀{d:D} {v:Value},Tg b d→Rep h d v→∃C,h b C:=by
 intro d v H
 induction H generalizing v with
 | here=>intro R; cases R with | slb a _ _ _ _ _ _=>exact⟨_,a⟩
 | sl h1 h2 _ ih=>
  intro R;cases R with
  | nil=>cases h1
  | sl a _ b _ _ _=>
   obtain⟨us,hr⟩:=b.mem h1;obtain⟨u,hu⟩:=hr.mem h2;exact ih hu
theorem RepRows.tg{h:A6}{b sz:N}{es:G (G D)}{vs:G Value}(H:RepRows h sz es vs):BC b es→∃C,h b C:=fun⟨r,h1,d,h2,h3⟩=>by
 obtain⟨us,hr⟩:=H.mem h1;obtain⟨u,hu⟩:=hr.mem h2;exact hu.tg h3
theorem OwnB.tg{h:A6}{w:World}{b c sz cap:N}{es:G (G D)}(H:OwnB h w c sz cap es)(ht:BC b es):∃C,h b C:=by
 obtain⟨_,_,_,C,t,_,_,h6⟩:=H;exact h6.tg ht
def AC.tg(rs:Rows)(b:N):AC→Prop
 | .dat d=>Tg b d
 | .own id | .osub id _ _ | .pe id _ _=>∃sz es,A1 rs id=F (sz,es)∧BC b es
 | _=>False
def St.tg(σ:St)(b:N):Prop:=∃c,σ.Uses c∧c.tg σ.rows b
theorem CRel.tg{X:Cx}{b:N}{c:AC}{v:Value}(H:CRel X c v)(ht:c.tg X.rs b):∃C,X.h b C:=by
 cases c with
 | dat d=>exact H.inv_dat.tg ht
 | own id=>
  obtain⟨sz,es,h1,h2⟩:=ht;rcases H.inv_own h1 with ⟨rfl,_⟩|⟨_,_,_,h3,_⟩
  ·obtain⟨r,hr,_⟩:=h2; cases hr
  ·exact h3.tg h2
 | osub id lo hi=>
  obtain⟨sz,es,h1,h2⟩:=ht;rcases H.inv_osub h1 with ⟨rfl,_⟩|⟨_,_,_,_,_,h3,_⟩
  ·obtain⟨r,hr,_⟩:=h2; cases hr
  ·exact h3.tg h2
 | pe id i o=>
  obtain⟨sz,es,h1,h2⟩:=ht;obtain⟨_,_,_,h3,_⟩:=H.inv_pe h1;exact h3.tg h2
 | _=>exact ht.elim
section
variable {P : Program} {A : Ar} {B : N} {w0 : Base} {w : World} {nm : Ad} {σ : St} {tmps : Array Value}
theorem CRels.all{X:Cx}{Q:AC→Prop}(hQ:∀c v,CRel X c v→Q c):∀{cs:G AC} {vs:G Value},CRels X cs vs→∀c∈cs,Q c
 | _,_,.nil=>fun c hc=>by cases hc
 | _,_,.cons a b=>fun c hc=>by
  rcases zG.1 hc with rfl|hc
  ·exact hQ _ _ a
  ·exact b.all hQ c hc
theorem V1Rel.all{X:Cx}{Q:AC→Prop}(hQ:∀c v,CRel X c v→Q c){x:V1}{v:Value}(H:V1Rel X x v):∀c∈x.cells,Q c:=by
 cases H with
 | sc h=>exact CRels.all hQ (.cons h .nil)
 | ag h=>exact CRels.all hQ h
theorem V1Rels.all{X:Cx}{Q:AC→Prop}(hQ:∀c v,CRel X c v→Q c):∀{l:G V1} {vs:G Value},V1Rels X l vs→∀c∈l.flatMap V1.cells,Q c
 | _,_,.nil=>fun c hc=>by simp at hc
 | _,_,.cons a b=>fun c hc=>by
  simp only[List.flatMap_cons,List.mem_append] at hc
  exact hc.elim (a.all hQ c) (b.all hQ c)
theorem VRel.all{X:Cx}{Q:AC→Prop}(hQ:∀c v,CRel X c v→Q c){x:AV}{v:Value}(H:VRel X x v):∀c∈x.cells,Q c:=by
 cases H with
 | undef=>intro c hc; cases hc
 | no=>intro c hc; cases hc
 | v h=>exact h.all hQ
 | tup h=>exact h.all hQ
 | ev h=>intro c hc; simp only[AV.cells,List.mem_singleton] at hc; subst hc; exact hQ _ _ h
theorem Rel.uses(R:Rel A B w0 nm σ tmps w){Q:AC→Prop}(hQ:∀c v,CRel (cx A nm σ w) c v→Q c):∀c,σ.Uses c→Q c:=by
 rintro c (⟨k,hc⟩|⟨id,cs,hf,hc⟩)
 ·exact(R.env k).all hQ c hc
 ·obtain⟨_,C,t,_,_,h3⟩:=R.bxs id cs hf;exact h3.all hQ c hc
theorem Rel.tg(R:Rel A B w0 nm σ tmps w){b:N}(h:σ.tg b):∃C,Ab A nm w b C:=by
 obtain⟨c,hu,ht⟩:=h;exact R.uses (Q:=fun c=>c.tg σ.rows b→∃C,Ab A nm w b C) (fun c v H ht=>CRel.tg (X:=cx A nm σ w) H ht) c hu ht
theorem St.tg_own{k id sz b:N}{es:G (G D)}(h:σ.get k= .v (.sc (.own id)))(hf:A1 σ.rows id=F (sz,es))(ht:BC b es):σ.tg b:=
 ⟨.own id,.inl ⟨k,by rw[h]; simp[AV.cells,V1.cells]⟩,sz,es,hf,ht⟩
end
mutual
inductive Un:D→D→Prop
 | same {d}:Un d d
 | slb {b k es es'}:UnRows es es'→Un (.slb b k es) (.sl es')
 | sl {es es'}:UnRows es es'→Un (.sl es) (.sl es')
inductive Uns:G D→G D→Prop
 | nil:Uns [] []
 | cons {d d' ds ds'}:Un d d'→Uns ds ds'→Uns (d::ds) (d'::ds')
inductive UnRows:G (G D)→G (G D)→Prop
 | nil:UnRows [] []
 | cons {d d' ds ds'}:Uns d d'→UnRows ds ds'→UnRows (d::ds) (d'::ds')
end
theorem Uns.refl:∀{ds:G D},Uns ds ds
 | []=> .nil
 | _::_=> .cons .same .refl
theorem UnRows.refl:∀{ds:G (G D)},UnRows ds ds
 | []=> .nil
 | _::_=> .cons .refl .refl
theorem Uns.len:∀{a b:G D},Uns a b→a.length=b.length
 | _,_,.nil=>rfl
 | _,_,.cons _ h=>by simp[h.len]
theorem UnRows.len:∀{a b:G (G D)},UnRows a b→a.length=b.length
 | _,_,.nil=>rfl
 | _,_,.cons _ h=>by simp[h.len]
mutual
theorem Rep.un{h:A6}:∀{d d':D} {v:Value},Un d d'→Rep h d v→Rep h d' v
 | _,_,_,.same,H=>H
 | _,_,_,.slb u,.slb a z b c d e _=> .sl a z (RepRows.un u b) (c.trans u.len) d e
 | _,_,_,.sl u,.nil=>by cases u; exact .nil
 | _,_,_,.sl u,.sl a z b c d e=> .sl a z (RepRows.un u b) (c.trans u.len) d e
theorem Reps.un{h:A6}:∀{d d':G D} {v:G Value},Uns d d'→Reps h d v→Reps h d' v
 | _,_,_,.nil,.nil=> .nil
 | _,_,_,.cons u us,.cons a b=> .cons (Rep.un u a) (Reps.un us b)
theorem RepRows.un{h:A6}{sz:N}:∀{d d':G (G D)} {v:G Value},UnRows d d'→RepRows h sz d v→RepRows h sz d' v
 | _,_,_,.nil,.nil=> .nil
 | _,_,_,.cons u us,.cons a b c=> .cons (u.len.symm.trans a) (Reps.un u b) (RepRows.un us c)
end
inductive UnV:DV→DV→Prop
 | sc {d d'}:Un d d'→UnV (.sc d) (.sc d')
 | ag {d d'}:Uns d d'→UnV (.ag d) (.ag d')
inductive UnVs:G DV→G DV→Prop
 | nil:UnVs [] []
 | cons {d d' ds ds'}:UnV d d'→UnVs ds ds'→UnVs (d::ds) (d'::ds')
theorem UnV.refl{d:DV}:UnV d d:=by cases d<;>first | exact .sc .same | exact .ag .refl
theorem UnVs.refl:∀{ds:G DV},UnVs ds ds
 | []=> .nil
 | _::_=> .cons .refl .refl
theorem DVRels.un{h:A6}:∀{d d':G DV} {v:G Value},UnVs d d'→DVRels h d v→DVRels h d' v
 | _,_,_,.nil,.nil=> .nil
 | _,_,_,.cons (.sc u) us,.cons (.sc a) b=> .cons (.sc (a.un u)) (b.un us)
 | _,_,_,.cons (.ag u) us,.cons (.ag a e) b=> .cons (.ag (a.un u) (u.len.symm.trans e)) (b.un us)
theorem FC.un{P:Program}{f:FuncId}{ds ds':G DV}{rs:G R1}(H:FC P f ds rs)(u:UnVs ds' ds):FC P f ds' rs:=fun w A vs hG hvs=>H w A vs hG (hvs.un u)
def RC.tg(b:N):RC→Prop
 | .v d=>Tg b d
 | .o _ es=>BC b es
def R1s.tg(b:N)(rs:G R1):Prop:=∃c∈rs.flatMap R1.cells,c.tg b
def FCs(P:Program)(f:FuncId)(ds:G DV)(RS:G R1→Prop):Prop:=
 ∀(w:World) (A:AY) (vs:G Value),GoodW w→DVRels (Af A w) ds vs→Calls P f vs.toArray w fun e w'=>
  ∃(rs:G R1) (v:Value) (bs:G (L N)),RS rs∧e= .returned v∧RowKit.Below w.heap.size w w'∧RRel (Af (fun b fr=>F b∉bs∧((w.heap.size≤b∧fr=(0,0))∨False)) w') w' rs v bs∧
   (∀b,F b∈bs→w.heap.size≤b∧b<w'.heap.size)∧(∀(i j b:N),bs[i]?=F (F b)→bs[j]?=F (F b)→i=j)
theorem FCf.s{P:Program}{f:FuncId}{ds:G DV}{rs:G R1}(H:FCf P f ds rs):FCs P f ds (· = rs):=fun w A vs hG hvs=>(H w A vs hG hvs).mono fun e w' ⟨v,bs,h⟩=>⟨rs,v,bs,rfl,h⟩
theorem FCs.mono{P:Program}{f:FuncId}{ds:G DV}{RS RS':G R1→Prop}(H:FCs P f ds RS)(h:∀rs,RS rs→RS' rs):FCs P f ds RS':=fun w A vs hG hvs=>(H w A vs hG hvs).mono fun e w' ⟨rs,v,bs,h1,h2⟩=>⟨rs,v,bs,h rs h1,h2⟩
theorem FC.newf{P:Program}{f:FuncId}{ds:G DV}{rs:G R1}(H:FC P f ds rs)(hf:C7 rs):FCf P f ds rs:=fun w A vs hG hvs=>(H w A vs hG hvs).mono fun e w' ⟨v,bs,h1,h2,h3,h4⟩=>⟨v,bs,h1,h2,h3.conv fun c hc=> .inr (hf c hc),h4⟩
theorem RCRel.tg{h:A6}{w:World}{b:N}{c:RC}{v:Value}{o:L N}(H:RCRel h w c v o)(ht:c.tg b):∃C,h b C:=by
 cases H with
 | v a=>exact a.tg ht
 | nil=>obtain⟨r,hr,_⟩:=ht; cases hr
 | o a _=>exact a.tg ht
theorem RCRels.get{h:A6}{w:World}{c:RC}:∀{cs:G RC} {vs:G Value} {bs:G (L N)},RCRels h w cs vs bs→c∈cs→∃v o,RCRel h w c v o
 | _,_,_,.nil,hc=>by cases hc
 | _,_,_,.cons a b,hc=>by
  rcases zG.1 hc with rfl|hc
  ·exact⟨_,_,a⟩
  ·exact b.get hc
theorem R1Rel.get{h:A6}{w:World}{c:RC}{r:R1}{v:Value}{bs:G (L N)}(H:R1Rel h w r v bs)(hc:c∈r.cells):∃v o,RCRel h w c v o:=by
 cases H with
 | sc a=>exact(RCRels.cons a .nil).get hc
 | ag a=>exact a.get hc
theorem R1Rels.get{h:A6}{w:World}{c:RC}:∀{rs:G R1} {vs:G Value} {bs:G (L N)},R1Rels h w rs vs bs→c∈rs.flatMap R1.cells→∃v o,RCRel h w c v o
 | _,_,_,.nil,hc=>by simp at hc
 | _,_,_,.cons a b,hc=>by
  simp only[List.flatMap_cons,List.mem_append] at hc
  exact hc.elim a.get b.get
theorem RRel.get{h:A6}{w:World}{c:RC}{rs:G R1}{v:Value}{bs:G (L N)}(H:RRel h w rs v bs)(hc:c∈rs.flatMap R1.cells):∃v o,RCRel h w c v o:=by
 cases H with
 | one a=>exact a.get (by simpa using hc)
 | many _ a=>exact a.get hc
section
variable {P : Program} {A : Ar} {B : N} {w0 : Base} {w : World} {nm : Ad} {σ : St} {tmps : Array Value}
theorem qE{b:N}{C:G Value}(h:Ab A nm w b C):b<w.heap.size:=by
 obtain⟨_,c,t,fr,_,h2,_⟩:=h;exact CR h2
def QN(σ:St)(rs:G R1):Prop:=∀t t',σ.tg t→R1s.tg t' rs→t<t'
theorem FCs.callS{f:FuncId}{ds ds':G DV}{RS:G R1→Prop}(H:FCs P f ds RS){d:N}{avs:G AV}(hx:σ.toDL avs=F ds')(hu:UnVs ds' ds)(hfr:σ.fresh d=T)(h64:∀rs,RS rs→(rs.flatMap R1.cells).length≤64) :
  LV P f avs σ fun σ' r=>∃rs,RS rs∧QN σ rs∧σ'={σ with rows:=B7 σ.rows (Bq d rs)}∧r=Bt d rs:=by
 intro A B w0 w nm tmps vs R hvs;refine(H w (fun _ _=>True) vs (R.good w R.below) (((PV R hvs hx).un hu).mono fun _ _ h=>Q8 h)).mono fun e w' h=> ?_
 obtain⟨rs,v,bs,hrs,rfl,h2,h3,h4,h5⟩:=h;obtain⟨nm',R',hv⟩:=R.behind0 hfr (h64 _ hrs) (A':=fun _ _=>False) (.inl fun _ _ h=>h.elim) h2 h3 h4 h5;refine⟨v,nm',_,_,O,⟨rs,hrs,fun t t' ht ht'=> ?_,O,O⟩,R',hv⟩;obtain⟨C,hC⟩:=R.tg ht;obtain⟨c,hc,hct⟩:=ht';obtain⟨v1,o1,hr1⟩:=h3.get hc;obtain⟨C',cc,tt,fr,⟨_,k⟩,_⟩:=hr1.tg hct;have:=qE hC;rcases k with k|k
 ·omega
 ·exact k.elim
theorem N1{k:G Fr}{Q:Xg→St→Prop}{its:G AItem}{d f:N}{args:G Opd}{ds ds':G DV}{RS:G R1→Prop}(H:FCs P f ds RS)(hx:σ.toDL (args.map σ.val)=F ds')(hu:UnVs ds' ds)(hfr:σ.fresh d=T)(h64:∀rs,RS rs→(rs.flatMap R1.cells).length≤64)
  (h:∀rs,RS rs→QN σ rs→go P (.ops its::k) Q .normal (F (σ.inst d rs))):go P (.ops ((E,.call d f args)::its)::k) Q .normal (F σ):=
 .inr (.inr ⟨_,H.callS hx hu hfr h64,fun _ _ ⟨rs,h1,h2,e1,e2⟩=>by subst e1 e2; exact h rs h1 h2⟩)
end
def M1(ts:G RV)(RS:G R1→Prop)(e:Xg)(σ:St):Prop:=∃rs,RS rs∧Ac ts rs e σ
section
variable {P : Program}
theorem Wz(hm:P.follows .mixedOrders=T){f:FuncId}{fn:Func}{C:Code}{c:Xd}{ts:G RV}{ds:G DV}{RS:G R1→Prop}(hf:P.funcs[f]?=F fn)(hb:fn.body=F C)(hc:B0 P fn.ntmps C=F c.strip)
  (hr:CW P fn.results.toList=F ts) (hl:ds.length≤fn.ntmps) (h:AT P c (M1 ts RS) (St.initO ds)):FCs P f ds RS:=by
 intro w A0 vs hG hvs;refine calls_of_wp hf hb ?_;have hlen:=hvs.len;refine wp_mono (FN (df:= []) hm c C _ (fun _=>E) (St.initO ds) _ w hc h (Tl fn.ntmps hG hvs) (by simp; omega) O) fun e a w' hp=> ?_
 obtain⟨e',nm,σ,he,⟨rs,hrs,hq⟩,R,hnt,hdf⟩:=hp
 have key:LZ ts rs σ→a.defers= []∧∃v,(results fn a.tmps).run P w'= .ok v w'∧∃(rs:G R1) (v':Value) (bs:G (L N)),RS rs∧Ending.returned v= .returned v'∧RowKit.Below w.heap.size w w'∧
   RRel (Af (fun b fr=>F b∉bs∧((w.heap.size≤b∧fr=(0,0))∨False)) w') w' rs v' bs∧(∀b,F b∈bs→w.heap.size≤b∧b<w'.heap.size)∧(∀(i j b:N),bs[i]?=F (F b)→bs[j]?=F (F b)→i=j):=by
  rintro⟨ho,hnd⟩
  let ids:=Cl σ ts rs
  have hbs:∀b,F b∈ids.map (AZ nm)→∃id,F id∈ids∧nm (2*id+1)=F b:=by
   intro b hb;obtain⟨o,ho,hb⟩:=List.mem_map.1 hb;cases o with
   | none=>simp[AZ] at hb
   | some id=>exact⟨id,ho,hb⟩
  have hview:∀b C,Ab (fun b fr=>w.heap.size≤b∧fr=(0,0)) nm w' b C→Af (fun b fr=>F b∉ids.map (AZ nm)∧((w.heap.size≤b∧fr=(0,0))∨False)) w' b C:=by
   rintro b C ⟨h1,c,t,fr,h2,h3⟩
   refine⟨c,t,fr,⟨fun hb=> ?_,.inl h2⟩,h3⟩;obtain⟨id,_,hn⟩:=hbs b hb;exact h1 _ hn
  obtain⟨vs',hrun,hvl,hrel⟩:=Fx (P:=P) (f:=fun | .tmp t=>pure (a.tmps.getD t undef) | .cell c t=>do loadVar t (← asAddr (a.tmps.getD c undef))) R hview (fun _=>rfl) (fun _ _=>rfl) hr ho;refine⟨hdf,(if h:vs'.length=1 then vs'[0] else .tuple vs'.toArray),?_,rs,_,ids.map (AZ nm),hrs,O,R.below.plain (fun _=>rfl),?_,fun b hb=> ?_,fun i j b hi hj=> ?_⟩
  ·unfold results;rw[← Array.toArray_toList (xs:=fn.results)];simp only[List.mapM_toArray,Sem.run_bind,map_eq_pure_bind];erw [hrun]
   simp only[Result.andThen_ok,Sem.run_pure];simp
  ·split
   ·rename_i h1
    obtain⟨v1,rfl⟩:=List.length_eq_one_iff.1 h1;have hrl:rs.length=1:=by rw[ho.len,← hvl]; exact h1
    obtain⟨r,rfl⟩:=List.length_eq_one_iff.1 hrl;revert hrel
    show R1Rels _ _ [r] [v1] (ids.map (AZ nm))→_
    generalize ids.map (AZ nm)=bs
    intro hrel;cases hrel with
    | cons h1 h2=>
     cases h2;simp only[zC] at h1 ⊢
     exact .one h1
   ·rename_i h1
    refine .many ?_ hrel;rw[ho.len,← hvl];exact h1
  ·obtain⟨id,_,hn⟩:=hbs b hb;obtain⟨k1,k2⟩:=R.names _ _ hn;refine⟨k1.resolve_right ?_,k2⟩;intro hmm;obtain⟨i,_,hi⟩:=Base.of_M hmm;cases hi
  ·simp only[List.getElem?_map,U] at hi hj
   obtain⟨x,hx,hxb⟩:=hi;obtain⟨y,hy,hyb⟩:=hj;cases x with
   | none=>simp[AZ] at hxb
   | some x=>
    cases y with
    | none=>simp[AZ] at hyb
    | some y=>
     have:=R.inj _ _ _ hxb hyb;have e:x=y:=by omega
     subst e;exact NC hnd i j x hx hy
 cases e' with
 | normal=>obtain rfl:e= .normal:=he; exact key hq
 | ret=>obtain rfl:e= .ret:=he; exact key hq
 | exit id=>exact hq.elim
 | pan d=>exact hq.elim
theorem Wy(hm:P.follows .mixedOrders=T){f:FuncId}{c:Xd}{ts:G RV}{nt:N}{ds:G DV}{RS:G R1→Prop}(he:AB P f=F (c.strip,ts,nt))(hl:ds.length≤nt)(h:AT P c (M1 ts RS) (St.initO ds)):FCs P f ds RS:=by
 unfold AB at he
 split at he
 ·rename_i fn hf
  split at he
  ·rename_i C ts' hb hr
   simp only[U] at he
   obtain⟨c',hc,e⟩:=he;cases e;exact Wz hm hf hb hc hr hl h
  ·cases he
 ·cases he
theorem Qu(hm:P.follows .mixedOrders=T){f nt:N}{c:Xd}{ts:G RV}{ds:G DV}{RS:G R1→Prop}{σ:St}(he:AB P f=F (c.strip,ts,nt))(hl:Nat.ble ds.length nt=T)(hσ:St.initO ds=σ)
  (h:go P [.code c] (M1 ts RS) .normal (F σ)):FCs P f ds RS:=Wy hm he (zA hl) (hσ▸H2 h)
end
def D.tagW(k:L N)(b:N):D→D
 | .sl (e::es)=> .slb b k (e::es)
 | d=>d
def RC.tagO(b:N):RC→RC
 | .o sz es=> .v (D.tagW (F sz) b (.sl es))
 | c=>c
def LG(g:N→N):N→G RC→G RC
 | _,[]=> []
 | j,c::cs=>c.tagO (g j)::LG g (j+1) cs
def CZ(g:N→N):N→G R1→G R1
 | _,[]=> []
 | j,.sc c::rs=> .sc (c.tagO (g j))::CZ g (j+1) rs
 | j,.ag cs::rs=> .ag (LG g j cs)::CZ g (j+cs.length) rs
theorem OwnB.tagW{h:A6}{w:World}{b sz cap:N}{es:G (G D)}{h':A6}(H:OwnB h w b sz cap es)(hh:∀b C,h b C→h' b C)(hb:∀C t,w.heap[b]?=F (.cells C t (0,0))→h' b C.toList) :
  Rep h' (D.tagW (F sz) b (.sl es)) (.slice (F ⟨b,0,E⟩) es.length cap):=by
 obtain⟨a1,a2,a3,C,t,a4,a5,a6⟩:=H;cases es with
 | nil=>exact .nil
 | cons e es=>exact .slb (C:=C.toList) (hb C t a4) a1 (by simpa using a6.mono hh) rfl a2 a3 (fun s hs=>by cases hs; exact⟨rfl,rfl,by simpa using a5⟩)
theorem RCRel.tagO{h h':A6}{w:World}{c:RC}{v:Value}{o:L N}(H:RCRel h w c v o)(hh:∀b C,h b C→h' b C)(hb:∀b C t,o=F b→w.heap[b]?=F (.cells C t (0,0))→h' b C.toList):RCRel h' w (c.tagO (o.getD 0)) v E:=by
 cases H with
 | v a=>exact .v (a.mono hh)
 | nil=>exact .v .nil
 | o a hl=>subst hl; exact .v (a.tagW hh fun C t e=>hb _ C t rfl e)
theorem RCRels.tagO{h h':A6}{w:World}{g:N→N}:∀{cs:G RC} {vs:G Value} {bs:G (L N)} {j:N},RCRels h w cs vs bs→(∀b C,h b C→h' b C)→(∀b C t,F b∈bs→w.heap[b]?=F (.cells C t (0,0))→h' b C.toList)→
  (∀(i:N) (o:L N),bs[i]?=F o→g (j+i)=o.getD 0)→RCRels h' w (LG g j cs) vs (bs.map fun _=>E)
 | _,_,_,_,.nil,_,_,_=> .nil
 | _,_,_,j,.cons a b,hh,hb,hg=>by
  refine .cons ?_ (RCRels.tagO b hh (fun b C t hm=>hb b C t (V _ hm)) fun i o hi=> ?_)
  ·have:=hg 0 _ rfl;rw[Nat.add_zero] at this
   rw[this];exact a.tagO hh fun b C t e=>hb b C t (by rw[e]; exact Z)
  ·have:=hg (i+1) o (by simpa using hi);rwa [show j+(i+1)=j+1+i by omega] at this
theorem PT{g:N→N}:∀{rs:G R1} {j:N},(CZ g j rs).length=rs.length
 | [],_=>rfl
 | .sc _::_,_=>by simp[CZ,PT]
 | .ag _::_,_=>by simp[CZ,PT]
theorem R1Rels.tagO{h h':A6}{w:World}{g:N→N}:∀{rs:G R1} {vs:G Value} {bs:G (L N)} {j:N},R1Rels h w rs vs bs→(∀b C,h b C→h' b C)→(∀b C t,F b∈bs→w.heap[b]?=F (.cells C t (0,0))→h' b C.toList)→
  (∀(i:N) (o:L N),bs[i]?=F o→g (j+i)=o.getD 0)→R1Rels h' w (CZ g j rs) vs (bs.map fun _=>E)
 | _,_,_,_,.nil,_,_,_=> .nil
 | _,_,_,j,.cons (c:= .sc c) a b,hh,hb,hg=>by
  cases a with | sc a=>
  have h1:=hg 0 _ rfl;rw[Nat.add_zero] at h1
  refine R1Rels.cons (b:= [E]) (.sc ?_) (R1Rels.tagO b hh (fun b C t hm=>hb b C t (V _ hm)) fun i o hi=> ?_)
  ·rw[h1];exact a.tagO hh fun b C t e=>hb b C t (by rw[e]; exact Z)
  ·have:=hg (i+1) o (by simpa using hi);rwa [show j+(i+1)=j+1+i by omega] at this
 | _,_,_,j,.cons (c:= .ag cs) (bs:=bs2) a b,hh,hb,hg=>by
  rename_i Bz
  cases a with | ag a=>
  have hl:=a.len;rw[List.map_append];refine .cons (.ag (a.tagO hh (fun b C t hm=>hb b C t (List.mem_append_left _ hm)) fun i o hi=>hg i o ?_)) (R1Rels.tagO b hh (fun b C t hm=>hb b C t (List.mem_append_right _ hm)) fun i o hi=> ?_)
  ·rw[List.getElem?_append_left (zH.1 hi).1]; exact hi
  ·have:=hg (cs.length+i) o (by rw[List.getElem?_append_right (by omega),show cs.length+i - _=i by rw[hl]; omega]; exact hi);rwa [show j+(cs.length+i)=j+cs.length+i by omega] at this
theorem RRel.tagO{h h':A6}{w:World}{rs:G R1}{v:Value}{bs:G (L N)}(H:RRel h w rs v bs)(hh:∀b C,h b C→h' b C)(hb:∀b C t,F b∈bs→w.heap[b]?=F (.cells C t (0,0))→h' b C.toList) :
  RRel h' w (CZ (fun j=>((bs[j]?).join).getD 0) 0 rs) v (bs.map fun _=>E):=by
 have hg:∀(i:N) (o:L N),bs[i]?=F o→(fun j=>((bs[j]?).join).getD 0) (0+i)=o.getD 0:=fun i o hi=>by simp[hi]
 cases H with
 | one a=>
  have:=R1Rels.tagO (h':=h') (j:=0) (g:=fun j=>((bs[j]?).join).getD 0) (.cons a .nil) hh (by simpa using hb) (fun i o hi=>hg i o (by simpa using hi));rename_i r
  cases r with
  | sc c=>
   simp only[CZ,zC] at this ⊢
   revert this
   generalize zD (fun _=>E) bs=q
   intro this;cases this with | cons x y=>cases y; rw[zC]; exact .one x
  | ag cs=>
   simp only[CZ,zC] at this ⊢
   revert this
   generalize zD (fun _=>E) bs=q
   intro this;cases this with | cons x y=>cases y; rw[zC]; exact .one x
 | many hl a=>exact .many (by rwa [PT]) (a.tagO hh hb hg)
theorem FCf.tag{P:Program}{f:FuncId}{ds:G DV}{rs:G R1}(H:FCf P f ds rs):FCs P f ds fun rs'=>∃g,rs'=CZ g 0 rs:=fun w A vs hG hvs=>(H w A vs hG hvs).mono fun e w' ⟨v,bs,h1,h2,h3,h4,h5⟩=>by
 refine⟨_,v,bs.map fun _=>E,⟨_,O⟩,h1,h2,h3.tagO (fun b C hC=> ?_) (fun b C t hm hC=> ?_),fun b hb=> ?_,fun i j b hi=> ?_⟩
 ·obtain⟨c,t,fr,⟨_,k⟩,k2⟩:=hC;exact⟨c,t,fr,⟨by simp,k⟩,k2⟩
 ·exact⟨C,t,_,⟨by simp,.inl ⟨(h4 b hm).1,O⟩⟩,hC,O⟩
 ·simp at hb
 ·simp at hi
inductive Sh:D→Prop
 | flat {d}:d.flat=T→Sh d
 | nil:Sh (.sl [])
 | slb {b k es}:(∀r∈es,∀d∈r,d.flat=T)→Sh (.slb b k es)
theorem Rep.sh{h h':A6}{d:D}{v:Value}(H:Sh d)(R:Rep h d v)(hh:∀b C,Tg b d→h b C→h' b C):Rep h' d v:=by
 cases H with
 | flat hf=>exact R.flat hf
 | nil=>cases R with
  | nil=>exact .nil
  | sl a z b c d e=>simp at c; subst c; exact .nil
 | slb hf=>cases R with | slb a z b c d e g=>exact .slb (hh _ _ .here a) z (b.flat hf) c d e g
theorem Reps.sh{h h':A6}:∀{ds:G D} {vs:G Value},Reps h ds vs→(∀d∈ds,Sh d)→(∀b C,(∃d∈ds,Tg b d)→h b C→h' b C)→Reps h' ds vs
 | _,_,.nil,_,_=> .nil
 | _,_,.cons a b,H,hh=> .cons (a.sh (H _ Z) fun b C ht=>hh b C ⟨_,Z,ht⟩) (b.sh (fun d hd=>H d (V _ hd)) fun b C ⟨d,hd,ht⟩=>hh b C ⟨d,V _ hd,ht⟩)
theorem RepRows.sh{h h':A6}{sz:N}:∀{es:G (G D)} {vs:G Value},RepRows h sz es vs→(∀r∈es,∀d∈r,Sh d)→(∀b C,BC b es→h b C→h' b C)→RepRows h' sz es vs
 | _,_,.nil,_,_=> .nil
 | _,_,.cons a b c,H,hh=> .cons a (b.sh (H _ Z) fun b C ⟨d,hd,ht⟩=>hh b C ⟨_,Z,d,hd,ht⟩) (c.sh (fun r hr=>H r (V _ hr)) fun b C ⟨r,hr,h2⟩=>hh b C ⟨r,V _ hr,h2⟩)
def AC.mapD(g:D→D):AC→AC
 | .dat d=> .dat (g d)
 | .mix _=> .undef
 | c=>c
theorem CRel.shift{X Y:Cx}{g:D→D}{c:AC}{v:Value}(H:CRel X c v)(hd:∀d v,c= .dat d→Rep X.h d v→Rep Y.h (g d) v)(hnm:∀i,Y.nm i=X.nm i)(hdead:∀id,A1 X.rs id=E→A1 Y.rs id=E)
  (hrow:∀id sz es,c.has id=T→A1 X.rs id=F (sz,es)→∃es',es'.length=es.length∧A1 Y.rs id=F (sz,es')∧∀b cap,X.nm (2*id+1)=F b→OwnB X.h X.w b sz cap es→OwnB Y.h Y.w b sz cap es')
  (hz:Y.o=X.o∧Y.v=X.v∧Y.new=X.new):CRel Y (c.mapD g) v:=by
 have h1:=H.one;cases H with
 | undef h=>exact .undef h
 | dat h=>exact .dat (hd _ _ rfl h)
 | @ownNil id sz a0 hf hn=>
  obtain⟨es',e1,e2,_⟩:=hrow id sz [] (by simp[AC.has]) hf;obtain rfl:=I.1 e1;exact .ownNil e2 ((hnm _).trans hn)
 | @own id sz es b cap len hf hn hown hl=>
  obtain⟨es',e1,e2,e3⟩:=hrow id sz es (by simp[AC.has]) hf;exact .own e2 ((hnm _).trans hn) (e3 _ _ hn hown) (hl.trans e1.symm)
 | ownDead hf _=>exact .ownDead (hdead _ hf) h1
 | @osubNil id sz a0 hf hn=>
  obtain⟨es',e1,e2,_⟩:=hrow id sz [] (by simp[AC.has]) hf;obtain rfl:=I.1 e1;exact .osubNil e2 ((hnm _).trans hn)
 | @osub id sz es lo hi b cap cap' len off hf hn hown a1 a2 a3 a4 a5 a6=>
  obtain⟨es',e1,e2,e3⟩:=hrow id sz es (by simp[AC.has]) hf;exact .osub e2 ((hnm _).trans hn) (e3 _ _ hn hown) a1 (e1▸a2) a3 a4 a5 a6
 | osubDead hf _=>exact .osubDead (hdead _ hf) h1
 | nil=>exact .nil
 | pb hb=>exact .pb ((hnm _).trans hb)
 | @pe id sz es idx off b cap o hf hn hown a1 a2=>
  obtain⟨es',e1,e2,e3⟩:=hrow id sz es (by simp[AC.has]) hf;exact .pe e2 ((hnm _).trans hn) (e3 _ _ hn hown) (e1▸a1) a2
 | peDead hf _=>exact .peDead (hdead _ hf) h1
 | clo hb=>exact .clo (by rw[show(fun i=>Y.nm (2*i))=fun i=>X.nm (2*i) from funext fun i=>hnm _]; exact hb)
 | z=>exact .z
 | old hn hd=>exact .old (hz.2.2.trans hn) (hz.1▸hd)
 | nw hn ho=>exact .nw (hz.2.2.trans hn) ho
 | mix h=>exact .undef h1
 | vol p q=>exact .vol (hz.2.1▸p) q
 | ipb hb=>exact .ipb ((hnm _).trans hb)
def D.upd(b:N)(ps:G (G D)):D→D
 | .slb t k es=>bif t==b then .slb t k ps else .slb t k es
 | d=>d
def St.updT(σ:St)(b:N)(ps:G (G D)):St:={σ.map (AC.mapD (D.upd b ps)) with rows:=σ.rows.map fun p=>(p.1,p.2.1,p.2.2.map (zD (D.upd b ps)))}
def EC(b sz:N)(ps:G (G D))(d:D):Prop:=Sh d∧∀k es,d= .slb b k es→k=F sz∧es=ps
theorem OJ{f:G (G D)→G (G D)}:∀(rs:Rows) (id:N),A1 (rs.map fun p=>(p.1,p.2.1,f p.2.2)) id=(A1 rs id).map fun p=>(p.1,f p.2)
 | [],_=>rfl
 | (k,s,es)::rs,id=>by
  simp only[zI,A1];cases k==id with
  | true=>rfl
  | false=>exact OJ rs id
theorem Rep.upd{h h':A6}{b sz:N}{ps ps':G (G D)}{d:D}{v:Value}(ho:EC b sz ps d)(R:Rep h d v)(hh:∀t C,t≠b→h t C→h' t C)(hn:∀v,Rep h (.slb b (F sz) ps) v→Rep h' (.slb b (F sz) ps') v):Rep h' (d.upd b ps') v:=by
 obtain⟨hs,hk⟩:=ho;cases hs with
 | flat hf=>
  have e:d.upd b ps'=d:=by cases d<;>first | rfl | cases hf
  rw[e];exact R.flat hf
 | nil=>exact R.sh .nil fun t C ht=>by cases ht; simp_all
 | @slb t k es hf=>
  by_cases ht:t=b
  ·subst ht;obtain⟨rfl,rfl⟩:=hk _ _ rfl;simp only[D.upd,beq_self_eq_true,cond_true];exact hn v R
  ·have e:(t==b)=false:=by simpa using ht
   simp only[D.upd,e,cond_false];exact R.sh (.slb hf) fun t' C h1 h2=>by cases h1; exact hh _ C ht h2
theorem Reps.upd{h h':A6}{b sz:N}{ps ps':G (G D)}(hh:∀t C,t≠b→h t C→h' t C)(hn:∀v,Rep h (.slb b (F sz) ps) v→Rep h' (.slb b (F sz) ps') v):∀{ds:G D} {vs:G Value},Reps h ds vs→(∀d∈ds,EC b sz ps d)→Reps h' (ds.map (D.upd b ps')) vs
 | _,_,.nil,_=> .nil
 | _,_,.cons a r,H=> .cons (a.upd (H _ Z) hh hn) (r.upd hh hn fun d hd=>H d (V _ hd))
theorem RepRows.upd{h h':A6}{b sz n:N}{ps ps':G (G D)}(hh:∀t C,t≠b→h t C→h' t C)(hn:∀v,Rep h (.slb b (F sz) ps) v→Rep h' (.slb b (F sz) ps') v):∀{es:G (G D)} {vs:G Value},RepRows h n es vs→(∀r∈es,∀d∈r,EC b sz ps d)→RepRows h' n (es.map (zD (D.upd b ps'))) vs
 | _,_,.nil,_=> .nil
 | _,_,.cons a r c,H=> .cons (by simpa using a) (r.upd hh hn (H _ Z)) (c.upd hh hn fun d hd=>H d (V _ hd))
section
variable {P : Program} {A : Ar} {B : N} {w0 : Base} {w : World} {nm : Ad} {σ : St} {tmps : Array Value}
theorem Rel.isNw(R:Rel A B w0 nm σ tmps w){k:N}(h:σ.get k= .ev .nw):A.new=T:=by
 have H:=R.env k;rw[h] at H
 cases H with | ev H=>cases H with | nw hn _=>exact hn
theorem FCx.callT{f:FuncId}{x r:D}{sz b k:N}{ps ps':G (G D)}(H:FCx P f [.sc (.r 0),.sc (.d x)] [(sz,ps)] [(sz,ps')] r)(hl:ps'.length=ps.length)(hfl:∀r∈ps,∀d∈r,d.flat=T)(hfl':∀r∈ps',∀d∈r,d.flat=T)(hx:x.flat=T)(hnw:σ.get k= .ev .nw)
  (hok:∀c,σ.Uses c→∀d,c= .dat d→EC b sz ps d) (hrows:∀id s es,A1 σ.rows id=F (s,es)→∀r∈es,∀d∈r,EC b sz ps d) :
  CallC P f [.v (.sc (.dat (.slb b (F sz) ps))),.v (.sc (.dat x))] σ (σ.updT b ps') (.v (.sc (.dat r))):=by
 intro A B w0 w nm tmps vs R hvs;have hnew:=R.isNw hnw
 obtain⟨v0,vx,rfl⟩:∃v0 vx,vs= [v0,vx]:=by
  have:=hvs.1
  match vs,this with
  | [a,b],_=>exact⟨a,b,rfl⟩
 have h0:=(hvs.2 0 _ v0 rfl rfl).inv_sc.inv_dat;have hxv:=(hvs.2 1 _ vx rfl rfl).inv_sc.inv_dat;cases h0 with | @slb _ _ _ C sz' off cap len hC hz hrep hlen hcap hmax hwhole=>
 obtain⟨rfl,rfl,hCl⟩:=hwhole _ rfl;obtain⟨hun,c,t,fr,hA,hheap,rfl⟩:=hC;obtain⟨hBb,rfl⟩:=R.all.new hnew b fr hA;have hM:B≤b∨w0.M b:=hBb.imp id .inr
 have hnp:∀i q,B5 [F b] i=F q→q=b:=fun i q e=>by
  obtain⟨j,_,h2⟩:=Fw e;cases j with
  | zero=>simpa using h2.symm
  | succ j=>simp at h2
 have after:∀w2,BelowX w.heap.size (.of w (B5 [F b])) w2→BelowX B w0 w2:=fun w2 h=>R.below.after h R.size R.there fun i q e=>hnp i q e▸hM
 have own0:OwnB Bu w b sz cap ps:=⟨hz,hlen▸hcap,hmax,c,t,hheap,by simpa using hCl,by simpa using hrep.flat hfl⟩;refine(H w [_,vx] [F b] rfl (fun i j q hi hj=> ?_) (fun q hq=> ?_) (fun w2 h=>R.good w2 (after w2 h)) (.cons (.sc (.r O O own0 hlen)) (.cons (.sc (.d (hxv.flat hx))) .nil))).mono fun e w' h=> ?_
 ·cases i with
  | zero=>cases j with
   | zero=>rfl
   | succ j=>simp at hj
  | succ i=>simp at hi
 ·simp at hq; subst hq; exact CR hheap
 obtain⟨v,rfl,hb,hv,hrow⟩:=h;obtain⟨sz2,es2,cap2,e1,a1,a2,a3,C2,t2,a4,a5,a6⟩:=hrow 0 b rfl;simp at e1
 obtain⟨rfl,rfl⟩:=e1;have hMb:∀q,(Base.of w (B5 [F b])).M q→q=b:=fun q hq=>by obtain⟨i,_,e⟩:=Base.of_M hq; exact hnp i q e
 have hsame:∀q,q<w.heap.size→q≠b→w'.heap[q]?=w.heap[q]?:=fun q hq hne=>hb.block q hq (fun h=>hne (hMb q h)) fun h=>h.elim
 have hpin:B5 [F b] (Av+2*0+1)=F b:=IL (bs:= [F b]) (j:=0) (o:=some b) rfl
 have hMbb:(Base.of w (B5 [F b])).M b:=by
  generalize Av+2*0+1=i at hpin
  obtain⟨j,rfl,_⟩:=Fw hpin;exact .inl ⟨_,Nat.le_add_right_of_le (Nat.le_add_right _ _),hpin⟩
 have hsz:C2.size=c.size∧t2=t:=by
  obtain⟨C',k1,k2⟩:=hb.room b hMbb _ _ _ hheap;rw[a4] at k1
  cases k1;exact⟨k2,O⟩
 have hcap2:cap2=cap:=by
  have h1:cap2*sz=cap*sz:=by rw[← a5,hsz.1,← hCl,Array.length_toList]
  exact zB hz h1
 have hh:∀q D0,q≠b→Ab A nm w q D0→Ab A nm w' q D0:=fun q D0 hq ⟨g1,cc,tt,fr,g2,g3,g4⟩=>⟨g1,cc,tt,fr,g2,(hsame q (CR g3) hq).trans g3,g4⟩
 have hnw2:∀u,Rep (Ab A nm w) (.slb b (F sz) ps) u→Rep (Ab A nm w') (.slb b (F sz) ps') u:=fun u hu=>by
  cases hu with | @slb _ _ _ D0 s2 o2 cp2 ln2 g1 g2 g3 g4 g5 g6 g7=>
  obtain⟨rfl,rfl,g8⟩:=g7 _ rfl;obtain⟨_,cc,tt,fr,_,g9,rfl⟩:=g1;rw[hheap] at g9
  cases g9;have ecap:cp2=cap:=zB hz (g8.symm.trans hCl);subst ecap
  exact .slb (C:=C2.toList) ⟨hun,C2,t2,_,hA,a4,O⟩ g2 (by simpa using a6.mono Ep) (g4.trans hl.symm) g5 g6 fun s hs=>by
   cases hs;exact⟨O,O,by rw[Array.length_toList,a5,hcap2]⟩
 have hnmb:∀i q,nm i=F q→q≠b:=fun i q hi e=>hun i (e▸hi)
 refine⟨v,nm,O,?_,.v (.sc (.dat (hv.mono Ep)))⟩;refine R.carry (f:=AC.mapD (D.upd b ps')) (after w' hb) (zE R.size hb.size) (fun i q hi=> ?_) R.inj (fun _ _=>rfl) (fun q=>St.get_map) (fun id=>Fi) (fun id cs _ q hq=>⟨hq,hsame q (R.names _ _ hq).2 (hnmb _ _ hq)⟩) (fun c v hu hr=> ?_)
 ·obtain⟨h1,h2⟩:=R.names i q hi;exact⟨h1,zF h2 hb.size⟩
 ·refine hr.shift (fun d u e hd=>hd.upd (hok c hu d e) hh hnw2) (fun _=>rfl) (fun id hf=> ?_) (fun id s es _ hf=> ?_) ⟨O,O,O⟩
  ·show A1 (σ.rows.map _) id=E
   rw[OJ (f:=zD (zD (D.upd b ps'))),show A1 σ.rows id=E from hf];rfl
  ·refine⟨es.map (zD (D.upd b ps')),by simp,?_,fun q cp hq ho=> ?_⟩
   ·show A1 (σ.rows.map _) id=_
    rw[OJ (f:=zD (zD (D.upd b ps'))),show A1 σ.rows id=F (s,es) from hf];rfl
   ·obtain⟨b1,b2,b3,C3,t3,b4,b5,b6⟩:=ho;exact⟨b1,by simpa using b2,b3,C3,t3,(hsame q (R.names _ _ hq).2 (hnmb _ _ hq)).trans b4,b5,b6.upd hh hnw2 (hrows id s es hf)⟩
end
def FL(w:World)(bs:G (L N))(ms:N→Prop):Base:=⟨w,B5 bs,fun b=>ms b∧b<w.heap.size,fun _ h=>h.2,fun _=>False,fun _ h=>h.elim⟩
def Hp(ms:N→Prop)(w:World):A6:=Af (fun b fr=>ms b∧fr=(0,0)) w
def FCm(P:Program)(f:FuncId)(x:D)(sz:N)(es0 es1:G (G D))(r:D):Prop:=
 ∀(w:World) (v vx:Value) (o:L N) (ms:N→Prop),(∀b,o=F b→b<w.heap.size∧¬ms b)→(∀w2,BelowX w.heap.size (FL w [o] ms) w2→GoodW w2)→RCRel (Hp ms w) w (.o sz es0) v o→Rep Bu x vx→Calls P f #[v,vx] w fun e w'=>
  ∃v',e= .returned v'∧BelowX w.heap.size (FL w [o] ms) w'∧Rep Bu r v'∧∀b,o=F b→∃cap,OwnB (Hp ms w') w' b sz cap es1
theorem IK{o:L N}{i b:N}(h:B5 [o] i=F b):i=Av+1∧o=F b:=by
 obtain⟨j,h1,h2⟩:=Fw h;cases j with
 | zero=>exact⟨h1,by simpa using h2⟩
 | succ j=>simp at h2
theorem npOf1_at{o:L N}:B5 [o] (2*99999999999+1)=o:=by
 have:=IL (bs:= [o]) (j:=0) (o:=o) rfl;rwa [show Av+2*0+1=2*99999999999+1 by unfold Av; omega] at this
def Jb(w:World)(ms:N→Prop):Ar:=⟨fun b fr=>(w.heap.size≤b∨(ms b∧b<w.heap.size))∧fr=(0,0),Bu,Bu,T⟩
def St.initM(x:D)(sz:N)(es0:G (G D)):St:=⟨[(0,.v (.sc (.own 99999999999))),(1,.v (.sc (.dat x))),(77777,.ev .nw)],[],[(99999999999,sz,es0)]⟩
theorem iN{w:World}{o:L N}{ms:N→Prop}{x:D}{sz:N}{es0:G (G D)}{v vx:Value}(nt:N)(h2:2≤nt)(hnt:nt≤77777)(ho:∀b,o=F b→b<w.heap.size∧¬ms b)(hG:∀w2,BelowX w.heap.size (FL w [o] ms) w2→GoodW w2)
  (hr:RCRel (Hp ms w) w (.o sz es0) v o) (hx:Rep Bu x vx):Rel (Jb w ms) w.heap.size (FL w [o] ms) (B5 [o]) (St.initM x sz es0) (#[v,vx]++Array.replicate (nt - 2) undef) w:=by
 have hv:∀b C,Hp ms w b C→Ab (Jb w ms) (B5 [o]) w b C:=fun b C ⟨c,t,fr,⟨h0,h1⟩,h3,h4⟩=>⟨fun i e=>(ho b (IK e).2).2 h0,c,t,fr,⟨.inr ⟨h0,CR h3⟩,h1⟩,h3,h4⟩
 refine⟨BelowX.start _ _ (fun _ h=>h.elim),Nat.le_refl _,⟨fun b hb=>⟨hb,O⟩,fun _ _ h=>h.elim,fun _ _ h=>h.elim,fun _ _ h=>h.elim,fun _ b fr h=>h⟩,hG,fun i b hi=> ?_,fun i j b hi hj=> ?_,fun i hi=>rfl,fun k=> ?_,fun id cs hcs=>by cases hcs⟩
 ·obtain⟨h1,h3⟩:=IK hi;exact⟨.inr (.inl ⟨i,by omega,hi⟩),(ho b h3).1⟩
 ·rw[(IK hi).1,(IK hj).1]
 ·by_cases k0:k=0
  ·subst k0;refine .v (.sc ?_);show CRel _ (.own 99999999999) _
   have e:(#[v,vx]++Array.replicate (nt - 2) undef).getD 0 undef=v:=by rw[Array.getD_eq_getD_getElem?,Array.getElem?_append_left (by simp)]; rfl
   rw[e];have hfd:A1 (cx (Jb w ms) (B5 [o]) (St.initM x sz es0) w).rs 99999999999=F (sz,es0):=rfl;have hnd:(cx (Jb w ms) (B5 [o]) (St.initM x sz es0) w).nm (2*99999999999+1)=o:=npOf1_at;cases hr with
   | nil=>exact .ownNil hfd hnd
   | o own hl=>exact .own hfd hnd (Hc own hv) hl
  ·by_cases k1:k=1
   ·subst k1;refine .v (.sc (.dat ?_));have e:(#[v,vx]++Array.replicate (nt - 2) undef).getD 1 undef=vx:=by rw[Array.getD_eq_getD_getElem?,Array.getElem?_append_left (by simp)]; rfl
    rw[e];exact hx.mono Ep
   ·by_cases k2:k=77777
    ·subst k2;exact .ev (u:= .bool T) (.nw O O)
    ·have:(St.initM x sz es0).get k= .undef:=by
      have e0:(0==k)=false:=by simpa using fun e=>k0 e.symm
      have e1:(1==k)=false:=by simpa using fun e=>k1 e.symm
      have e2:(77777==k)=false:=by simpa using fun e=>k2 e.symm
      simp[St.get,St.initM,A1,e0,e1,e2]
     rw[this];exact .undef
section
variable {P : Program}
theorem Ww(hm:P.follows .mixedOrders=T){f:FuncId}{c:Xd}{ts:G RV}{nt sz:N}{x r:D}{es0 es1:G (G D)}{p:N × N}(he:AB P f=F (c.strip,ts,nt))(h2:Nat.ble 2 nt=T)(hnt:Nat.ble nt 77777=T)(hrf:r.flat=T)
  (hsh:∀q∈es1,∀d∈q,Sh d) (htg:∀b,BC b es1→BC b es0) (h:AT P c (Ch ts r [(sz,es1)] [p]) (St.initM x sz es0)):FCm P f x sz es0 es1 r:=by
 unfold AB at he
 split at he
 ·rename_i fn hf
  split at he
  ·rename_i C ts' hb hr
   simp only[U] at he
   obtain⟨c',hc,e⟩:=he;cases e;intro w v vx o ms ho hG hrc hx;refine calls_of_wp hf hb ?_
   have htn:∀b,BC b es0→ms b:=fun b ht=>by
    cases hrc with
    | nil=>obtain⟨q,hq,_⟩:=ht; cases hq
    | o own _=>
     obtain⟨C,c,t,fr,⟨k,_⟩,_⟩:=own.tg ht;exact k
   have h2':=zA h2;refine wp_mono (FN (df:= []) hm c C _ (B5 [o]) (St.initM x sz es0) ⟨#[v,vx]++Array.replicate (fn.ntmps - 2) undef,[]⟩ w hc h (iN fn.ntmps h2' (zA hnt) ho hG hrc hx) (by simp; omega) O) fun e a w' hq=> ?_
   obtain⟨e',nm,σ,he,hq,R,hnt,hdf⟩:=hq
   have key:OutVs σ ts [.sc (.v r)]∧RowsOut σ 0 [(sz,es1)] [p]→a.defers= []∧∃v,(results fn a.tmps).run P w'= .ok v w'∧∃v',Ending.returned v= .returned v'∧BelowX w.heap.size (FL w [o] ms) w'∧Rep Bu r v'∧∀b,o=F b→∃cap,OwnB (Hp ms w') w' b sz cap es1:=by
    rintro⟨ho1,hro⟩
    obtain⟨v,rb,hrun,hrel⟩:=Uq R (fun _ _ h=>h) hr ho1;refine⟨hdf,v,hrun,v,O,R.below,?_,fun b hob=> ?_⟩
    ·cases hrel with
     | one hrel=>
      cases hrel with | sc hrel=>
      cases hrel with | v hrel=>exact hrel.flat hrf
     | many h=>simp at h
    ·obtain⟨row,l,p',y,k1,k2,k3,k4⟩:=hro.there (j:=0) (by simp);simp only[List.getElem?_cons_zero,Option.some.injEq] at k1
     subst k1;rw[Nat.zero_add] at k3 k4
     have hv:=R.env l;rw[k2] at hv
     have hy:V1Rel (cx (Jb w ms) nm σ w') y (a.tmps.getD l undef):=by cases hv with | v H=>exact H
     obtain⟨u,_,hcr⟩:=hy.cells.get k3
     have hpin:nm (2*99999999999+1)=F b:=by
      have:=R.pin (2*99999999999+1) (by unfold Av; omega);rw[this];exact npOf1_at.trans hob
     rcases hcr.inv_own k4 with ⟨_,k5,_⟩|⟨b',cap,k5,k6,_⟩
     ·have k5':nm (2*99999999999+1)=E:=k5;rw[hpin] at k5'; cases k5'
     ·have k5':nm (2*99999999999+1)=F b':=k5;rw[hpin] at k5'
      cases k5';obtain⟨a1,a2,a3,C1,t1,a4,a5,a6⟩:=k6;exact⟨cap,a1,a2,a3,C1,t1,a4,a5,a6.sh hsh fun q D0 ht ⟨_,cc,tt,fr,⟨_,g2⟩,g3,g4⟩=>⟨cc,tt,fr,⟨htn q (htg q ht),g2⟩,g3,g4⟩⟩
   cases e' with
   | normal=>obtain rfl:e= .normal:=he; exact key hq
   | ret=>obtain rfl:e= .ret:=he; exact key hq
   | exit id=>exact hq.elim
   | pan d=>exact hq.elim
  ·cases he
 ·cases he
theorem Wx(hm:P.follows .mixedOrders=T){f:FuncId}{c:Xd}{ts:G RV}{nt sz:N}{x r:D}{es0 es1:G (G D)}{p:N × N}{σ:St}(he:AB P f=F (c.strip,ts,nt))(h2:Nat.ble 2 nt=T)(hnt:Nat.ble nt 77777=T)(hrf:r.flat=T)
  (hsh:∀q∈es1,∀d∈q,Sh d) (htg:∀b,BC b es1→BC b es0) (hσ:St.initM x sz es0=σ) (h:go P [.code c] (Ch ts r [(sz,es1)] [p]) .normal (F σ)):FCm P f x sz es0 es1 r:=Ww hm he h2 hnt hrf hsh htg (hσ▸H2 h)
end
def AC.apart(rs:Rows)(id:N)(ms:N→Prop):AC→Prop
 | .dat d=>Sh d∧∀b,Tg b d→¬ms b
 | .own k | .osub k _ _ | .pe k _ _=>k=id∨∀s es,A1 rs k=F (s,es)→(∀r∈es,∀d∈r,Sh d)∧∀b,BC b es→¬ms b
 | .mix _=>False
 | _=>True
section
variable {P : Program} {A : Ar} {B : N} {w0 : Base} {w : World} {nm : Ad} {σ : St} {tmps : Array Value}
theorem FCm.callC{f:FuncId}{x r:D}{sz id:N}{es0 es1:G (G D)}(H:FCm P f x sz es0 es1 r)(hl:es1.length=es0.length)(hf:A1 σ.rows id=F (sz,es0))(hsh:∀r∈es0,∀d∈r,Sh d)(hx:x.flat=T)
  (hnew:∀{A:Ar} {B:N} {w0:Base} {w:World} {nm:Ad} {tmps:Array Value},Rel A B w0 nm σ tmps w→A.new=T) (hap:∀c,σ.Uses c→c.apart σ.rows id fun b=>BC b es0) :
  CallC P f [.v (.sc (.own id)),.v (.sc (.dat x))] σ {σ with rows:=put σ.rows id (sz,es1)} (.v (.sc (.dat r))):=by
 intro A B w0 w nm tmps vs R hvs;have hn:=hnew R
 obtain⟨v0,vx,rfl⟩:∃v0 vx,vs= [v0,vx]:=by
  have:=hvs.1
  match vs,this with
  | [a,b],_=>exact⟨a,b,rfl⟩
 have h0:=Lu (X:=cx A nm σ w) (hvs.2 0 _ v0 rfl rfl).inv_sc hf;have hxv:=(hvs.2 1 _ vx rfl rfl).inv_sc.inv_dat;let ms:N→Prop:=fun b=>BC b es0
 have htv:∀b,ms b→∃C,Ab A nm w b C:=fun b hb=>by
  have h0':RCRel (Ab A nm w) w (.o sz es0) v0 (nm (2*id+1)):=h0;exact h0'.tg hb
 have hms:∀b,ms b→(∀i,nm i≠F b)∧(B≤b∨w0.M b)∧b<w.heap.size∧∀fr,A b fr→fr=(0,0):=fun b hb=>by
  obtain⟨C,g1,c,t,fr,g2,g3,_⟩:=htv b hb;exact⟨g1,(R.all.new hn b fr g2).1.elim .inl fun h=> .inr (.inr h),CR g3,fun fr h=>(R.all.new hn b fr h).2⟩
 have hmsA:∀b C,ms b→Ab A nm w b C→Hp ms w b C:=fun b C hb ⟨_,c,t,fr,g2,g3,g4⟩=>⟨c,t,fr,⟨hb,(hms b hb).2.2.2 fr g2⟩,g3,g4⟩
 have hM:∀b,(FL w [nm (2*id+1)] ms).M b→B≤b∨w0.M b:=fun b hb=>by
  rcases hb with ⟨i,_,e⟩|⟨hb,_⟩
  ·exact(R.names _ _ (IK e).2).1
  ·exact(hms b hb).2.1
 have after:∀w2,BelowX w.heap.size (FL w [nm (2*id+1)] ms) w2→BelowX B w0 w2:=fun w2 h=>R.below.afterZ rfl h R.size R.there hM fun b hb=>hb.elim
 have hrc:RCRel (Hp ms w) w (.o sz es0) v0 (nm (2*id+1)):=by
  have h0':RCRel (Ab A nm w) w (.o sz es0) v0 (nm (2*id+1)):=h0;revert h0'
  generalize nm (2*id+1)=o
  intro h0';cases h0' with
  | nil=>exact .nil
  | o own hl=>
   obtain⟨a1,a2,a3,C,t,a4,a5,a6⟩:=own;exact .o ⟨a1,a2,a3,C,t,a4,a5,a6.sh hsh fun b C ht hC=>hmsA b C ht hC⟩ hl
 refine(H w v0 vx (nm (2*id+1)) ms (fun b e=>⟨(R.names _ _ e).2,fun hb=>(hms b hb).1 _ e⟩) (fun w2 h=>R.good w2 (after w2 h)) hrc (hxv.flat hx)).mono fun e w' h=> ?_
 obtain⟨v,rfl,hb,hv,hrow⟩:=h;have hsame:∀b,b<w.heap.size→nm (2*id+1)≠F b→¬ms b→w'.heap[b]?=w.heap[b]?:=fun b hlt h1 h2=>hb.block b hlt (fun hm=>hm.elim (fun⟨i,_,e⟩=>h1 (IK e).2) fun h=>h2 h.1) fun h=>h.elim
 have hview:∀b C,¬ms b→Ab A nm w b C→Ab A nm w' b C:=fun b C hn ⟨g1,c,t,fr,g2,g3,g4⟩=>⟨g1,c,t,fr,g2,(hsame b (CR g3) (g1 _) hn).trans g3,g4⟩
 have hnb:∀i b,nm i=F b→¬ms b:=fun i b hi hb=>(hms b hb).1 i hi
 refine⟨v,nm,O,?_,.v (.sc (.dat (hv.mono Ep)))⟩;refine R.carry (f:=fun c=>c) (after w' hb) (zE R.size hb.size) (fun i b hi=> ?_) R.inj (fun _ _=>rfl) (fun k=>by rw[AV.mapId]; rfl) (fun k=>by simp) (fun k cs _ b hbn=>⟨hbn,hsame b (R.names _ _ hbn).2 (fun e=> ?_) (hnb _ _ hbn)⟩) (fun c v hu hr=> ?_)
 ·obtain⟨h1,h2⟩:=R.names i b hi;exact⟨h1,zF h2 hb.size⟩
 ·have:=R.inj _ _ _ hbn e; omega
 ·have hac:=hap c hu;have hsh:=hr.shift (Y:=cx A nm {σ with rows:=put σ.rows id (sz,es1)} w') (g:=fun d=>d) (fun d u e hd=> ?_) (fun _=>rfl) (fun k hk=> ?_) (fun k s es hh hfk=> ?_) ⟨rfl,rfl,rfl⟩
  ·have e:AC.mapD (fun d=>d) c=c:=by cases c<;>first | rfl | exact hac.elim
   rwa [e] at hsh
  ·subst e;exact hd.sh hac.1 fun b C ht hC=>hview b C (hac.2 b ht) hC
  ·have hk':A1 σ.rows k=E:=hk;show A1 (put σ.rows id (sz,es1)) k=E
   rw[Bb _ _ (fun e=>by subst e; rw[hk'] at hf; cases hf)];exact hk'
  ·have hfk':A1 σ.rows k=F (s,es):=hfk;by_cases hki:k=id
   ·subst hki;rw[hf] at hfk'
    cases hfk';refine⟨es1,hl,B9 _ _ _,fun b cap hbn ho=> ?_⟩;obtain⟨cap',a1,a2,a3,C1,t1,a4,a5,a6⟩:=hrow b hbn;obtain⟨b1,b2,b3,C0,t0,b4,b5,b6⟩:=ho
    have hcap:cap'=cap:=by
     obtain⟨C',q1,q2⟩:=hb.room b (.inl ⟨Av+1,by omega,by
      have:=IL (bs:= [nm (2*k+1)]) (j:=0) (o:=nm (2*k+1)) rfl;rw[show Av+2*0+1=Av+1 by omega] at this
      exact this.trans hbn⟩) C0 t0 _ b4
     rw[a4] at q1
     cases q1;exact zB b1 (a5.symm.trans (q2.trans b5))
    subst hcap
    exact⟨a1,a2,a3,C1,t1,a4,a5,a6.mono fun b C ⟨cc,tt,fr,⟨g1,g2⟩,g3,g4⟩=>by
     obtain⟨C9,h8,c9,t9,fr9,h9,_,_⟩:=htv b g1;subst g2;have e9:=(hms b g1).2.2.2 fr9 h9;subst e9;exact⟨h8,cc,tt,_,h9,g3,g4⟩⟩
   ·refine⟨es,O,?_,fun b cap hbn ho=> ?_⟩
    ·show A1 (put σ.rows id (sz,es1)) k=_
     rw[Bb _ _ hki];exact hfk'
    ·have hak:(∀r∈es,∀d∈r,Sh d)∧∀b,BC b es→¬ms b:=by
      cases c<;>first
       | (cases hh; done)
       | skip
      all_goals
       simp only[AC.has,beq_iff_eq] at hh
       subst hh;exact hac.elim (fun e=>absurd e hki) fun h=>h s es hfk'
     obtain⟨b1,b2,b3,C0,t0,b4,b5,b6⟩:=ho;have hne:nm (2*id+1)≠F b:=fun e=>by have:=R.inj _ _ _ hbn e; omega
     exact⟨b1,b2,b3,C0,t0,(hsame b (R.names _ _ hbn).2 hne (hnb _ _ hbn)).trans b4,b5,b6.sh hak.1 fun b C ht hC=>hview b C (hak.2 b ht) hC⟩
end
def FE(k:L N)(bs:G N)(es:G (G D)):G (G D):=List.zipWith (fun b r=>r.map (D.tagW k b)) bs es
def Hu(r:G D):Prop:=∃p es q,r=p++ .sl es::q∧(∀d∈p,d.flat=T)∧∀d∈q,d.flat=T
theorem pK{k:L N}{b:N}{d:D}(h:d.flat=T):D.tagW k b d=d:=by cases d<;>first | rfl | cases h
theorem Pw{k:L N}{b:N}:∀{ds:G D},(∀d∈ds,d.flat=T)→ds.map (D.tagW k b)=ds
 | [],_=>rfl
 | d::ds,h=>by rw[zI,pK (h d Z),Pw fun d hd=>h d (V _ hd)]
theorem Rep.stamp{h:A6}{es:G (G D)}{v:Value}(R:Rep h (.sl es) v):∃b,Rep h (D.tagW E b (.sl es)) v:=by
 cases R with
 | nil=>exact⟨0,.nil⟩
 | @sl _ b C sz off cap len a z g c d e=>
  cases es with
  | nil=>simp at c; subst c; exact⟨0,.nil⟩
  | cons x es=>exact⟨b,.slb a z g c d e fun s hs=>by cases hs⟩
theorem Reps.stamp0{h:A6}:∀{p:G D} {es:G (G D)} {q:G D} {vs:G Value},Reps h (p++ .sl es::q) vs→∃b,Reps h (p++D.tagW E b (.sl es)::q) vs
 | [],_,_,_,.cons a r=>by obtain⟨b,hb⟩:=a.stamp; exact⟨b,.cons hb r⟩
 | _::_,_,_,_,.cons a r=>by obtain⟨b,hb⟩:=Reps.stamp0 r; exact⟨b,.cons a hb⟩
theorem Reps.stamp{h:A6}{r:G D}{vs:G Value}(H:Reps h r vs)(ho:Hu r):∃b,Reps h (r.map (D.tagW E b)) vs:=by
 obtain⟨p,es,q,rfl,hp,hq⟩:=ho;obtain⟨b,hb⟩:=H.stamp0;refine⟨b,?_⟩;rw[List.map_append,zI,Pw hp,Pw hq];exact hb
theorem RepRows.stamp{h:A6}{sz:N}:∀{es:G (G D)} {vs:G Value},RepRows h sz es vs→(∀r∈es,Hu r)→∃bs:G N,bs.length=es.length∧RepRows h sz (FE E bs es) vs
 | _,_,.nil,_=>⟨[],rfl,.nil⟩
 | _,_,.cons a b c,H=>by
  obtain⟨x,hx⟩:=b.stamp (H _ Z);obtain⟨bs,h1,h2⟩:=c.stamp fun r hr=>H r (V _ hr)
  exact⟨x::bs,by simp[h1],.cons (by simpa using a) hx h2⟩
theorem Va{k:L N}{bs:G N}{es:G (G D)}(h:bs.length=es.length):(FE k bs es).length=es.length:=by simp[FE,h]
theorem RCRel.stamp{h:A6}{w:World}{sz:N}{es:G (G D)}{v:Value}{o:L N}(H:RCRel h w (.o sz es) v o)(ho:∀r∈es,Hu r):∃bs:G N,bs.length=es.length∧RCRel h w (.o sz (FE E bs es)) v o:=by
 cases H with
 | nil=>exact⟨[],rfl,.nil⟩
 | o a hl=>
  obtain⟨a1,a2,a3,C,t,a4,a5,a6⟩:=a;obtain⟨bs,h1,h2⟩:=a6.stamp ho;exact⟨bs,h1,.o ⟨a1,by rw[Va h1]; exact a2,a3,C,t,a4,a5,h2⟩ (by rw[Va h1]; exact hl)⟩
theorem RRel.stamp{h:A6}{w:World}{sz:N}{es:G (G D)}{rs:G R1}{v:Value}{bs:G (L N)}(H:RRel h w (.sc (.o sz es)::rs) v bs)(ho:∀r∈es,Hu r):∃ts:G N,ts.length=es.length∧RRel h w (.sc (.o sz (FE E ts es))::rs) v bs:=by
 cases H with
 | one a=>
  cases a with | sc a=>
  obtain⟨ts,h1,h2⟩:=a.stamp ho;exact⟨ts,h1,.one (.sc h2)⟩
 | many hl a=>
  cases a with | cons a b=>
  cases a with | sc a=>
  obtain⟨ts,h1,h2⟩:=a.stamp ho;exact⟨ts,h1,.many (by simpa using hl) (.cons (.sc h2) b)⟩
def FCi(P:Program)(f:FuncId)(ds:G DV)(RS:G R1→Prop):Prop:=
 ∀(w:World) (A:AY) (vs:G Value),GoodW w→DVRels (Af A w) ds vs→Calls P f vs.toArray w fun e w'=>
  ∃(rs:G R1) (v:Value) (bs:G (L N)),RS rs∧e= .returned v∧RowKit.Below w.heap.size w w'∧RRel (Af (fun b fr=>F b∉bs∧((w.heap.size≤b∧fr=(0,0))∨A b fr)) w') w' rs v bs∧
   (∀b,F b∈bs→w.heap.size≤b∧b<w'.heap.size)∧(∀(i j b:N),bs[i]?=F (F b)→bs[j]?=F (F b)→i=j)
theorem FC.stamp{P:Program}{f:FuncId}{ds:G DV}{sz:N}{es:G (G D)}{rs:G R1}(H:FC P f ds (.sc (.o sz es)::rs))(ho:∀r∈es,Hu r):FCi P f ds fun rs'=>∃ts:G N,ts.length=es.length∧rs'= .sc (.o sz (FE E ts es))::rs:=fun w A vs hG hvs=>
 (H w A vs hG hvs).mono fun e w' ⟨v,bs,h1,h2,h3,h4⟩=>by
  obtain⟨ts,k1,k2⟩:=h3.stamp ho;exact⟨_,v,bs,⟨ts,k1,O⟩,h1,h2,k2,h4⟩
def IV:G AV→L (G DV)
 | []=>F []
 | x::xs=>match Hm x,IV xs with
  | some d,F ds=>F (d::ds)
  | _,_=>E
section
variable {P : Program} {A : Ar} {B : N} {w0 : Base} {w : World} {nm : Ad} {σ : St} {tmps : Array Value}
theorem Vh:∀{avs:G AV} {vs:G Value} {ds:G DV},VsRel (cx A nm σ w) avs vs→IV avs=F ds→DVRels (Ab A nm w) ds vs
 | [],vs,ds,H,h=>by
  obtain rfl:vs= []:=I.1 H.1.symm;simp[IV] at h;subst h;exact .nil
 | x::avs,vs,ds,H,h=>by
  unfold IV at h;split at h
  ·rename_i d ds' h1 h2
   cases h;cases vs with
   | nil=>have:=H.1; simp at this
   | cons v vs=>exact .cons (IW (X:=cx A nm σ w) (H.2 0 x v rfl rfl) h1) (Vh ⟨by have:=H.1; simpa using this,fun i u v hu hv=>H.2 (i+1) u v (by simpa using hu) (by simpa using hv)⟩ h2)
  ·cases h
theorem FCi.callS{f:FuncId}{ds:G DV}{RS:G R1→Prop}(H:FCi P f ds RS){d:N}{avs:G AV}(hx:IV avs=F ds)(hfr:σ.fresh d=T)(h64:∀rs,RS rs→(rs.flatMap R1.cells).length≤64) :
  LV P f avs σ fun σ' r=>∃rs,RS rs∧σ'={σ with rows:=B7 σ.rows (Bq d rs)}∧r=Bt d rs:=by
 intro A B w0 w nm tmps vs R hvs;refine(H w (fun b fr=>(∀i,nm i≠F b)∧A b fr) vs (R.good w R.below) (by rw[D2]; exact Vh hvs hx)).mono fun e w' h=> ?_
 obtain⟨rs,v,bs,hrs,rfl,h2,h3,h4,h5⟩:=h;obtain⟨nm',R',hv⟩:=R.behind0 hfr (h64 _ hrs) (.inl fun b fr h=>h) h2 h3 h4 h5;exact⟨v,nm',_,_,O,⟨rs,hrs,O,O⟩,R',hv⟩
theorem fM{k:G Fr}{Q:Xg→St→Prop}{its:G AItem}{d f:N}{args:G Opd}{ds:G DV}{RS:G R1→Prop}(H:FCi P f ds RS)(hx:IV (args.map σ.val)=F ds)(hfr:σ.fresh d=T)(h64:∀rs,RS rs→(rs.flatMap R1.cells).length≤64)
  (h:∀rs,RS rs→go P (.ops its::k) Q .normal (F (σ.inst d rs))):go P (.ops ((E,.call d f args)::its)::k) Q .normal (F σ):=
 .inr (.inr ⟨_,H.callS hx hfr h64,fun _ _ ⟨rs,h1,e1,e2⟩=>by subst e1 e2; exact h rs h1⟩)
end
def NP:AC→L D
 | .dat d | .old d | .mix d=>F d
 | .nil=>F (.sl [])
 | _=>E
def IZ:G AC→L (G D)
 | []=>F []
 | c::cs=>match NP c,IZ cs with
  | some d,F ds=>F (d::ds)
  | _,_=>E
def NQ:AV→L DV
 | .v (.sc c)=>(NP c).map .sc
 | .v (.ag cs)=>(IZ cs).map .ag
 | _=>E
def IY:G AV→L (G DV)
 | []=>F []
 | x::xs=>match NQ x,IY xs with
  | some d,F ds=>F (d::ds)
  | _,_=>E
def Nz(d:D):AC:=bif d.fl then .dat d else .mix d
def RC.mx:RC→L AC
 | .v d=>F (Nz d)
 | _=>E
def Lo:G RC→L (G AC)
 | []=>F []
 | c::cs=>match c.mx,Lo cs with
  | some x,F xs=>F (x::xs)
  | _,_=>E
def R1.mx:R1→L V1
 | .sc c=>c.mx.map .sc
 | .ag cs=>(Lo cs).map .ag
def IJ:G R1→L (G V1)
 | []=>F []
 | r::rs=>match r.mx,IJ rs with
  | some x,F xs=>F (x::xs)
  | _,_=>E
def II:G R1→L AV
 | [r]=>r.mx.map .v
 | rs=>(IJ rs).map .tup
section
variable {P : Program} {A : Ar} {B : N} {w0 : Base} {w : World} {nm : Ad} {σ : St} {tmps : Array Value}
def Cv(A:Ar)(nm:Ad)(w:World):A6:=fun b C=>A.o b C∨Ab A nm w b C
theorem Vm{c:AC}{v:Value}{d:D}(H:CRel (cx A nm σ w) c v)(hd:NP c=F d):Rep (Cv A nm w) d v:=by
 cases c<;>simp only[NP,Option.some.injEq,reduceCtorEq] at hd<;>subst hd
 case dat=>exact H.inv_dat.mono fun b C h=> .inr h
 case nil=>cases H; exact .nil
 case old=>cases H with | old _ H=>exact H.mono fun b C h=> .inl h
 case mix=>cases H with | mix H=>exact H
theorem PY:∀{cs:G AC} {vs:G Value} {ds:G D},CRels (cx A nm σ w) cs vs→IZ cs=F ds→Reps (Cv A nm w) ds vs∧ds.length=vs.length
 | [],_,ds,.nil,h=>by simp[IZ] at h; subst h; exact⟨.nil,rfl⟩
 | c::cs,_,ds,.cons a b,h=>by
  unfold IZ at h;split at h
  ·rename_i d ds' h1 h2
   cases h;obtain⟨k1,k2⟩:=PY b h2;exact⟨.cons (Vm a h1) k1,by simp[k2]⟩
  ·cases h
theorem Vl{av:AV}{v:Value}{d:DV}(H:VRel (cx A nm σ w) av v)(hd:NQ av=F d):DVRel (Cv A nm w) d v:=by
 unfold NQ at hd
 split at hd
 ·simp only[U] at hd
  obtain⟨d',h1,rfl⟩:=hd;exact .sc (Vm H.inv_sc h1)
 ·simp only[U] at hd
  obtain⟨ds,h1,rfl⟩:=hd;obtain⟨vs,rfl,hcs⟩:=H.inv_ag;obtain⟨h2,h3⟩:=PY hcs h1;exact .ag h2 h3
 ·cases hd
theorem Vk:∀{avs:G AV} {vs:G Value} {ds:G DV},VsRel (cx A nm σ w) avs vs→IY avs=F ds→DVRels (Cv A nm w) ds vs
 | [],vs,ds,H,h=>by
  obtain rfl:vs= []:=I.1 H.1.symm;simp[IY] at h;subst h;exact .nil
 | x::avs,vs,ds,H,h=>by
  unfold IY at h;split at h
  ·rename_i d ds' h1 h2
   cases h;cases vs with
   | nil=>have:=H.1; simp at this
   | cons v vs=>exact .cons (Vl (H.2 0 x v rfl rfl) h1) (Vk ⟨by have:=H.1; simpa using this,fun i u v hu hv=>H.2 (i+1) u v (by simpa using hu) (by simpa using hv)⟩ h2)
  ·cases h
theorem D.fl_flat{d:D}(h:d.fl=T):d.flat=T:=by cases d<;>first | rfl | cases h
theorem lM{d:D}{v:Value}(H:Rep (Cv A nm w) d v):CRel (cx A nm σ w) (Nz d) v:=by
 unfold Nz;cases hf:d.fl with
 | true=>exact .dat (H.flat (D.fl_flat hf))
 | false=>exact .mix H
theorem TW{h:A6}(hh:∀b C,h b C→Cv A nm w b C){c:RC}{v:Value}{o:L N}{x:AC}{W:World}(H:RCRel h W c v o)(hc:c.mx=F x):CRel (cx A nm σ w) x v:=by
 cases H with
 | v a=>cases hc; exact lM (a.mono hh)
 | nil=>cases hc
 | o=>cases hc
theorem TT{h:A6}(hh:∀b C,h b C→Cv A nm w b C){W:World}:∀{cs:G RC} {vs:G Value} {bs:G (L N)} {xs:G AC},RCRels h W cs vs bs→Lo cs=F xs→CRels (cx A nm σ w) xs vs
 | _,_,_,xs,.nil,e=>by simp[Lo] at e; subst e; exact .nil
 | _,_,_,xs,.cons a b,e=>by
  unfold Lo at e
  split at e
  ·rename_i x xs' h1 h2
   cases e;exact .cons (TW hh a h1) (TT hh b h2)
  ·cases e
theorem TS{h:A6}(hh:∀b C,h b C→Cv A nm w b C){W:World}{r:R1}{v:Value}{bs:G (L N)}{x:V1}(H:R1Rel h W r v bs)(e:r.mx=F x):V1Rel (cx A nm σ w) x v:=by
 cases H with
 | sc a=>
  simp only[R1.mx,U] at e
  obtain⟨y,h1,rfl⟩:=e;exact .sc (TW hh a h1)
 | ag a=>
  simp only[R1.mx,U] at e
  obtain⟨y,h1,rfl⟩:=e;exact .ag (TT hh a h1)
theorem TU{h:A6}(hh:∀b C,h b C→Cv A nm w b C){W:World}:∀{rs:G R1} {vs:G Value} {bs:G (L N)} {xs:G V1},R1Rels h W rs vs bs→IJ rs=F xs→V1Rels (cx A nm σ w) xs vs
 | _,_,_,xs,.nil,e=>by simp[IJ] at e; subst e; exact .nil
 | _,_,_,xs,.cons a b,e=>by
  unfold IJ at e
  split at e
  ·rename_i x xs' h1 h2
   cases e;exact .cons (TS hh a h1) (TU hh b h2)
  ·cases e
theorem lc{h:A6}(hh:∀b C,h b C→Cv A nm w b C){W:World}{rs:G R1}{v:Value}{bs:G (L N)}{x:AV}(H:RRel h W rs v bs)(e:II rs=F x):VRel (cx A nm σ w) x v:=by
 cases H with
 | one a=>
  simp only[II,U] at e
  obtain⟨y,h1,rfl⟩:=e;exact .v (TS hh a h1)
 | many hl a=>
  have e2:II rs=(IJ rs).map .tup:=by
   unfold II;split
   ·simp at hl
   ·rfl
  rw[e2] at e
  simp only[U] at e
  obtain⟨y,h1,rfl⟩:=e;exact .tup (TU hh a h1)
theorem FC.callM{f:FuncId}{ds:G DV}{rs:G R1}{x:AV}(H:FC P f ds rs){avs:G AV}(hx:IY avs=F ds)(hr:II rs=F x):CallC P f avs σ σ x:=by
 intro A B w0 w nm tmps vs R hvs
 have hin:∀b C,Cv A nm w b C→Af (fun b fr=>(∃C,A.o b C)∨((∀i,nm i≠F b)∧A b fr)) w b C:=fun b C h=>by
  rcases h with h|⟨g1,c,t,fr,g2,g3,g4⟩
  ·obtain⟨c,t,fr,k1,k2⟩:=R.oldAt h;exact⟨c,t,fr,.inl ⟨C,h⟩,k1,k2⟩
  ·exact⟨c,t,fr,.inr ⟨g1,g2⟩,g3,g4⟩
 refine(H w _ vs (R.good w R.below) ((Vk hvs hx).mono hin)).mono fun e w' h=> ?_
 obtain⟨v,bs,rfl,hb,hres,hn,_⟩:=h;have hsame:∀b,b<w.heap.size→w'.heap[b]?=w.heap[b]?:=fun b h=>hb.block b h
 have hview:∀b C,Ab A nm w b C→Ab A nm w' b C:=fun b C ⟨g1,c,t,fr,g2,g3,g4⟩=>⟨g1,c,t,fr,g2,(hsame b (CR g3)).trans g3,g4⟩
 have hout:∀b C,Af (fun b fr=>F b∉bs∧((w.heap.size≤b∧fr=(0,0))∨((∃C,A.o b C)∨((∀i,nm i≠F b)∧A b fr)))) w' b C→Cv A nm w' b C:=by
  rintro b C ⟨c,t,fr,⟨_,k⟩,k2,k3⟩
  rcases k with ⟨k,rfl⟩|⟨C0,k⟩|⟨k,k'⟩
  ·refine .inr ⟨fun i e=> ?_,c,t,_,R.all.all b (.inl (zE R.size k)),k2,k3⟩;have:=(R.names i b e).2;omega
  ·obtain⟨c1,t1,Ap,q1,q2⟩:=R.oldAt k;rw[hsame b (CR q1),q1] at k2
   cases k2;exact .inl ((q2.symm.trans k3)▸k)
  ·exact .inr ⟨k,c,t,fr,k',k2,k3⟩
 refine⟨v,nm,O,?_,lc (σ:=σ) hout hres hr⟩;refine R.carry (f:=fun c=>c) (R.below.trans R.there hb R.size) (zE R.size hb.size) (fun i b hi=> ?_) R.inj (fun _ _=>rfl) (fun k=>by rw[AV.mapId]) (fun id=>by simp) (fun id cs _ b hbn=>⟨hbn,hsame b (R.names _ _ hbn).2⟩) (fun c v _ hr=> ?_)
 ·obtain⟨h1,h2⟩:=R.names i b hi;exact⟨h1,zF h2 hb.size⟩
 ·exact hr.move hview (fun id _=> .inr ⟨O,O,fun b hbn=>hsame b (R.names _ _ hbn).2⟩) (fun id _ b hbn=>hbn)
theorem RW{k:G Fr}{Q:Xg→St→Prop}{its:G AItem}{d f:N}{args:G Opd}{ds:G DV}{rs:G R1}{x:AV}(hf:FC P f ds rs)(hx:IY (args.map σ.val)=F ds)(hr:II rs=F x)
  (h:go P (.ops its::k) Q .normal (F (σ.set d x))):go P (.ops ((E,.call d f args)::its)::k) Q .normal (F σ):=It (hf.callM hx hr) h
theorem FCf.asV{P:Program}{f:FuncId}{ds:G DV}{rs rs':G R1}(H:FCf P f ds rs)(e:rs.map R1.asV=rs'):FCf P f ds rs':=by
 subst e;intro w A vs hG hvs;refine(H w A vs hG hvs).mono fun e w' h=> ?_
 obtain⟨v,bs,rfl,h2,h3,h4,_⟩:=h;refine⟨v,bs.map fun _=>E,O,h2,h3.asV (fun b C ⟨c,t,fr,⟨_,k2⟩,k3⟩=>⟨c,t,fr,⟨Fu,k2⟩,k3⟩) (fun k hk C t hC=>⟨C,t,_,⟨Fu,.inl ⟨(h4 k hk).1,O⟩⟩,hC,O⟩),fun b hb=>absurd hb Fu,fun i j b hi _=> ?_⟩;exact absurd (List.mem_of_getElem? hi) Fu
def Jf(σ:St):G N→L (G D)
 | []=>F []
 | i::is=>match (A1 σ.bx i).bind IZ,Jf σ is with
  | some ds,F r=>F (.pd ds::r)
  | _,_=>E
def Q0(σ:St)(id:N):AV→L TV
 | .v (.sc (.own k))=>bif k==id then F .r else E
 | .v (.sc (.clo f ids))=>(Jf σ ids).map fun ds=> .d (.sc (.clo f ds))
 | x=>(NQ x).map .d
def J1(σ:St)(id:N):G AV→L (G TV)
 | []=>F []
 | x::xs=>match Q0 σ id x,J1 σ id xs with
  | some y,F ys=>F (y::ys)
  | _,_=>E
theorem Rel.notOwn(R:Rel A B w0 nm σ tmps w){b:N}{C:G Value}{i:N}(h:Cv A nm w b C):nm i≠F b:=fun e=>by
 rcases h with h|h
 ·obtain⟨h1,h2,_⟩:=R.all.old b C h;rcases(R.names i b e).1 with h|h
  ·omega
  ·exact h2 h
 ·exact h.1 i e
theorem Q9(R:Rel A B w0 nm σ tmps w){i:N}:∀b C,Cv A nm w b C→Af (fun b _=>nm i≠F b) w b C:=fun b C h=>by
 have hn:=R.notOwn (i:=i) h;rcases h with h|⟨g1,c,t,fr,g2,g3,g4⟩
 ·obtain⟨c,t,fr,k1,k2⟩:=R.oldAt h;exact⟨c,t,fr,hn,k1,k2⟩
 ·exact⟨c,t,fr,hn,g3,g4⟩
theorem Ot(R:Rel A B w0 nm σ tmps w){id:N}:∀{ids bs:G N} {ds:G D},ids.mapM (fun i=>nm (2*i))=F bs→Jf σ ids=F ds→Reps (Af (fun b _=>nm (2*id+1)≠F b) w) ds (bs.map fun b=>Value.pointer (F ⟨b,0,E⟩))∧ds.length=bs.length
 | [],bs,ds,hb,hd=>by
  simp at hb
  subst hb;simp[Jf] at hd
  subst hd;exact⟨.nil,O⟩
 | i::ids,bs,ds,hb,hd=>by
  simp only[List.mapM_cons,Option.bind_eq_bind,Option.pure_def] at hb
  cases hn:nm (2*i) with
  | none=>simp[hn] at hb
  | some b=>
   cases hr:ids.mapM (fun i=>nm (2*i)) with
   | none=>simp[hn,hr] at hb
   | some bs'=>
    simp[hn,hr] at hb
    subst hb;simp only[Jf] at hd
    split at hd
    ·rename_i d ds' h1 h2
     cases hd;obtain⟨h3,h4⟩:=Ot R hr h2;simp only[Option.bind_eq_some_iff] at h1
     obtain⟨cs,hcs,h1⟩:=h1;obtain⟨b',C,t,k1,k2,k3⟩:=R.bxs i cs hcs;have e:b'=b:=Option.some.inj (k1.symm.trans hn);subst e;refine⟨.cons (.pd (C:=C.toList) ⟨C,t,_,fun e=> ?_,k2,O⟩ ?_) h3,by simp[h4]⟩
     ·have:=R.inj _ _ _ hn e;omega
     ·simpa using(PY k3 h1).1.mono (Q9 R)
    ·cases hd
theorem pi(R:Rel A B w0 nm σ tmps w){id sz:N}{es:G (G D)}(hf:A1 σ.rows id=F (sz,es)){av:AV}{v:Value}{x:TV}(H:VRel (cx A nm σ w) av v)(h:Q0 σ id av=F x):TVRel (Af (fun b _=>nm (2*id+1)≠F b) w) w (nm (2*id+1)) sz es x v:=by
 unfold Q0 at h;split at h
 ·rename_i k
  by_cases hk:k=id
  ·subst hk;simp at h;subst h;exact .r (RCRel.conv (Lu (X:=cx A nm σ w) H.inv_sc hf) (.inl fun b C h=>Q9 R b C (.inr h)))
  ·have:(k==id)=false:=by simpa using hk
   simp[this] at h
 ·simp only[U] at h;obtain⟨ds,h1,rfl⟩:=h;have hc:=H.inv_sc;cases hc with | clo hb=>
  exact .d (.sc (.clo (Ot R hb h1).1 (by simpa using(Ot (id:=id) R hb h1).2)))
 ·simp only[U] at h;obtain⟨d,h1,rfl⟩:=h;exact .d ((Vl H h1).mono (Q9 R))
theorem Vo(R:Rel A B w0 nm σ tmps w){id sz:N}{es:G (G D)}(hf:A1 σ.rows id=F (sz,es))(hid:id<99999999999):∀{avs:G AV} {vs:G Value} {xs:G TV},VsRel (cx A nm σ w) avs vs→J1 σ id avs=F xs→TVRels (Af (fun b _=>nm (2*id+1)≠F b) w) w (nm (2*id+1)) sz es xs vs
 | [],vs,xs,H,h=>by
  simp[J1] at h;subst h;obtain rfl:vs= []:=I.1 H.1.symm;exact .nil
 | a::avs,vs,xs,H,h=>by
  unfold J1 at h;split at h
  ·rename_i x xs' h1 h2
   cases h;cases vs with
   | nil=>have:=H.1; simp at this
   | cons v vs=>
    exact .cons (pi R hf (H.2 0 a v O O) h1) (Vo R hf hid ⟨by have:=H.1; simpa using this,fun i u v hu hv=>H.2 (i+1) u v (by simpa using hu) (by simpa using hv)⟩ h2)
  ·cases h
theorem FCt.callT{f:FuncId}{xs:G TV}{sz:N}{es0 es1:G (G D)}(H:FCt P f xs sz es0 es1){id d:N}{avs:G AV}(hx:J1 σ id avs=F xs)(hsh:∀r∈es1,∀d∈r,Sh d)(htg:∀b,BC b es1→BC b es0)(hf:A1 σ.rows id=F (sz,es0))(ho:∃k:N,avs[k]?=F (AV.v (.sc (.own id))))(hfr:σ.fresh d=T)(hid:id<99999999999)(hne:id≠d*64) :
  CallC P f avs σ (σ.behindT id d sz es1) (.v (.sc (.own (d*64)))):=by
 intro A B w0 w nm tmps vs R hvs;have hM:∀b,(EH w (nm (2*id+1))).M b→nm (2*id+1)=F b:=fun b h=>Oj h
 refine(H w (fun b _=>nm (2*id+1)≠F b) vs (nm (2*id+1)) (fun b e=>⟨(R.names _ _ e).2,fun _ h=>h e⟩) (fun w2 hb2=>R.good w2 (R.below.afterZ O hb2 R.size R.there (fun b hm=>(R.names _ _ (hM b hm)).1) fun b hv=>hv.elim)) (Vo R hf hid hvs hx)).mono fun e w' h=> ?_
 obtain⟨v,o',rfl,hn,hb,hr⟩:=h;have hfew:=St.fresh_few hfr;have hsame:∀b,b<w.heap.size→nm (2*id+1)≠F b→w'.heap[b]?=w.heap[b]?:=fun b hlt h=>hb.block b hlt (fun hm=>h (hM b hm)) fun hv=>hv.elim
 let nm':Ad:=fun n=>if n=2*id+1 then E else if n=2*(d*64)+1 then o' else nm n
 have hcas:∀n b,nm' n=F b→(n=2*(d*64)+1∧o'=F b)∨(n≠2*id+1∧n≠2*(d*64)+1∧nm n=F b):=fun n b h=>by
  simp only[nm'] at h;split at h
  ·cases h
  ·rename_i h1
   split at h
   ·rename_i h2; exact .inl ⟨h2,h⟩
   ·rename_i h2; exact .inr ⟨h1,h2,h⟩
 have hbel:BelowX B w0 w':=R.below.afterZ rfl hb R.size R.there (fun b hm=>(R.names _ _ (hM b hm)).1) fun b hv=>hv.elim
 have hview:∀b C,Ab A nm w b C→Ab A nm' w' b C:=Cf fun b hlt hnb=>⟨fun i e=>by
  rcases hcas i b e with ⟨_,e2⟩|⟨_,_,e2⟩
  ·rcases(hn b e2).1 with h|h
   ·omega
   ·exact hnb _ h
  ·exact hnb i e2,hsame b hlt (hnb _)⟩
 have RK:=R.killed id
 have hrow:∀k,k≠id→k / 64≠d→A1 (σ.behindT id d sz es1).rows k=A1 σ.rows k:=fun k h1 h2=>by
  show A1 (put (erase σ.rows [id]) (d*64) (sz,es1)) k=_
  rw[Bb _ _ (by omega),Fh];have: [id].contains k=false:=by simpa using h1
  rw[this];rfl
 have hcell:∀c v,(σ.map (AC.kill id)).Uses c→CRel (cx A nm (σ.map (AC.kill id)) w) c v→CRel (cx A nm' (σ.behindT id d sz es1) w') c v:=fun c v hu H=>by
  obtain⟨c0,hu0,rfl⟩:=Q6 hu
  have hfd:∀k,(AC.kill id c0).has k=T→k≠id∧k / 64≠d:=fun k hk=>by
   obtain⟨q1,q2⟩:=OP hk;refine⟨q2,fun e=> ?_⟩;have:=Q7 q1;rw[e,St.fresh_uses hfr hu0] at this
   cases this
  refine H.move hview (fun k hk=> .inr ?_) (fun k hk b hb2=> ?_)
  ·obtain⟨q1,q2⟩:=hfd k hk;refine⟨hrow k q1 q2,?_,fun b hbn=>hsame b (R.names _ b hbn).2 fun e=> ?_⟩
   ·show nm' (2*k+1)=nm (2*k+1)
    simp only[nm'];rw[if_neg (by omega),if_neg (by omega)]
   ·have:=R.inj _ _ _ hbn e;omega
  ·show nm' (2*k)=F b
   simp only[nm'];rw[if_neg (by omega),if_neg (by omega)];exact hb2
 have hold:∀b,BC b es1→∀C,AS w' b C→Ab A nm' w' b C:=fun b ht C hC=>by
  obtain⟨C0,h0⟩:∃C0,Ab A nm w b C0:=by
   obtain⟨k,hk⟩:=ho
   obtain⟨v9,hv9⟩:∃v9,vs[k]?=F v9:=by
    have:=(zH.1 hk).1;rw[hvs.1] at this
    exact⟨_,List.getElem?_eq_getElem this⟩
   have:=Lu (X:=cx A nm σ w) (hvs.2 k _ _ hk hv9).inv_sc hf;exact RCRel.tg (c:= .o sz es0) this (htg b ht)
  obtain⟨g1,c,t,fr,g2,g3,g4⟩:=hview b C0 h0;obtain⟨c',t',fr',k1,rfl⟩:=hC;rw[g3] at k1
  cases k1;exact⟨g1,c,t,fr,g2,g3,O⟩
 refine⟨v,nm',O,⟨hbel,zE R.size hb.size,R.all,R.good,fun i b hi=> ?_,fun i j b hi hj=> ?_,fun i hi=> ?_,fun k=> ?_,fun k cs hcs=> ?_⟩,?_⟩
 ·rcases hcas i b hi with ⟨_,e2⟩|⟨_,_,e2⟩
  ·obtain⟨g1,g2⟩:=hn b e2;exact⟨g1.elim (fun h=> .inl (zE R.size h)) fun h=>(R.names _ _ h).1,g2⟩
  ·obtain⟨h1,h2⟩:=R.names i b e2;exact⟨h1,zF h2 hb.size⟩
 ·have old:∀k,k≠2*id+1→nm k=F b→o'=F b→False:=fun k hk e e2=>by
   rcases(hn b e2).1 with h|h
   ·have:=(R.names k b e).2; omega
   ·exact hk (R.inj _ _ _ e h)
  rcases hcas i b hi with ⟨i1,i2⟩|⟨i1,i3,i2⟩
  ·rcases hcas j b hj with ⟨j1,j2⟩|⟨j1,_,j2⟩
   ·omega
   ·exact(old j j1 j2 i2).elim
  ·rcases hcas j b hj with ⟨j1,j2⟩|⟨j1,_,j2⟩
   ·exact(old i i1 i2 j2).elim
   ·exact R.inj i j b i2 j2
 ·have:nm' i=nm i:=by
   simp only[nm'];unfold Av at hi
   rw[if_neg (by omega),if_neg (by omega)]
  exact this.trans (R.pin i hi)
 ·exact(RK.env k).to fun c v hc H=>hcell c v (.inl ⟨k,hc⟩) H
 ·obtain⟨b,C,t,h1,h2,h3⟩:=RK.bxs k cs hcs;have h1':nm (2*k)=F b:=h1;refine⟨b,C,t,?_,(hsame b (R.names _ _ h1').2 fun e=> ?_).trans h2,h3.to fun c v hc H=>hcell c v (.inr ⟨k,cs,hcs,hc⟩) H⟩
  ·show nm' (2*k)=F b
   simp only[nm'];rw[if_neg (by omega),if_neg (by omega)];exact h1'
  ·have:=R.inj _ _ _ h1' e;omega
 ·have hfd:A1 (cx A nm' (σ.behindT id d sz es1) w').rs (d*64)=F (sz,es1):=B9 _ _ _
  have hnd:(cx A nm' (σ.behindT id d sz es1) w').nm (2*(d*64)+1)=o':=by
   show nm' (2*(d*64)+1)=o'
   simp only[nm'];rw[if_neg (by omega)];simp
  cases hr with
  | nil=>exact .v (.sc (.ownNil hfd hnd))
  | o own hl=>
   obtain⟨a1,a2,a3,C1,t1,a4,a5,a6⟩:=own;exact .v (.sc (.own hfd hnd ⟨a1,a2,a3,C1,t1,a4,a5,a6.sh hsh fun b C ht ⟨c,t,fr,_,h1,h2⟩=>hold b ht C ⟨c,t,fr,h1,h2⟩⟩ hl))
end
theorem fN{P:Program}{k:G Fr}{Q:Xg→St→Prop}{σ:St}{its:G AItem}{d f:N}{args:G Opd}{xs:G TV}{sz:N}{es0 es1:G (G D)}(hf:FCt P f xs sz es0 es1)(id:N)(hx:J1 σ id (args.map σ.val)=F xs)(hr:A1 σ.rows id=F (sz,es0))(hsh:∀r∈es1,∀d∈r,Sh d)(htg:∀b,BC b es1→BC b es0)(ho:∃k:N,(args.map σ.val)[k]?=F (AV.v (.sc (.own id))))(hfr:σ.fresh d=T)
  (hid:Nat.blt id 99999999999=T) (hne:(id==d*64)=false) (h:go P (.ops its::k) Q .normal (F ((σ.behindT id d sz es1).set d (.v (.sc (.own (d*64))))))):go P (.ops ((E,.call d f args)::its)::k) Q .normal (F σ):=
 It (hf.callT hx hsh htg hr ho hfr (zA hid) (by simpa using hne)) h
theorem jV{id:N}{d:D}:AC.kill id (.mix d)= .mix d:=rfl
theorem eO{id:N}{es:G (G D)}{d:D}:AC.frz id es (.mix d)= .mix d:=rfl
theorem rR{d:D}:AC.wipe (.mix d)= .undef:=rfl
theorem ja{id b:N}{k:L N}{d:D}:AC.kill id (.dat (D.tagW k b d))= .dat (D.tagW k b d):=rfl
def A9:=And.intro @jV (And.intro @eO (And.intro @rR @ja))
theorem S0{P:Program}{k:G Fr}{Q:Xg→St→Prop}{σ:St}{o:AOp}{t:N}{b:Bool}{its:G AO}(hb:σ.get t= .v (.sc (.dat (.bool b))))(h:go P (.ops [(E,o)]:: .frs its::k) Q .normal (F σ)):go P (.dops ((E,F (t,b),o)::its)::k) Q .normal (F σ):=by
 show AA (F (t,b)) σ _ _
 unfold AA;simp only[hb,if_true,beq_self_eq_true];exact h
theorem RZ{P:Program}{k:G Fr}{Q:Xg→St→Prop}{σ:St}{o:AOp}{t d:N}{b:Bool}{its:G AO}(hb:σ.get t= .v (.sc (.dat (.bool !b))))(hd:o.dst=F d)(h:go P (.fr (Cj its (σ.set d .no)):: .dops its::k) Q .normal (F (σ.set d .no))):go P (.dops ((E,F (t,b),o)::its)::k) Q .normal (F σ):=by
 show AA (F (t,b)) σ _ _
 unfold AA;rw[hd];simp only[hb];cases b<;>exact h
end Go.Vi
