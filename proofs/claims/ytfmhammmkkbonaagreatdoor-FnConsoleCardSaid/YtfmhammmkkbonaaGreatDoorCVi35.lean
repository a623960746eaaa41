/-
The value level. No condition.
-/
import Derived.Test.YtfmhammmkkbonaaGreatDoorCVi34
namespace Go.Vi
set_option linter.all false
open List renaming mem_of_getElem? → O, getElem?_eq_some_iff → V, getElem?_eq_getElem → W, map → Z, mem_map → I, getElem?_inj → zA
open And renaming intro → U
open Option renaming map_eq_some_iff → Y, some → F, none → E
open Option.some renaming inj → zB
open Bool renaming true → T
open _root_ renaming List → G, Option → L, Nat → N
def XC.zac(ids:G N):XC→AC
 | .d x=> .dat x
 | .r j=> .own (ids.getD j 0)
def XC.inZ(n:N):XC→Bool
 | .d _=>T
 | .r j=>decide (j<n)
inductive ZCRel (h:A3) (w:World) (bs:G (L N)) (R:As):XC→Value→Prop
 | d {x v}:Rep h x v→ZCRel h w bs R (.d x) v
 | nil {j sz a}:R[j]?=F (sz,[])→bs[j]?=F E→ZCRel h w bs R (.r j) (.slice a 0 0)
 | r {j sz es b cap len}:R[j]?=F (sz,es)→bs[j]?=F (F b)→OwnB h w b sz cap es→len=es.length→ZCRel h w bs R (.r j) (.slice (F ⟨b,0,E⟩) len cap)
inductive ZCRels (h:A3) (w:World) (bs:G (L N)) (R:As):G XC→G Value→Prop
 | nil:ZCRels h w bs R [] []
 | cons {c v cs vs}:ZCRel h w bs R c v→ZCRels h w bs R cs vs→ZCRels h w bs R (c::cs) (v::vs)
def Kw(h:A3)(w:World)(p:N)(bs:G (L N))(R:As)(cs:G XC):Prop:=∃C t,w.heap[p]?=F (.cells C t (0,0))∧ZCRels h w bs R cs C.toList
def H0(w:World)(p:N)(bs:G (L N)):Base:=⟨w,B9 p,fun b=>F b∈bs∧b<w.heap.size,fun _ h=>h.2,fun _=>False,fun _ h=>h.elim⟩
def FCz(P:Program)(f:FuncId)(xs:G YV)(cs0:G XC)(R0:As)(cs1:G XC)(S1:As)(rs:G R1):Prop:=
 ∀(w:World) (A:B5) (p:N) (vs:G Value) (bs:G (L N)),bs.length=R0.length→(∀(i j b:N),bs[i]?=F (F b)→bs[j]?=F (F b)→i=j)→(∀b,F b∈bs→b<w.heap.size∧(∀fr,¬A b fr)∧b≠p)→
  (∀w2,BelowX w.heap.size (H0 w p bs) w2→GoodW w2)→p<w.heap.size→(∀fr,¬A p fr)→Kw (Al A w) w p bs R0 cs0→YVRels (Al A w) p xs vs→Calls P f vs.toArray w fun e w'=>
  ∃(v:Value) (bs' rb:G (L N)),e= .returned v∧bs'.length=S1.length∧(∀(i j b:N),bs'[i]?=F (F b)→bs'[j]?=F (F b)→i=j)∧(∀b,F b∈bs'→b≠p∧(w.heap.size≤b∨F b∈bs)∧b<w'.heap.size)∧BelowX w.heap.size (H0 w p bs) w'∧
   Kw (Al (fun b fr=>b≠p∧F b∉bs'∧((w.heap.size≤b∧fr=(0,0))∨A b fr∨(F b∈bs∧fr=(0,0)))) w') w' p bs' S1 cs1∧RRel (Al (fun b fr=>b≠p∧F b∉bs'∧((w.heap.size≤b∧fr=(0,0))∨A b fr∨(F b∈bs∧fr=(0,0)))) w') w' rs v rb
theorem Kg{h h':A3}{w:World}{b sz cap:N}{es:G (G D)}(H:OwnB h w b sz cap es)(hh:∀b C,h b C→h' b C):OwnB h' w b sz cap es:=by
 obtain⟨h1,h2,h3,C,t,h4,h5,h6⟩:=H;exact⟨h1,h2,h3,C,t,h4,h5,h6.mono hh⟩
section
variable {A : Ar} {nm : Ab} {σ : St} {w : World} {h : A3} {ids : G N} {R : As}
theorem A5q(hh:∀b C,Ad A nm w b C→h b C)(hr:CF σ.rows ids=F R){c:XC}{v:Value}(hc:c.inZ R.length=T)(H:CRel (cx A nm σ w) (c.zac ids) v):ZCRel h w (AL nm ids) R c v:=by
 obtain⟨hl,hat⟩:=It hr;cases c with
 | d x=>
  have H:CRel (cx A nm σ w) (.dat x) v:=H;cases H with | dat H=>exact .d (H.mono hh)
 | r j=>
  have hj:j<R.length:=by simpa[XC.inZ] using hc
  have hji:j<ids.length:=by omega
  have hid:ids[j]?=F ids[j]:=W hji;have H:CRel (cx A nm σ w) (.own (ids.getD j 0)) v:=H;have hg:ids.getD j 0=ids[j]:=by simp[hji]
  rw[hg] at H
  have hR:R[j]?=A1 σ.rows ids[j]:=by rw[hat j,hid]; rfl
  have hb:(AL nm ids)[j]?=F (nm (2*ids[j]+1)):=by simp[AL,hid]
  rw[W hj] at hR
  obtain⟨sz,es,hse⟩:∃sz es,R[j]=(sz,es):=⟨_,_,rfl⟩;have hRj:R[j]?=F (sz,es):=by rw[W hj,hse]
  rw[hse] at hR
  rcases H.inv_own hR.symm with ⟨rfl,k1,a0,rfl⟩|⟨b,cap,k1,k2,rfl⟩
  ·exact .nil hRj (by rw[hb]; exact congrArg F k1)
  ·exact .r hRj (by rw[hb]; exact congrArg F k1) (Kg k2 hh) rfl
theorem SM(hh:∀b C,Ad A nm w b C→h b C)(hr:CF σ.rows ids=F R):∀{cs:G XC} {vs:G Value},cs.all (XC.inZ R.length)=T→CRels (cx A nm σ w) (cs.map (XC.zac ids)) vs→ZCRels h w (AL nm ids) R cs vs
 | [],_,_,.nil=> .nil
 | c::cs,_,hc,.cons a b=>by
  simp only[List.all_cons,Bool.and_eq_true] at hc
  exact .cons (A5q hh hr hc.1 a) (SM hh hr hc.2 b)
end
theorem A5r{X:Cx}{h:A3}{bs:G (L N)}{R:As}{ids:G N}(hh:∀b C,h b C→X.h b C)(hl:ids.length=R.length)(hr:∀(j id:N) (r:N × G (G D)),ids[j]?=F id→R[j]?=F r→A1 X.rs id=F r)(hn:∀(j id:N) (o:L N),ids[j]?=F id→bs[j]?=F o→X.nm (2*id+1)=o)
  {c:XC} {v:Value} (H:ZCRel h X.w bs R c v):CRel X (c.zac ids) v:=by
 cases H with
 | d H=>exact .dat (H.mono hh)
 | @nil j sz a h1 h2=>
  have hj:j<ids.length:=by rw[hl]; exact(V.1 h1).1
  have hid:ids[j]?=F ids[j]:=W hj;have hg:ids.getD j 0=ids[j]:=by simp[hj]
  show CRel X (.own (ids.getD j 0)) _
  rw[hg];exact .ownNil (hr j _ _ hid h1) (hn j _ _ hid h2)
 | @r j sz es b cap len h1 h2 h3 h4=>
  have hj:j<ids.length:=by rw[hl]; exact(V.1 h1).1
  have hid:ids[j]?=F ids[j]:=W hj;have hg:ids.getD j 0=ids[j]:=by simp[hj]
  show CRel X (.own (ids.getD j 0)) _
  rw[hg];exact .own (hr j _ _ hid h1) (hn j _ _ hid h2) (Kg h3 hh) h4
theorem ZR{X:Cx}{h:A3}{bs:G (L N)}{R:As}{ids:G N}(hh:∀b C,h b C→X.h b C)(hl:ids.length=R.length)(hr:∀(j id:N) (r:N × G (G D)),ids[j]?=F id→R[j]?=F r→A1 X.rs id=F r)(hn:∀(j id:N) (o:L N),ids[j]?=F id→bs[j]?=F o→X.nm (2*id+1)=o) :
  ∀{cs:G XC} {vs:G Value},ZCRels h X.w bs R cs vs→CRels X (cs.map (XC.zac ids)) vs
 | _,_,.nil=> .nil
 | _,_,.cons a b=> .cons (A5r hh hl hr hn a) (ZR hh hl hr hn b)
def St.killAll:G N→St→St
 | [],σ=>σ
 | id::ids,σ=>St.killAll ids (σ.map (AC.kill id))
theorem UE{c:AC}{id k:N}(h:(c.kill id).has k=T):c.has k=T∧k≠id:=by
 rcases Pf c id with ⟨h1,h2⟩|⟨h1,h2⟩
 ·rw[h2] at h; cases h
 ·rw[h2] at h;exact⟨h,fun e=>by subst e; rw[h1] at h; cases h⟩
theorem fZ(f:AC→AC)(v:AV):(v.map f).cells=v.cells.map f:=by
 cases v with
 | v x=>cases x<;>simp[AV.map,V1.map,AV.cells,V1.cells]
 | tup l=>
  simp only[AV.map,AV.cells]
  induction l with
  | nil=>rfl
  | cons x l ih=>cases x<;>simp_all[V1.map,V1.cells]
 | undef=>rfl
 | no=>rfl
theorem Z2{σ:St}{f:AC→AC}{c:AC}(h:(σ.map f).Uses c):∃c0,σ.Uses c0∧c=f c0:=by
 rcases h with ⟨k,hk⟩|⟨id,cs,hcs,hc⟩
 ·rw[St.get_map,fZ] at hk
  obtain⟨c0,h1,rfl⟩:=I.1 hk;exact⟨c0,.inl ⟨k,h1⟩,rfl⟩
 ·rw[I7] at hcs
  simp only[Y] at hcs
  obtain⟨cs0,h0,rfl⟩:=hcs;obtain⟨c0,h1,rfl⟩:=I.1 hc;exact⟨c0,.inr ⟨id,cs0,h0,h1⟩,rfl⟩
section
variable {P : Program} {A : Ar} {B : N} {w0 : Base} {w : World} {nm : Ab} {σ : St} {tmps : Array Value}
theorem Rel.killed(R:Rel A B w0 nm σ tmps w)(id:N):Rel A B w0 nm (σ.map (AC.kill id)) tmps w:=by
 refine R.carry (f:=AC.kill id) R.below R.size R.names R.inj (fun _ _=>rfl) (fun k=>St.get_map) (fun k=>I7) (fun k cs _ b hb=>⟨hb,rfl⟩) (fun c v hc hr=> ?_);rcases Pf c id with ⟨_,hk⟩|⟨hn,hk⟩
 ·rw[hk]; exact .undef hr.one
 ·rw[hk]; exact hr.same rfl (fun _=>rfl) (fun _ _ h=>h) rfl
theorem Rel.killedAll:∀(ids:G N) {σ:St},Rel A B w0 nm σ tmps w→Rel A B w0 nm (σ.killAll ids) tmps w
 | [],_,R=>R
 | id::ids,_,R=>Rel.killedAll ids (R.killed id)
theorem W8:∀(ids:G N) (σ:St),(σ.killAll ids).rows=σ.rows
 | [],_=>rfl
 | id::ids,σ=>W8 ids (σ.map (AC.kill id))
theorem W9:∀(ids:G N) {σ:St} {c:AC},(σ.killAll ids).Uses c→(∀id∈ids,c.has id=false)∧(∀k,c.has k=T→∃c0,σ.Uses c0∧c0.has k=T)
 | [],σ,c,h=>⟨fun id hid=>(by cases hid),fun k hk=>⟨c,h,hk⟩⟩
 | id::ids,σ,c,h=>by
  obtain⟨h1,h2⟩:=W9 ids (σ:=σ.map (AC.kill id)) h
  have key:∀k,c.has k=T→k≠id∧∃c0,σ.Uses c0∧c0.has k=T:=fun k hk=>by
   obtain⟨c1,hu,hc1⟩:=h2 k hk;obtain⟨c0,hu0,rfl⟩:=Z2 hu;obtain⟨q1,q2⟩:=UE hc1;exact⟨q2,c0,hu0,q1⟩
  refine⟨fun k hk=> ?_,fun k hk=>(key k hk).2⟩;rcases List.mem_cons.1 hk with rfl|hk
  ·cases hx:c.has k with
   | false=>rfl
   | true=>exact absurd rfl (key k hx).1
  ·exact h1 k hk
def St.behindZ(σ:St)(id:N)(ids:G N)(cs1:G XC)(S1:As):St:={σ.killAll ids with bx:=put (σ.killAll ids).bx id (cs1.map (XC.zac ids)),rows:=CE σ.rows ids S1}
def Dw(ids:G N)(bs:G (L N))(nm:Ab):Ab:=fun n=>if n % 2=1 then(match EU (n / 2) ids with | some j=>(bs[j]?).join | none=>nm n) else nm n
theorem WX{id:N}:∀{l:G N},EU id l=E→id∉l
 | [],_=>by simp
 | k::r,h=>by
  unfold EU at h;by_cases hk:k=id
  ·simp[hk] at h
  ·have h':(k==id)=false:=by simpa using hk
   simp only[h',cond_false,Option.map_eq_none_iff] at h;simp only[List.mem_cons,not_or];exact⟨fun e=>hk e.symm,WX h⟩
theorem uQ{l:G N}(hn:l.Nodup){j id:N}(h:l[j]?=F id):EU id l=F j:=by
 cases hp:EU id l with
 | none=>exact absurd (O h) (WX hp)
 | some i=>
  have h2:=Pt hp;have hi:=(V.1 h2).1;rw[(zA hi hn).1 (h2.trans h.symm)]
theorem behindZ(R:Rel A B w0 nm σ tmps w){id p:N}{ids:G N}{S1:As}{cs1:G XC}{bs':G (L N)}{w':World}(hp:nm (2*id)=F p)(hnd:ids.Nodup)(hsm:∀i∈ids,i<99999999999)(hl1:ids.length=S1.length)(hbl:bs'.length=S1.length)
  (hinj:∀(i j b:N),bs'[i]?=F (F b)→bs'[j]?=F (F b)→i=j) (hnew:∀b,F b∈bs'→b≠p∧(w.heap.size≤b∨F b∈AL nm ids)∧b<w'.heap.size)
  (hb:BelowX w.heap.size (H0 w p (AL nm ids)) w') (hh:Kw (Al (fun b fr=>b≠p∧F b∉bs'∧((w.heap.size≤b∧fr=(0,0))∨((∀i,nm i≠F b)∧A b fr)∨(F b∈AL nm ids∧fr=(0,0)))) w') w' p bs' S1 cs1) :
  Rel A B w0 (Dw ids bs' nm) (σ.behindZ id ids cs1 S1) tmps w'∧∀b C,Al (fun b fr=>b≠p∧F b∉bs'∧((w.heap.size≤b∧fr=(0,0))∨((∀i,nm i≠F b)∧A b fr)∨(F b∈AL nm ids∧fr=(0,0)))) w' b C→Ad A (Dw ids bs' nm) w' b C:=by
 have hblk:∀b,F b∈AL nm ids→∃k∈ids,nm (2*k+1)=F b:=fun b h=>by
  unfold AL at h;obtain⟨k,h1,h2⟩:=I.1 h;exact⟨k,h1,h2⟩
 have hMz:∀b,(H0 w p (AL nm ids)).M b→b=p∨∃k∈ids,nm (2*k+1)=F b:=fun b h=>by
  rcases h with ⟨i,_,e⟩|⟨h1,_⟩
  ·exact .inl (Dx e).2.symm
  ·exact .inr (hblk b h1)
 have hbel:BelowX B w0 w':=R.below.afterZ rfl hb R.size R.there (fun b hm=>by
  rcases hMz b hm with rfl|⟨k,_,e⟩
  ·exact(R.names _ _ hp).1
  ·exact(R.names _ _ e).1) fun b hv=>hv.elim
 have hsame:∀b,b<w.heap.size→b≠p→(∀k∈ids,nm (2*k+1)≠F b)→w'.heap[b]?=w.heap[b]?:=fun b hlt h1 h2=>hb.block b hlt (fun hm=>by
  rcases hMz b hm with e|⟨k,hk,e⟩
  ·exact h1 e
  ·exact h2 k hk e) fun hv=>hv.elim
 have hlenb:bs'.length=ids.length:=by omega
 have hin:∀(j k:N),ids[j]?=F k→Dw ids bs' nm (2*k+1)=(bs'[j]?).join:=fun j k hj=>by
  unfold Dw;rw[if_pos (by omega),show(2*k+1) / 2=k by omega,uQ hnd hj]
 have hout:∀n,(∀k∈ids,n≠2*k+1)→Dw ids bs' nm n=nm n:=fun n hn=>by
  unfold Dw;split
  ·split
   ·rename_i j hj
    have:=hn _ (O (Pt hj));omega
   ·rfl
  ·rfl
 have hev:∀k,Dw ids bs' nm (2*k)=nm (2*k):=fun k=>hout _ fun j _=>by omega
 have hcas:∀n b,Dw ids bs' nm n=F b→(∃j k:N,ids[j]?=F k∧n=2*k+1∧bs'[j]?=F (F b))∨((∀k∈ids,n≠2*k+1)∧nm n=F b):=fun n b h=>by
  by_cases hx:∃k∈ids,n=2*k+1
  ·obtain⟨k,hk,rfl⟩:=hx;obtain⟨j,hj⟩:=List.getElem?_of_mem hk;rw[hin j k hj] at h;refine .inl ⟨j,k,hj,rfl,?_⟩;cases hbj:bs'[j]? with
   | none=>rw[hbj] at h; cases h
   | some o=>rw[hbj] at h; exact congrArg F h
  ·have hx:∀k∈ids,n≠2*k+1:=fun k hk e=>hx ⟨k,hk,e⟩
   exact .inr ⟨hx,(hout n hx)▸h⟩
 have hfree:∀b,F b∈bs'→∀n,(∀k∈ids,n≠2*k+1)→nm n≠F b:=fun b hbm n hn e=>by
  obtain⟨g1,g2,g3⟩:=hnew b hbm;rcases g2 with g2|g2
  ·have:=(R.names n b e).2; omega
  ·obtain⟨k,hk,ek⟩:=hblk b g2;exact hn k hk (R.inj _ _ _ e ek)
 have hview:∀b C,Ad A nm w b C→Ad A (Dw ids bs' nm) w' b C:=CY fun b hlt hn=>⟨fun i e=>by
  rcases hcas i b e with ⟨j,k,hj,rfl,hbj⟩|⟨_,e2⟩
  ·obtain⟨_,g2,_⟩:=hnew b (O hbj);rcases g2 with g2|g2
   ·omega
   ·obtain⟨k2,_,ek⟩:=hblk b g2;exact hn _ ek
  ·exact hn i e2,hsame b hlt (fun e=>hn _ (e▸hp)) fun k _=>hn _⟩
 have hvz:∀b C,Al (fun b fr=>b≠p∧F b∉bs'∧((w.heap.size≤b∧fr=(0,0))∨((∀i,nm i≠F b)∧A b fr)∨(F b∈AL nm ids∧fr=(0,0)))) w' b C→Ad A (Dw ids bs' nm) w' b C:=fun b C ⟨cc,tt,fr,⟨g1,g2,g3⟩,g4⟩=>by
  refine⟨fun i e=> ?_,cc,tt,fr,?_,g4⟩
  ·rcases hcas i b e with ⟨j,k,hj,rfl,hbj⟩|⟨h1,e2⟩
   ·exact g2 (O hbj)
   ·rcases g3 with g3|g3|g3
    ·have:=(R.names i b e2).2; omega
    ·exact g3.1 i e2
    ·obtain⟨k,hk,ek⟩:=hblk b g3.1;exact h1 k hk (R.inj _ _ _ e2 ek)
  ·rcases g3 with ⟨g3,rfl⟩|g3|⟨g3,rfl⟩
   ·exact R.all.all b (.inl (Nat.le_trans R.size g3))
   ·exact g3.2
   ·obtain⟨k,hk,ek⟩:=hblk b g3;exact R.all.all b (R.mine (by have:=hsm k hk; unfold AK; omega) ek)
 have RK:=R.killedAll ids;have hrows:(σ.killAll ids).rows=σ.rows:=W8 ids σ
 have hcell:∀c v,(σ.killAll ids).Uses c→CRel (cx A nm (σ.killAll ids) w) c v→CRel (cx A (Dw ids bs' nm) (σ.behindZ id ids cs1 S1) w') c v:=fun c v hu H=>by
  have hno:=(W9 ids hu).1;refine H.move hview (fun k hk=> .inr ?_) (fun k _ b hb2=> ?_)
  ·have hki:k∉ids:=fun hm=>by rw[hno k hm] at hk; cases hk
   refine⟨?_,?_,fun b hbn=> ?_⟩
   ·show A1 (CE σ.rows ids S1) k=A1 (σ.killAll ids).rows k
    rw[Pu hki,hrows]
   ·exact hout _ fun j hj e=>hki (by rw[show k=j by omega]; exact hj)
   ·refine hsame b (R.names _ b hbn).2 (fun e=> ?_) fun j hj e=> ?_
    ·subst e;have:=R.inj _ _ _ hbn hp;omega
    ·have:=R.inj _ _ _ hbn e;exact hki (by rw[show k=j by omega]; exact hj)
  ·exact(hev k).trans hb2
 refine⟨⟨hbel,Nat.le_trans R.size hb.size,R.all,R.good,fun i b hi=> ?_,fun i j b hi hj=> ?_,fun i hi=> ?_,fun k=> ?_,fun k cs hcs=> ?_⟩,hvz⟩
 ·rcases hcas i b hi with ⟨j,k,hj,rfl,hbj⟩|⟨_,e2⟩
  ·obtain⟨_,g2,g3⟩:=hnew b (O hbj);refine⟨?_,g3⟩;rcases g2 with g2|g2
   ·exact .inl (Nat.le_trans R.size g2)
   ·obtain⟨k2,_,ek⟩:=hblk b g2;exact(R.names _ _ ek).1
  ·obtain⟨h1,h2⟩:=R.names i b e2;exact⟨h1,Nat.lt_of_lt_of_le h2 hb.size⟩
 ·rcases hcas i b hi with ⟨x,k,hx,rfl,hbx⟩|⟨h1,e1⟩
  ·rcases hcas j b hj with ⟨y,k2,hy,rfl,hby⟩|⟨h2,e2⟩
   ·have:=hinj x y b hbx hby;subst this;rw[hx] at hy
    cases hy;rfl
   ·exact absurd e2 (hfree b (O hbx) j h2)
  ·rcases hcas j b hj with ⟨y,k2,hy,rfl,hby⟩|⟨h2,e2⟩
   ·exact absurd e1 (hfree b (O hby) i h1)
   ·exact R.inj i j b e1 e2
 ·refine(hout i fun k hk e=> ?_).trans (R.pin i hi);have:=hsm k hk;unfold AK at hi
  omega
 ·exact(RK.env k).to fun c v hc H=>hcell c v (.inl ⟨k,hc⟩) H
 ·by_cases hk:k=id
  ·subst hk
   have e:cs=cs1.map (XC.zac ids):=by
    have:=Bg (σ.killAll ids).bx k (cs1.map (XC.zac ids));exact zB (hcs.symm.trans this)
   subst e;obtain⟨C,t,h1,h2⟩:=hh;refine⟨p,C,t,(hev k).trans hp,h1,ZR (X:=cx A (Dw ids bs' nm) (σ.behindZ k ids cs1 S1) w') hvz hl1 (fun j i r hj hr=>S7 hnd hj hr) (fun j i o hj ho=> ?_) h2⟩;show Dw ids bs' nm (2*i+1)=o
   rw[hin j i hj,ho];rfl
  ·have hcs':A1 (put (σ.killAll ids).bx id (cs1.map (XC.zac ids))) k=F cs:=hcs;rw[Bt _ _ hk] at hcs'
   obtain⟨b,C,t,h1,h2,h3⟩:=RK.bxs k cs hcs'
   have hne:b≠p:=fun e=>by
    subst e;have:=R.inj _ _ _ h1 hp;omega
   refine⟨b,C,t,(hev k).trans h1,(hsame b (R.names _ _ h1).2 hne fun j _ e=> ?_).trans h2,h3.to fun c v hc H=>hcell c v (.inr ⟨k,cs,hcs',hc⟩) H⟩;have:=R.inj _ _ _ h1 e;omega
theorem FCz.callC{f:FuncId}{xs:G YV}{cs0 cs1:G XC}{R0 S1:As}{rs:G R1}(H:FCz P f xs cs0 R0 cs1 S1 rs)(hv:F3 rs=T){id:N}{ids:G N}{avs:G AV}(hx:CH id avs=F xs)(hb:A1 σ.bx id=F (cs0.map (XC.zac ids)))(hr:CF σ.rows ids=F R0)
  (hnd:ids.Nodup) (hsm:∀i∈ids,i<99999999999) (hl:S1.length=ids.length) (hc0:cs0.all (XC.inZ R0.length)=T) :
  DX P f avs σ (σ.behindZ id ids cs1 S1) (By 0 rs):=by
 intro A B w0 w nm tmps vs R hvs;obtain⟨p,C,t,h1,h2,h3⟩:=R.bxs id _ hb;have h1':nm (2*id)=F p:=h1;obtain⟨hlen,hat⟩:=It hr
 have hblk:∀b,F b∈AL nm ids→∃k∈ids,nm (2*k+1)=F b:=fun b h=>by
  unfold AL at h;obtain⟨k,h1,h2⟩:=I.1 h;exact⟨k,h1,h2⟩
 refine(H w (fun b fr=>(∀i,nm i≠F b)∧A b fr) p vs (AL nm ids) (by simp[AL,hlen]) (fun i j b hi hj=> ?_) (fun b hbm=> ?_) (fun w2 hb2=>R.good w2 (R.below.afterZ rfl hb2 R.size R.there (fun b hm=> ?_) fun b hv=>hv.elim)) (R.names _ _ h1').2 (fun _ h=>h.1 _ h1')
  ⟨C,t,h2,by rw[Ek]; exact SM (fun _ _ h=>h) hr hc0 h3⟩ (by rw[Ek]; exact PF h1' hvs hx)).mono fun e w' h=> ?_
 ·simp only[AL,List.getElem?_map,Y] at hi hj
  obtain⟨x,hx1,hx2⟩:=hi;obtain⟨y,hy1,hy2⟩:=hj;have e:=R.inj _ _ _ hx2 hy2;have e:x=y:=by omega
  subst e;exact(zA (V.1 hx1).1 hnd).1 (hx1.trans hy1.symm)
 ·obtain⟨k,hk,ek⟩:=hblk b hbm;refine⟨(R.names _ _ ek).2,fun _ h=>h.1 _ ek,fun e=> ?_⟩;subst e;have:=R.inj _ _ _ ek h1';omega
 ·rcases hm with ⟨i,_,e⟩|⟨hm,_⟩
  ·obtain⟨_,rfl⟩:=Dx e;exact(R.names _ _ h1').1
  ·obtain⟨k,hk,ek⟩:=hblk b hm;exact(R.names _ _ ek).1
 ·obtain⟨v,bs',rb,rfl,g0,g1,g2,g3,g4,g5⟩:=h;obtain⟨R',hvz⟩:=behindZ R h1' hnd hsm hl.symm g0 g1 g2 g3 g4;exact⟨v,_,rfl,R',VU hv (g5.conv fun c _=> .inl hvz)⟩
end
def XC.z0:XC→AC
 | .d x=> .dat x
 | .r j=> .own (90000+j)
def MX:N→As→Rows
 | _,[]=> []
 | k,r::R=>(90000+k,r)::MX (k+1) R
def St.initZ(xs:G YV)(cs0:G XC)(R0:As):St:=⟨Gz 0 xs,[(99999999999,cs0.map XC.z0)],MX 0 R0⟩
theorem Uu:∀(R:As) (k j:N),k≤j→A1 (MX k R) (90000+j)=R[j - k]?
 | [],k,j,_=>by simp[MX,A1]
 | r::R,k,j,h=>by
  simp only[MX,A1];by_cases hk:k=j
  ·subst hk; simp
  ·have h':(90000+k==90000+j)=false:=by simpa using hk
   rw[h',cond_false,Uu R (k+1) j (by omega),show j - k=(j - (k+1))+1 by omega]; simp
def DQ(p:N)(bs:G (L N)):Ab:=fun i=>if i=199999999998 then F p else if 180000≤i∧i % 2=1 then(bs[(i - 180000) / 2]?).join else E
theorem MM{p:N}{bs:G (L N)}{i b:N}(h:DQ p bs i=F b):(i=199999999998∧p=b)∨∃j,i=180000+2*j+1∧bs[j]?=F (F b):=by
 unfold DQ at h;split at h
 ·exact .inl ⟨by assumption,zB h⟩
 ·split at h
  ·rename_i hc
   refine .inr ⟨(i - 180000) / 2,by omega,?_⟩;cases hb:bs[(i - 180000) / 2]? with
   | none=>simp[hb] at h
   | some o=>simp[hb] at h; rw[h]
  ·cases h
theorem tJ{p:N}{bs:G (L N)}{j:N}{o:L N}(h:bs[j]?=F o):DQ p bs (2*(90000+j)+1)=o:=by
 unfold DQ;rw[if_neg (by omega),if_pos (by omega),show(2*(90000+j)+1 - 180000) / 2=j by omega,h];rfl
theorem A5s{X:Cx}{h:A3}{bs:G (L N)}{R:As}(hh:∀b C,h b C→X.h b C)(hr:∀(j:N) (r:N × G (G D)),R[j]?=F r→A1 X.rs (90000+j)=F r)(hn:∀(j:N) (o:L N),bs[j]?=F o→X.nm (2*(90000+j)+1)=o)
  {c:XC} {v:Value} (H:ZCRel h X.w bs R c v):CRel X c.z0 v:=by
 cases H with
 | d H=>exact .dat (H.mono hh)
 | @nil j sz a h1 h2=>exact .ownNil (hr j _ h1) (hn j _ h2)
 | @r j sz es b cap len h1 h2 h3 h4=>exact .own (hr j _ h1) (hn j _ h2) (Kg h3 hh) h4
theorem ZS{X:Cx}{h:A3}{bs:G (L N)}{R:As}(hh:∀b C,h b C→X.h b C)(hr:∀(j:N) (r:N × G (G D)),R[j]?=F r→A1 X.rs (90000+j)=F r)(hn:∀(j:N) (o:L N),bs[j]?=F o→X.nm (2*(90000+j)+1)=o) :
  ∀{cs:G XC} {vs:G Value},ZCRels h X.w bs R cs vs→CRels X (cs.map XC.z0) vs
 | _,_,.nil=> .nil
 | _,_,.cons a b=> .cons (A5s hh hr hn a) (ZS hh hr hn b)
theorem qH{w:World}{A0:B5}{p:N}{xs:G YV}{cs0:G XC}{R0:As}{vs:G Value}{bs:G (L N)}(nt:N)(hlb:bs.length≤64)(hinj:∀(i j b:N),bs[i]?=F (F b)→bs[j]?=F (F b)→i=j)(hbs:∀b,F b∈bs→b<w.heap.size∧(∀fr,¬A0 b fr)∧b≠p)
  (hG:∀w2,BelowX w.heap.size (H0 w p bs) w2→GoodW w2) (hp:p<w.heap.size) (hA:∀fr,¬A0 p fr) (hh:Kw (Al A0 w) w p bs R0 cs0) (h:YVRels (Al A0 w) p xs vs) :
  Rel (.of fun b fr=>(w.heap.size≤b∧fr=(0,0))∨A0 b fr∨(F b∈bs∧fr=(0,0))) w.heap.size (H0 w p bs) (DQ p bs) (St.initZ xs cs0 R0) (vs.toArray++Array.replicate (nt - vs.toArray.size) undef) w:=by
 have hv:∀b C,Al A0 w b C→Ad (fun b fr=>(w.heap.size≤b∧fr=(0,0))∨A0 b fr∨(F b∈bs∧fr=(0,0))) (DQ p bs) w b C:=fun b C ⟨cc,tt,fr,h0,h1⟩=>⟨fun i e=>by
  rcases MM e with ⟨_,rfl⟩|⟨j,_,hj⟩
  ·exact hA _ h0
  ·exact(hbs b (O hj)).2.1 _ h0,cc,tt,fr,.inr (.inl h0),h1⟩
 have hnp:DQ p bs (2*99999999999)=F p:=if_pos rfl;refine⟨BelowX.start _ _ (fun _ h=>h.elim),Nat.le_refl _,⟨fun b hb=>hb.elim (fun h=> .inl ⟨h,rfl⟩) fun h=> .inr (.inr ⟨h.1,rfl⟩),fun _ _ h=>h.elim,fun _ _ h=>h.elim,fun _ _ h=>h.elim,fun h=>by cases h⟩,hG,fun i b hi=> ?_,fun i j b hi hj=> ?_,fun i hi=> ?_,fun k=> ?_,fun id cs hcs=> ?_⟩
 ·rcases MM hi with ⟨e,rfl⟩|⟨j,_,hj⟩
  ·exact⟨.inr (.inl ⟨199999999998,Nat.le_refl _,show B9 p 199999999998=F p from if_pos rfl⟩),hp⟩
  ·have hm:=O hj;exact⟨.inr (.inr ⟨hm,(hbs b hm).1⟩),(hbs b hm).1⟩
 ·rcases MM hi with ⟨e,rfl⟩|⟨x,e1,hx⟩
  ·rcases MM hj with ⟨e2,_⟩|⟨y,_,hy⟩
   ·omega
   ·exact absurd rfl (hbs _ (O hy)).2.2
  ·rcases MM hj with ⟨e2,rfl⟩|⟨y,e2,hy⟩
   ·exact absurd rfl (hbs _ (O hx)).2.2
   ·have:=hinj x y b hx hy;omega
 ·show DQ p bs i=B9 p i
  unfold DQ B9;split
  ·rfl
  ·split
   ·have hi:199999999998≤i:=hi;have:bs[(i - 180000) / 2]?=E:=by rw[List.getElem?_eq_none_iff]; omega
    rw[this];rfl
   ·rfl
 ·unfold St.get;rw[show(St.initZ xs cs0 R0).env=Gz 0 xs from rfl,QT xs 0 k];simp only[Nat.zero_le,if_true,Nat.sub_zero];cases hd:xs[k]? with
  | none=>exact .undef
  | some x=>
   have hk:k<vs.length:=by rw[← h.len]; exact(V.1 hd).1
   have hvk:vs[k]?=F (vs[k]'hk):=W hk
   have e:(vs.toArray++Array.replicate (nt - vs.toArray.size) undef).getD k undef=vs[k]'hk:=by
    rw[Array.getD_eq_getD_getElem?,Array.getElem?_append_left (by simpa using hk)];simp[hk]
   rw[e];have hr:=YVRels.get k h hd hvk;revert hr
   generalize vs[k]'hk=z
   intro hr;cases hr with
   | d hr=>exact DVRel.vrel (X:=cx (.of fun b fr=>(w.heap.size≤b∧fr=(0,0))∨A0 b fr∨(F b∈bs∧fr=(0,0))) (DQ p bs) (St.initZ xs cs0 R0) w) (hr.mono hv)
   | p=>exact .v (.sc (.pb hnp))
 ·have hc:id=99999999999∧cs=cs0.map XC.z0:=by
   have h':A1 [(99999999999,cs0.map XC.z0)] id=F cs:=hcs;simp only[A1] at h'
   by_cases h1:99999999999=id
   ·subst h1; simp at h'; exact⟨rfl,h'.symm⟩
   ·have e1:((99999999999:N)==id)=false:=by simpa using h1
    simp[e1] at h'
  obtain⟨rfl,rfl⟩:=hc;obtain⟨C,t,h1,h2⟩:=hh;exact⟨p,C,t,hnp,h1,ZS (X:=cx (.of fun b fr=>(w.heap.size≤b∧fr=(0,0))∨A0 b fr∨(F b∈bs∧fr=(0,0))) (DQ p bs) (St.initZ xs cs0 R0) w) hv (fun j r hj=>(Uu R0 0 j (Nat.zero_le _)).trans hj) (fun j o hj=>tJ hj) h2⟩
def F1(ts:G RV)(rs:G R1)(cs1:G XC)(S1:As)(e:Xn)(σ:St):Prop:=
 match e with
 | .exit _=>False
 | .pan _=>False
 | _=>OutVs σ ts rs∧∃ids:G N,ids.Nodup∧(∀i∈ids,i<99999999999)∧A1 σ.bx 99999999999=F (cs1.map (XC.zac ids))∧CF σ.rows ids=F S1
section
variable {P : Program}
theorem aG(hm:P.follows .mixedOrders=T){f:FuncId}{c:Xg}{ts:G RV}{nt:N}{xs:G YV}{cs0 cs1:G XC}{R0 S1:As}{rs:G R1}(he:AG P f=F (c.strip,ts,nt))(hl:xs.length≤nt)(hl0:R0.length≤64)(hc1:cs1.all (XC.inZ S1.length)=T)(h:B4 P c (F1 ts rs cs1 S1) (St.initZ xs cs0 R0)):FCz P f xs cs0 R0 cs1 S1 rs:=by
 unfold AG at he
 split at he
 ·rename_i fn hf
  split at he
  ·rename_i C ts' hb hr
   simp only[Y] at he
   obtain⟨c',hc,e⟩:=he;cases e;intro w A0 p vs bs hbl hinj hbs hG hp hA hh hvs;refine calls_of_wp hf hb ?_;have hlv:=hvs.len;refine wp_mono (IY (df:= []) hm c C _ (DQ p bs) (St.initZ xs cs0 R0) _ w hc h (qH fn.ntmps (by omega) hinj hbs hG hp hA hh hvs) (by simp; omega) rfl) fun e a w' hq=> ?_
   obtain⟨e',nm,σ,he,hq,R,hnt,hdf⟩:=hq;have hnp:nm (2*99999999999)=F p:=(R.pin _ (by unfold AK; omega)).trans (show B9 p (2*99999999999)=F p from if_pos rfl)
   have key:(OutVs σ ts rs∧∃ids:G N,ids.Nodup∧(∀i∈ids,i<99999999999)∧A1 σ.bx 99999999999=F (cs1.map (XC.zac ids))∧CF σ.rows ids=F S1)→a.defers= []∧∃v,(results fn a.tmps).run P w'= .ok v w'∧∃(v':Value) (bs' rb:G (L N)),Ending.returned v= .returned v'∧
     bs'.length=S1.length∧(∀(i j b:N),bs'[i]?=F (F b)→bs'[j]?=F (F b)→i=j)∧(∀b,F b∈bs'→b≠p∧(w.heap.size≤b∨F b∈bs)∧b<w'.heap.size)∧BelowX w.heap.size (H0 w p bs) w'∧
     Kw (Al (fun b fr=>b≠p∧F b∉bs'∧((w.heap.size≤b∧fr=(0,0))∨A0 b fr∨(F b∈bs∧fr=(0,0)))) w') w' p bs' S1 cs1∧RRel (Al (fun b fr=>b≠p∧F b∉bs'∧((w.heap.size≤b∧fr=(0,0))∨A0 b fr∨(F b∈bs∧fr=(0,0)))) w') w' rs v' rb:=by
    rintro⟨ho,ids,hnd,hsm,hbx,hro⟩
    have hview:∀b C,Ad (fun b fr=>(w.heap.size≤b∧fr=(0,0))∨A0 b fr∨(F b∈bs∧fr=(0,0))) nm w' b C→Al (fun b fr=>b≠p∧F b∉AL nm ids∧((w.heap.size≤b∧fr=(0,0))∨A0 b fr∨(F b∈bs∧fr=(0,0)))) w' b C:=fun b C ⟨g1,cc,tt,fr,g2,g3⟩=>⟨cc,tt,fr,⟨fun e=>g1 _ (e▸hnp),fun hm=>by
     unfold AL at hm
     obtain⟨k,_,e⟩:=I.1 hm;exact g1 _ e,g2⟩,g3⟩
    obtain⟨v,rb,hrun,hrel⟩:=XH R hview hr ho;obtain⟨b,C,t,h1,h2,h3⟩:=R.bxs _ _ hbx;have e:b=p:=zB (h1.symm.trans hnp);subst e;obtain⟨hlen,hat⟩:=It hro;refine⟨hdf,v,hrun,v,AL nm ids,rb,rfl,by simp[AL,hlen],fun i j b2 hi hj=> ?_,fun b2 hb2=> ?_,R.below,⟨C,t,h2,SM hview hro hc1 h3⟩,hrel⟩
    ·simp only[AL,List.getElem?_map,Y] at hi hj
     obtain⟨x,hx1,hx2⟩:=hi;obtain⟨y,hy1,hy2⟩:=hj;have e:=R.inj _ _ _ hx2 hy2;have e:x=y:=by omega
     subst e;exact(zA (V.1 hx1).1 hnd).1 (hx1.trans hy1.symm)
    ·unfold AL at hb2
     obtain⟨k,hk,ek⟩:=I.1 hb2;have hks:=hsm k hk;refine⟨fun e=> ?_,(R.mine (by unfold AK; omega) ek).imp id fun h=>h.1,(R.names _ _ ek).2⟩;subst e;have:=R.inj _ _ _ ek hnp;omega
   cases e' with
   | normal=>obtain rfl:e= .normal:=he; exact key hq
   | ret=>obtain rfl:e= .ret:=he; exact key hq
   | exit id=>exact hq.elim
   | pan d=>exact hq.elim
  ·cases he
 ·cases he
theorem PU(hm:P.follows .mixedOrders=T){f nt:N}{c:Xg}{ts:G RV}{xs:G YV}{cs0 cs1:G XC}{R0 S1:As}{rs:G R1}{σ:St}(he:AG P f=F (c.strip,ts,nt))(hl:Nat.ble xs.length nt=T)(hl0:Nat.ble R0.length 64=T)(hc1:cs1.all (XC.inZ S1.length)=T)(hσ:St.initZ xs cs0 R0=σ)
  (h:go P [.code c] (F1 ts rs cs1 S1) .normal (F σ)):FCz P f xs cs0 R0 cs1 S1 rs:=aG hm he (Nat.le_of_ble_eq_true hl) (Nat.le_of_ble_eq_true hl0) hc1 (hσ▸JS h)
theorem JR{k:G Fr}{Q:Xn→St→Prop}{σ:St}{its:G AItem}{d f:N}{args:G Opd}{xs:G YV}{cs0 cs1:G XC}{R0 S1:As}{rs:G R1}(hf:FCz P f xs cs0 R0 cs1 S1 rs)(id:N)(ids:G N)(hv:F3 rs=T)(hx:CH id (args.map σ.val)=F xs)(hb:A1 σ.bx id=F (cs0.map (XC.zac ids)))
  (hr:CF σ.rows ids=F R0) (hnd:ids.Nodup) (hsm:ids.all (fun i=>Nat.blt i 99999999999)=T) (hl:S1.length=ids.length) (hc0:cs0.all (XC.inZ R0.length)=T)
  (h:go P (.ops its::k) Q .normal (F ((σ.behindZ id ids cs1 S1).set d (By 0 rs)))):go P (.ops ((E,.call d f args)::its)::k) Q .normal (F σ):=
 Ml (hf.callC hv hx hb hr hnd (fun i hi=>by simpa[Nat.blt_eq] using List.all_eq_true.1 hsm i hi) hl hc0) h
end
def rU(n:Int):G D:= [.int .u64 n]
theorem ug(n:Int):rU n= [.int .u64 n]:=rfl
instance:Row rU 1:=⟨fun _=>rfl,Nat.one_pos⟩
instance:FlatRow rU:=⟨fun _ d h=>by rw[List.mem_singleton.1 h]; rfl⟩
instance:OfTy (.int .u64) rU:=⟨fun _ h=>h⟩
def Bi(k:IntKind)(x y:Int):Int:=k.wrap (x*2 ^ min y.toNat k.bits)
theorem qk{k:IntKind}{x y:Int}:AI .shl k x y=bif decide (y<0) then E else F (.int k (Bi k x y)):=by
 by_cases h:y<0<;>simp[AI,Bi,h]
theorem eZ{k k':IntKind}{x y:Int}:BY .shl (.v (.sc (.dat (.int k x)))) (.v (.sc (.dat (.int k' y))))=bif decide (y<0) then E else F (.v (.sc (.dat (.int k (Bi k x y))))):=by
 by_cases h:y<0<;>simp[BY,AI,Bi,h]
theorem qZ{k:IntKind}{x y:Int}:AI .andNot k x y=F (.int k (AM .andNot k x y)):=rfl
theorem eN{σ:St}{id:N}{ids:G N}{cs1:G XC}{S:As}:σ.behindZ id ids cs1 S=⟨(σ.killAll ids).env,put (σ.killAll ids).bx id (cs1.map (XC.zac ids)),CE σ.rows ids S⟩:=rfl
theorem rG{σ:St}:σ.killAll []=σ:=rfl
theorem rF{σ:St}{id:N}{ids:G N}:σ.killAll (id::ids)=(σ.map (AC.kill id)).killAll ids:=rfl
theorem A5n{ids:G N}{x:D}:XC.zac ids (.d x)= .dat x:=rfl
theorem A5j{i:N}{ids:G N}:XC.zac (i::ids) (.r 0)= .own i:=rfl
theorem A5k{i j:N}{ids:G N}:XC.zac (i::j::ids) (.r 1)= .own j:=rfl
theorem A5l{i j k:N}{ids:G N}:XC.zac (i::j::k::ids) (.r 2)= .own k:=rfl
theorem A5m{i j k l:N}{ids:G N}:XC.zac (i::j::k::l::ids) (.r 3)= .own l:=rfl
theorem A5u{ids:G N}:Z (XC.zac ids) []= []:=rfl
theorem A5t{ids:G N}{c:XC}{cs:G XC}:Z (XC.zac ids) (c::cs)=XC.zac ids c::Z (XC.zac ids) cs:=rfl
abbrev mv(d s:N):AItem:=(E,.mv d (.t s))
abbrev ld(d s:N):AItem:=(E,.load d (.t s) false 1)
abbrev fa(d s o:N):AItem:=(E,.faddr d (.t s) o)
abbrev bn(d:N)(o:BinOp)(x y:N):AItem:=(E,.bin d o (.t x) (.t y))
abbrev lw(d s n:N):AItem:=(E,.load d (.t s) T n)
abbrev ca(d f:N)(xs:G Opd):AItem:=(E,.call d f xs)
abbrev xt(d s i:N):AItem:=(E,.extr d (.t s) i)
abbrev ia(d x i n:N):AItem:=(E,.iaddr d (.t x) (.t i) n)
abbrev ln(d s:N):AItem:=(E,.len d (.t s))
abbrev nt(d s:N):AItem:=(E,.un d .not (.t s))
abbrev bo(d s:N):AItem:=(E,.box d (.t s))
abbrev so(a v n:N):AItem:=(E,.store (.t a) (.t v) n)
abbrev po(d g x:N):AItem:=(E,.pick d (.t g) (KB T) (.t x))
abbrev pa(d g x:N):AItem:=(E,.pick d (.t g) (.t x) (KB false))
abbrev o0(x:AItem):AT:=(F [],x)
abbrev dD(a b c:G N):AItem:=(E,.keep a b c)
abbrev dE(d:N)(n:Int):AItem:=(E,.mv d (K n))
abbrev Nt(d:N)(b:Bool):AItem:=(E,.mv d (KB b))
abbrev aKn(d:N):AItem:=(E,.mv d KN)
abbrev aBk(d:N)(o:BinOp)(x:N)(n:Int):AItem:=(E,.bin d o (.t x) (K n))
abbrev aAl(d:N)(cs:G AC):AItem:=(E,.alloc d cs)
abbrev aBs(d sz:N)(zs:G D)(n:N)(ps:G (N × Opd)):AItem:=(E,.bslice d sz zs n ps)
abbrev aBu(d:N)(zs:G AC)(ps:G (N × N × Opd)):AItem:=(E,.build d zs ps)
abbrev aAp(d sz b x y:N):AItem:=(E,.app d sz b (.t x) (.t y))
abbrev gMv(g:N)(b:Bool)(d s:N):AItem:=(F (g,b),.mv d (.t s))
abbrev gLd(g:N)(b:Bool)(d s:N):AItem:=(F (g,b),.load d (.t s) false 1)
abbrev gLw(g:N)(b:Bool)(d s n:N):AItem:=(F (g,b),.load d (.t s) T n)
abbrev gFa(g:N)(b:Bool)(d s o:N):AItem:=(F (g,b),.faddr d (.t s) o)
abbrev gCa(g:N)(b:Bool)(d f:N)(xs:G Opd):AItem:=(F (g,b),.call d f xs)
abbrev gBn(g:N)(b:Bool)(d:N)(o:BinOp)(x y:N):AItem:=(F (g,b),.bin d o (.t x) (.t y))
abbrev gBk(g:N)(b:Bool)(d:N)(o:BinOp)(x:N)(n:Int):AItem:=(F (g,b),.bin d o (.t x) (K n))
abbrev gNt(g:N)(b:Bool)(d s:N):AItem:=(F (g,b),.un d .not (.t s))
abbrev gLn(g:N)(b:Bool)(d s:N):AItem:=(F (g,b),.len d (.t s))
abbrev gIa(g:N)(b:Bool)(d x i n:N):AItem:=(F (g,b),.iaddr d (.t x) (.t i) n)
abbrev Ky(l:G AItem)(c:Xg):Xg:= .seq (.reg l) c
abbrev dG(l:G AItem)(n:N)(x z:Xg):Xg:= .seq (.seq (.reg l) (.cond (.t n) x .skip)) z
abbrev Tf(x y:Xg):Xg:= .seq x y
abbrev dB(n:N)(x:Xg):Xg:= .cond (.t n) x .skip
abbrev aCn(n:N)(x y:Xg):Xg:= .cond (.t n) x y
abbrev Q1(l:G AItem):Xg:= .seq (.reg l) .ret
abbrev dF(c e m:N)(x y:Xg):Xg:= .seq (.cond (.t c) .skip (.exit e)) (.seq (.block m x) y)
abbrev dC(d s:N):Xg:= .reg [(E,.bin d .add (.t s) (K 1)),(E,.mv s (.t d))]
abbrev dA(n:N)(c:Xg):Xg:= .block n (.loop c)
abbrev dm(l:G D):G AC:=Z .dat l
theorem ui:List.length ([]:G RC)=0:=rfl
theorem uh{c:RC}{l:G RC}:List.length (c::l)=List.length l+1:=rfl
theorem vG{g:N}{r r' r'':R1}:BH g [r,r',r'']=BI g 0 (r.cells++(r'.cells++r''.cells)):=by simp[BH]
theorem vD{g:N}{r r' r'' q:R1}:BH g [r,r',r'',q]=BI g 0 (r.cells++(r'.cells++(r''.cells++q.cells))):=by simp[BH]
def vQ:=U @vD (U @vG (U @ui (U @uh (U @A5u (U @A5t (U @ug (U @qk (U @eZ (U @qZ (U @eN (U @rG (U @rF (U @A5n (U @A5j (U @A5k (U @A5l @A5m))))))))))))))))
theorem XD{α:Type}:∀(l:G (N × α)) (n:N) (u v:α),put (put l n u) n v=put l n v
 | [],n,u,v=>by simp[put]
 | (k,x)::r,n,u,v=>by
  by_cases h:k=n
  ·simp[put,h]
  ·have h':(k==n)=false:=by simpa using h
   simp[put,h',XD r n u v]
theorem Wt{α:Type}(f:α→α):∀(l:G (N × α)) (n:N) (u:α),(put l n u).map (fun p=>(p.1,f p.2))=put (l.map fun p=>(p.1,f p.2)) n (f u)
 | [],n,u=>by simp[put]
 | (k,x)::r,n,u=>by
  by_cases h:k=n
  ·simp[put,h]
  ·have h':(k==n)=false:=by simpa using h
   simp[put,h',Wt f r n u]
theorem I9{P:Program}{k:G Fr}{Q:Xn→St→Prop}{σ:St}{its:G AItem}{α:Type}{row:α→G D}{d sz:N} [Row row sz]{hi:Opd}{xs:G α}{id:N}{h:Int}{p:N × N}(h2:A1 σ.rows id=F (sz,Z row xs))(h3:BX (σ.val hi)=F h)
  (hb:bnd (xs.length:Int) h 0 xs.length=F p) (h4:(id / 99999999999==0)=T) (H:go P (.ops its::k) Q .normal (F {((σ.map (AC.kill id)).set d (.v (.sc (.own id)))) with rows:=put σ.rows id (sz,Z row (xs.take p.2)) })) :
  go P (.ops ((E,.cut d)::its)::k) Q .normal (Ax σ d (Eh σ sz (.v (.sc (.own id))) E (F hi) E)):=by
 have hp:p.1=0∧p.2≤xs.length:=by
  unfold bnd at hb
  split at hb
  ·cases hb; exact⟨rfl,by omega⟩
  ·cases hb
 have hs:Eh σ sz (.v (.sc (.own id))) E (F hi) E=F (.v (.sc (.osub id 0 p.2))):=by
  simp only[Eh,h2,Option.isNone_none,and_self,if_true,Qj,List.length_map,ET,h3,H3,hb,Option.map_some,hp.1]
 rw[hs,Xz,B1 rfl];have hid:id / 99999999999=0:=by simpa using h4
 have e:(σ.set d (.v (.sc (.osub id 0 p.2)))).step (.cut d)=F {((σ.map (AC.kill id)).set d (.v (.sc (.own id)))) with rows:=put σ.rows id (sz,Z row (xs.take p.2))}:=by
  have h2':A1 (σ.set d (.v (.sc (.osub id 0 p.2)))).rows id=F (sz,Z row xs):=h2;simp only[St.step,St.get_set_same,if_pos hid,h2',List.length_map,if_pos hp.2];refine congrArg F ?_;show St.mk _ _ _=St.mk _ _ _
  rw[List.map_take];congr 1
  show put (Z (fun p=>(p.1,AV.map (AC.kill id) p.2)) (put σ.env d _)) d _=put (Z (fun p=>(p.1,AV.map (AC.kill id) p.2)) σ.env) d _
  rw[Wt,XD]
 rw[e];exact H
end Go.Vi
