/-
The value level. No condition.
-/
import Derived.Test.YtpigjggbnclpbaaGreatOVi34
namespace Go.Vi
set_option linter.all false
open List renaming mem_of_getElem? → O, getElem?_eq_some_iff → V, getElem?_eq_getElem → W, map → Z, mem_map → I, getElem?_inj → zA
open And renaming intro → U
open Option renaming map_eq_some_iff → Y, some → F, none → E
open Option.some renaming inj → zB
open Bool renaming true → T
open _root_ renaming List → G, Option → L, Nat → N
def XC.zac(ids:G N):XC→AC
 | .d x=> .dat x
 | .r j=> .own (ids.getD j 0)
def XC.inZ(n:N):XC→Bool
 | .d _=>T
 | .r j=>decide (j<n)
inductive ZCRel (h:A6) (w:World) (bs:G (L N)) (R:Ai):XC→Value→Prop
 | d {x v}:Rep h x v→ZCRel h w bs R (.d x) v
 | nil {j sz a}:R[j]?=F (sz,[])→bs[j]?=F E→ZCRel h w bs R (.r j) (.slice a 0 0)
 | r {j sz es b cap len}:R[j]?=F (sz,es)→bs[j]?=F (F b)→OwnB h w b sz cap es→len=es.length→ZCRel h w bs R (.r j) (.slice (F ⟨b,0,E⟩) len cap)
inductive ZCRels (h:A6) (w:World) (bs:G (L N)) (R:Ai):G XC→G Value→Prop
 | nil:ZCRels h w bs R [] []
 | cons {c v cs vs}:ZCRel h w bs R c v→ZCRels h w bs R cs vs→ZCRels h w bs R (c::cs) (v::vs)
def J6(h:A6)(w:World)(p:N)(bs:G (L N))(R:Ai)(cs:G XC):Prop:=∃C t,w.heap[p]?=F (.cells C t (0,0))∧ZCRels h w bs R cs C.toList
def FM(w:World)(p:N)(bs:G (L N)):Base:=⟨w,BT p,fun b=>F b∈bs∧b<w.heap.size,fun _ h=>h.2,fun _=>False,fun _ h=>h.elim⟩
def FCz(P:Program)(f:FuncId)(xs:G YV)(cs0:G XC)(R0:Ai)(cs1:G XC)(S1:Ai)(rs:G R1):Prop:=
 ∀(w:World) (A:AY) (p:N) (vs:G Value) (bs:G (L N)),bs.length=R0.length→(∀(i j b:N),bs[i]?=F (F b)→bs[j]?=F (F b)→i=j)→(∀b,F b∈bs→b<w.heap.size∧(∀fr,¬A b fr)∧b≠p)→
  (∀w2,BelowX w.heap.size (FM w p bs) w2→GoodW w2)→p<w.heap.size→(∀fr,¬A p fr)→J6 (Af A w) w p bs R0 cs0→YVRels (Af A w) p xs vs→Calls P f vs.toArray w fun e w'=>
  ∃(v:Value) (bs' rb:G (L N)),e= .returned v∧bs'.length=S1.length∧(∀(i j b:N),bs'[i]?=F (F b)→bs'[j]?=F (F b)→i=j)∧(∀b,F b∈bs'→b≠p∧(w.heap.size≤b∨F b∈bs)∧b<w'.heap.size)∧BelowX w.heap.size (FM w p bs) w'∧
   J6 (Af (fun b fr=>b≠p∧F b∉bs'∧((w.heap.size≤b∧fr=(0,0))∨A b fr∨(F b∈bs∧fr=(0,0)))) w') w' p bs' S1 cs1∧RRel (Af (fun b fr=>b≠p∧F b∉bs'∧((w.heap.size≤b∧fr=(0,0))∨A b fr∨(F b∈bs∧fr=(0,0)))) w') w' rs v rb
theorem Hc{h h':A6}{w:World}{b sz cap:N}{es:G (G D)}(H:OwnB h w b sz cap es)(hh:∀b C,h b C→h' b C):OwnB h' w b sz cap es:=by
 obtain⟨h1,h2,h3,C,t,h4,h5,h6⟩:=H;exact⟨h1,h2,h3,C,t,h4,h5,h6.mono hh⟩
section
variable {A : Ar} {nm : Ad} {σ : St} {w : World} {h : A6} {ids : G N} {R : Ai}
theorem uj(hh:∀b C,Ab A nm w b C→h b C)(hr:BZ σ.rows ids=F R){c:XC}{v:Value}(hc:c.inZ R.length=T)(H:CRel (cx A nm σ w) (c.zac ids) v):ZCRel h w (AH nm ids) R c v:=by
 obtain⟨hl,hat⟩:=He hr;cases c with
 | d x=>
  have H:CRel (cx A nm σ w) (.dat x) v:=H;cases H with | dat H=>exact .d (H.mono hh)
 | r j=>
  have hj:j<R.length:=by simpa[XC.inZ] using hc
  have hji:j<ids.length:=by omega
  have hid:ids[j]?=F ids[j]:=W hji;have H:CRel (cx A nm σ w) (.own (ids.getD j 0)) v:=H;have hg:ids.getD j 0=ids[j]:=by simp[hji]
  rw[hg] at H
  have hR:R[j]?=A1 σ.rows ids[j]:=by rw[hat j,hid]; rfl
  have hb:(AH nm ids)[j]?=F (nm (2*ids[j]+1)):=by simp[AH,hid]
  rw[W hj] at hR
  obtain⟨sz,es,hse⟩:∃sz es,R[j]=(sz,es):=⟨_,_,rfl⟩;have hRj:R[j]?=F (sz,es):=by rw[W hj,hse]
  rw[hse] at hR
  rcases H.inv_own hR.symm with ⟨rfl,k1,a0,rfl⟩|⟨b,cap,k1,k2,rfl⟩
  ·exact .nil hRj (by rw[hb]; exact congrArg F k1)
  ·exact .r hRj (by rw[hb]; exact congrArg F k1) (Hc k2 hh) rfl
theorem Qs(hh:∀b C,Ab A nm w b C→h b C)(hr:BZ σ.rows ids=F R):∀{cs:G XC} {vs:G Value},cs.all (XC.inZ R.length)=T→CRels (cx A nm σ w) (cs.map (XC.zac ids)) vs→ZCRels h w (AH nm ids) R cs vs
 | [],_,_,.nil=> .nil
 | c::cs,_,hc,.cons a b=>by
  simp only[List.all_cons,Bool.and_eq_true] at hc
  exact .cons (uj hh hr hc.1 a) (Qs hh hr hc.2 b)
end
theorem uk{X:Cx}{h:A6}{bs:G (L N)}{R:Ai}{ids:G N}(hh:∀b C,h b C→X.h b C)(hl:ids.length=R.length)(hr:∀(j id:N) (r:N × G (G D)),ids[j]?=F id→R[j]?=F r→A1 X.rs id=F r)(hn:∀(j id:N) (o:L N),ids[j]?=F id→bs[j]?=F o→X.nm (2*id+1)=o)
  {c:XC} {v:Value} (H:ZCRel h X.w bs R c v):CRel X (c.zac ids) v:=by
 cases H with
 | d H=>exact .dat (H.mono hh)
 | @nil j sz a h1 h2=>
  have hj:j<ids.length:=by rw[hl]; exact(V.1 h1).1
  have hid:ids[j]?=F ids[j]:=W hj;have hg:ids.getD j 0=ids[j]:=by simp[hj]
  show CRel X (.own (ids.getD j 0)) _
  rw[hg];exact .ownNil (hr j _ _ hid h1) (hn j _ _ hid h2)
 | @r j sz es b cap len h1 h2 h3 h4=>
  have hj:j<ids.length:=by rw[hl]; exact(V.1 h1).1
  have hid:ids[j]?=F ids[j]:=W hj;have hg:ids.getD j 0=ids[j]:=by simp[hj]
  show CRel X (.own (ids.getD j 0)) _
  rw[hg];exact .own (hr j _ _ hid h1) (hn j _ _ hid h2) (Hc h3 hh) h4
theorem Wm{X:Cx}{h:A6}{bs:G (L N)}{R:Ai}{ids:G N}(hh:∀b C,h b C→X.h b C)(hl:ids.length=R.length)(hr:∀(j id:N) (r:N × G (G D)),ids[j]?=F id→R[j]?=F r→A1 X.rs id=F r)(hn:∀(j id:N) (o:L N),ids[j]?=F id→bs[j]?=F o→X.nm (2*id+1)=o) :
  ∀{cs:G XC} {vs:G Value},ZCRels h X.w bs R cs vs→CRels X (cs.map (XC.zac ids)) vs
 | _,_,.nil=> .nil
 | _,_,.cons a b=> .cons (uk hh hl hr hn a) (Wm hh hl hr hn b)
def St.killAll:G N→St→St
 | [],σ=>σ
 | id::ids,σ=>St.killAll ids (σ.map (AC.kill id))
theorem OP{c:AC}{id k:N}(h:(c.kill id).has k=T):c.has k=T∧k≠id:=by
 rcases Ns c id with ⟨h1,h2⟩|⟨h1,h2⟩
 ·rw[h2] at h; cases h
 ·rw[h2] at h;exact⟨h,fun e=>by subst e; rw[h1] at h; cases h⟩
theorem ZK(f:AC→AC)(v:AV):(v.map f).cells=v.cells.map f:=by
 cases v with
 | v x=>cases x<;>simp[AV.map,V1.map,AV.cells,V1.cells]
 | tup l=>
  simp only[AV.map,AV.cells]
  induction l with
  | nil=>rfl
  | cons x l ih=>cases x<;>simp_all[V1.map,V1.cells]
 | ev c=>rfl
 | undef=>rfl
 | no=>rfl
theorem Q6{σ:St}{f:AC→AC}{c:AC}(h:(σ.map f).Uses c):∃c0,σ.Uses c0∧c=f c0:=by
 rcases h with ⟨k,hk⟩|⟨id,cs,hcs,hc⟩
 ·rw[St.get_map,ZK] at hk
  obtain⟨c0,h1,rfl⟩:=I.1 hk;exact⟨c0,.inl ⟨k,h1⟩,rfl⟩
 ·rw[Fi] at hcs
  simp only[Y] at hcs
  obtain⟨cs0,h0,rfl⟩:=hcs;obtain⟨c0,h1,rfl⟩:=I.1 hc;exact⟨c0,.inr ⟨id,cs0,h0,h1⟩,rfl⟩
section
variable {P : Program} {A : Ar} {B : N} {w0 : Base} {w : World} {nm : Ad} {σ : St} {tmps : Array Value}
theorem Rel.killed(R:Rel A B w0 nm σ tmps w)(id:N):Rel A B w0 nm (σ.map (AC.kill id)) tmps w:=by
 refine R.carry (f:=AC.kill id) R.below R.size R.names R.inj (fun _ _=>rfl) (fun k=>St.get_map) (fun k=>Fi) (fun k cs _ b hb=>⟨hb,rfl⟩) (fun c v hc hr=> ?_);rcases Ns c id with ⟨_,hk⟩|⟨hn,hk⟩
 ·rw[hk]; exact .undef hr.one
 ·rw[hk]; exact hr.same rfl (fun _=>rfl) (fun _ _ h=>h) rfl
theorem Rel.killedAll:∀(ids:G N) {σ:St},Rel A B w0 nm σ tmps w→Rel A B w0 nm (σ.killAll ids) tmps w
 | [],_,R=>R
 | id::ids,_,R=>Rel.killedAll ids (R.killed id)
theorem TB:∀(ids:G N) (σ:St),(σ.killAll ids).rows=σ.rows
 | [],_=>rfl
 | id::ids,σ=>TB ids (σ.map (AC.kill id))
theorem TC:∀(ids:G N) {σ:St} {c:AC},(σ.killAll ids).Uses c→(∀id∈ids,c.has id=false)∧(∀k,c.has k=T→∃c0,σ.Uses c0∧c0.has k=T)
 | [],σ,c,h=>⟨fun id hid=>(by cases hid),fun k hk=>⟨c,h,hk⟩⟩
 | id::ids,σ,c,h=>by
  obtain⟨h1,h2⟩:=TC ids (σ:=σ.map (AC.kill id)) h
  have key:∀k,c.has k=T→k≠id∧∃c0,σ.Uses c0∧c0.has k=T:=fun k hk=>by
   obtain⟨c1,hu,hc1⟩:=h2 k hk;obtain⟨c0,hu0,rfl⟩:=Q6 hu;obtain⟨q1,q2⟩:=OP hc1;exact⟨q2,c0,hu0,q1⟩
  refine⟨fun k hk=> ?_,fun k hk=>(key k hk).2⟩;rcases List.mem_cons.1 hk with rfl|hk
  ·cases hx:c.has k with
   | false=>rfl
   | true=>exact absurd rfl (key k hx).1
  ·exact h1 k hk
def St.behindZ(σ:St)(id:N)(ids:G N)(cs1:G XC)(S1:Ai):St:={σ.killAll ids with bx:=put (σ.killAll ids).bx id (cs1.map (XC.zac ids)),rows:=Cc σ.rows ids S1}
def CH(ids:G N)(bs:G (L N))(nm:Ad):Ad:=fun n=>if n % 2=1 then(match DG (n / 2) ids with | some j=>(bs[j]?).join | none=>nm n) else nm n
theorem Ud{id:N}:∀{l:G N},DG id l=E→id∉l
 | [],_=>by simp
 | k::r,h=>by
  unfold DG at h;by_cases hk:k=id
  ·simp[hk] at h
  ·have h':(k==id)=false:=by simpa using hk
   simp only[h',cond_false,Option.map_eq_none_iff] at h;simp only[List.mem_cons,not_or];exact⟨fun e=>hk e.symm,Ud h⟩
theorem ma{l:G N}(hn:l.Nodup){j id:N}(h:l[j]?=F id):DG id l=F j:=by
 cases hp:DG id l with
 | none=>exact absurd (O h) (Ud hp)
 | some i=>
  have h2:=NE hp;have hi:=(V.1 h2).1;rw[(zA hi hn).1 (h2.trans h.symm)]
theorem behindZ(R:Rel A B w0 nm σ tmps w){id p:N}{ids:G N}{S1:Ai}{cs1:G XC}{bs':G (L N)}{w':World}(hp:nm (2*id)=F p)(hnd:ids.Nodup)(hsm:∀i∈ids,i<99999999999)(hl1:ids.length=S1.length)(hbl:bs'.length=S1.length)
  (hinj:∀(i j b:N),bs'[i]?=F (F b)→bs'[j]?=F (F b)→i=j) (hnew:∀b,F b∈bs'→b≠p∧(w.heap.size≤b∨F b∈AH nm ids)∧b<w'.heap.size)
  (hb:BelowX w.heap.size (FM w p (AH nm ids)) w') (hh:J6 (Af (fun b fr=>b≠p∧F b∉bs'∧((w.heap.size≤b∧fr=(0,0))∨((∀i,nm i≠F b)∧A b fr)∨(F b∈AH nm ids∧fr=(0,0)))) w') w' p bs' S1 cs1) :
  Rel A B w0 (CH ids bs' nm) (σ.behindZ id ids cs1 S1) tmps w'∧∀b C,Af (fun b fr=>b≠p∧F b∉bs'∧((w.heap.size≤b∧fr=(0,0))∨((∀i,nm i≠F b)∧A b fr)∨(F b∈AH nm ids∧fr=(0,0)))) w' b C→Ab A (CH ids bs' nm) w' b C:=by
 have hblk:∀b,F b∈AH nm ids→∃k∈ids,nm (2*k+1)=F b:=fun b h=>by
  unfold AH at h;obtain⟨k,h1,h2⟩:=I.1 h;exact⟨k,h1,h2⟩
 have hMz:∀b,(FM w p (AH nm ids)).M b→b=p∨∃k∈ids,nm (2*k+1)=F b:=fun b h=>by
  rcases h with ⟨i,_,e⟩|⟨h1,_⟩
  ·exact .inl (Fv e).2.symm
  ·exact .inr (hblk b h1)
 have hbel:BelowX B w0 w':=R.below.afterZ rfl hb R.size R.there (fun b hm=>by
  rcases hMz b hm with rfl|⟨k,_,e⟩
  ·exact(R.names _ _ hp).1
  ·exact(R.names _ _ e).1) fun b hv=>hv.elim
 have hsame:∀b,b<w.heap.size→b≠p→(∀k∈ids,nm (2*k+1)≠F b)→w'.heap[b]?=w.heap[b]?:=fun b hlt h1 h2=>hb.block b hlt (fun hm=>by
  rcases hMz b hm with e|⟨k,hk,e⟩
  ·exact h1 e
  ·exact h2 k hk e) fun hv=>hv.elim
 have hlenb:bs'.length=ids.length:=by omega
 have hin:∀(j k:N),ids[j]?=F k→CH ids bs' nm (2*k+1)=(bs'[j]?).join:=fun j k hj=>by
  unfold CH;rw[if_pos (by omega),show(2*k+1) / 2=k by omega,ma hnd hj]
 have hout:∀n,(∀k∈ids,n≠2*k+1)→CH ids bs' nm n=nm n:=fun n hn=>by
  unfold CH;split
  ·split
   ·rename_i j hj
    have:=hn _ (O (NE hj));omega
   ·rfl
  ·rfl
 have hev:∀k,CH ids bs' nm (2*k)=nm (2*k):=fun k=>hout _ fun j _=>by omega
 have hcas:∀n b,CH ids bs' nm n=F b→(∃j k:N,ids[j]?=F k∧n=2*k+1∧bs'[j]?=F (F b))∨((∀k∈ids,n≠2*k+1)∧nm n=F b):=fun n b h=>by
  by_cases hx:∃k∈ids,n=2*k+1
  ·obtain⟨k,hk,rfl⟩:=hx;obtain⟨j,hj⟩:=List.getElem?_of_mem hk;rw[hin j k hj] at h;refine .inl ⟨j,k,hj,rfl,?_⟩;cases hbj:bs'[j]? with
   | none=>rw[hbj] at h; cases h
   | some o=>rw[hbj] at h; exact congrArg F h
  ·have hx:∀k∈ids,n≠2*k+1:=fun k hk e=>hx ⟨k,hk,e⟩
   exact .inr ⟨hx,(hout n hx)▸h⟩
 have hfree:∀b,F b∈bs'→∀n,(∀k∈ids,n≠2*k+1)→nm n≠F b:=fun b hbm n hn e=>by
  obtain⟨g1,g2,g3⟩:=hnew b hbm;rcases g2 with g2|g2
  ·have:=(R.names n b e).2; omega
  ·obtain⟨k,hk,ek⟩:=hblk b g2;exact hn k hk (R.inj _ _ _ e ek)
 have hview:∀b C,Ab A nm w b C→Ab A (CH ids bs' nm) w' b C:=Cf fun b hlt hn=>⟨fun i e=>by
  rcases hcas i b e with ⟨j,k,hj,rfl,hbj⟩|⟨_,e2⟩
  ·obtain⟨_,g2,_⟩:=hnew b (O hbj);rcases g2 with g2|g2
   ·omega
   ·obtain⟨k2,_,ek⟩:=hblk b g2;exact hn _ ek
  ·exact hn i e2,hsame b hlt (fun e=>hn _ (e▸hp)) fun k _=>hn _⟩
 have hvz:∀b C,Af (fun b fr=>b≠p∧F b∉bs'∧((w.heap.size≤b∧fr=(0,0))∨((∀i,nm i≠F b)∧A b fr)∨(F b∈AH nm ids∧fr=(0,0)))) w' b C→Ab A (CH ids bs' nm) w' b C:=fun b C ⟨cc,tt,fr,⟨g1,g2,g3⟩,g4⟩=>by
  refine⟨fun i e=> ?_,cc,tt,fr,?_,g4⟩
  ·rcases hcas i b e with ⟨j,k,hj,rfl,hbj⟩|⟨h1,e2⟩
   ·exact g2 (O hbj)
   ·rcases g3 with g3|g3|g3
    ·have:=(R.names i b e2).2; omega
    ·exact g3.1 i e2
    ·obtain⟨k,hk,ek⟩:=hblk b g3.1;exact h1 k hk (R.inj _ _ _ e2 ek)
  ·rcases g3 with ⟨g3,rfl⟩|g3|⟨g3,rfl⟩
   ·exact R.all.all b (.inl (Nat.le_trans R.size g3))
   ·exact g3.2
   ·obtain⟨k,hk,ek⟩:=hblk b g3;exact R.all.all b (R.mine (by have:=hsm k hk; unfold Av; omega) ek)
 have RK:=R.killedAll ids;have hrows:(σ.killAll ids).rows=σ.rows:=TB ids σ
 have hcell:∀c v,(σ.killAll ids).Uses c→CRel (cx A nm (σ.killAll ids) w) c v→CRel (cx A (CH ids bs' nm) (σ.behindZ id ids cs1 S1) w') c v:=fun c v hu H=>by
  have hno:=(TC ids hu).1;refine H.move hview (fun k hk=> .inr ?_) (fun k _ b hb2=> ?_)
  ·have hki:k∉ids:=fun hm=>by rw[hno k hm] at hk; cases hk
   refine⟨?_,?_,fun b hbn=> ?_⟩
   ·show A1 (Cc σ.rows ids S1) k=A1 (σ.killAll ids).rows k
    rw[NF hki,hrows]
   ·exact hout _ fun j hj e=>hki (by rw[show k=j by omega]; exact hj)
   ·refine hsame b (R.names _ b hbn).2 (fun e=> ?_) fun j hj e=> ?_
    ·subst e;have:=R.inj _ _ _ hbn hp;omega
    ·have:=R.inj _ _ _ hbn e;exact hki (by rw[show k=j by omega]; exact hj)
  ·exact(hev k).trans hb2
 refine⟨⟨hbel,Nat.le_trans R.size hb.size,R.all,R.good,fun i b hi=> ?_,fun i j b hi hj=> ?_,fun i hi=> ?_,fun k=> ?_,fun k cs hcs=> ?_⟩,hvz⟩
 ·rcases hcas i b hi with ⟨j,k,hj,rfl,hbj⟩|⟨_,e2⟩
  ·obtain⟨_,g2,g3⟩:=hnew b (O hbj);refine⟨?_,g3⟩;rcases g2 with g2|g2
   ·exact .inl (Nat.le_trans R.size g2)
   ·obtain⟨k2,_,ek⟩:=hblk b g2;exact(R.names _ _ ek).1
  ·obtain⟨h1,h2⟩:=R.names i b e2;exact⟨h1,Nat.lt_of_lt_of_le h2 hb.size⟩
 ·rcases hcas i b hi with ⟨x,k,hx,rfl,hbx⟩|⟨h1,e1⟩
  ·rcases hcas j b hj with ⟨y,k2,hy,rfl,hby⟩|⟨h2,e2⟩
   ·have:=hinj x y b hbx hby;subst this;rw[hx] at hy
    cases hy;rfl
   ·exact absurd e2 (hfree b (O hbx) j h2)
  ·rcases hcas j b hj with ⟨y,k2,hy,rfl,hby⟩|⟨h2,e2⟩
   ·exact absurd e1 (hfree b (O hby) i h1)
   ·exact R.inj i j b e1 e2
 ·refine(hout i fun k hk e=> ?_).trans (R.pin i hi);have:=hsm k hk;unfold Av at hi
  omega
 ·exact(RK.env k).to fun c v hc H=>hcell c v (.inl ⟨k,hc⟩) H
 ·by_cases hk:k=id
  ·subst hk
   have e:cs=cs1.map (XC.zac ids):=by
    have:=B9 (σ.killAll ids).bx k (cs1.map (XC.zac ids));exact zB (hcs.symm.trans this)
   subst e;obtain⟨C,t,h1,h2⟩:=hh;refine⟨p,C,t,(hev k).trans hp,h1,Wm (X:=cx A (CH ids bs' nm) (σ.behindZ k ids cs1 S1) w') hvz hl1 (fun j i r hj hr=>PM hnd hj hr) (fun j i o hj ho=> ?_) h2⟩;show CH ids bs' nm (2*i+1)=o
   rw[hin j i hj,ho];rfl
  ·have hcs':A1 (put (σ.killAll ids).bx id (cs1.map (XC.zac ids))) k=F cs:=hcs;rw[Bb _ _ hk] at hcs'
   obtain⟨b,C,t,h1,h2,h3⟩:=RK.bxs k cs hcs'
   have hne:b≠p:=fun e=>by
    subst e;have:=R.inj _ _ _ h1 hp;omega
   refine⟨b,C,t,(hev k).trans h1,(hsame b (R.names _ _ h1).2 hne fun j _ e=> ?_).trans h2,h3.to fun c v hc H=>hcell c v (.inr ⟨k,cs,hcs',hc⟩) H⟩;have:=R.inj _ _ _ h1 e;omega
theorem FCz.callC{f:FuncId}{xs:G YV}{cs0 cs1:G XC}{R0 S1:Ai}{rs:G R1}(H:FCz P f xs cs0 R0 cs1 S1 rs)(hv:FI rs=T){id:N}{ids:G N}{avs:G AV}(hx:D1 id avs=F xs)(hb:A1 σ.bx id=F (cs0.map (XC.zac ids)))(hr:BZ σ.rows ids=F R0)
  (hnd:ids.Nodup) (hsm:∀i∈ids,i<99999999999) (hl:S1.length=ids.length) (hc0:cs0.all (XC.inZ R0.length)=T) :
  CallC P f avs σ (σ.behindZ id ids cs1 S1) (Bt 0 rs):=by
 intro A B w0 w nm tmps vs R hvs;obtain⟨p,C,t,h1,h2,h3⟩:=R.bxs id _ hb;have h1':nm (2*id)=F p:=h1;obtain⟨hlen,hat⟩:=He hr
 have hblk:∀b,F b∈AH nm ids→∃k∈ids,nm (2*k+1)=F b:=fun b h=>by
  unfold AH at h;obtain⟨k,h1,h2⟩:=I.1 h;exact⟨k,h1,h2⟩
 refine(H w (fun b fr=>(∀i,nm i≠F b)∧A b fr) p vs (AH nm ids) (by simp[AH,hlen]) (fun i j b hi hj=> ?_) (fun b hbm=> ?_) (fun w2 hb2=>R.good w2 (R.below.afterZ rfl hb2 R.size R.there (fun b hm=> ?_) fun b hv=>hv.elim)) (R.names _ _ h1').2 (fun _ h=>h.1 _ h1')
  ⟨C,t,h2,by rw[D2]; exact Qs (fun _ _ h=>h) hr hc0 h3⟩ (by rw[D2]; exact NS h1' hvs hx)).mono fun e w' h=> ?_
 ·simp only[AH,List.getElem?_map,Y] at hi hj
  obtain⟨x,hx1,hx2⟩:=hi;obtain⟨y,hy1,hy2⟩:=hj;have e:=R.inj _ _ _ hx2 hy2;have e:x=y:=by omega
  subst e;exact(zA (V.1 hx1).1 hnd).1 (hx1.trans hy1.symm)
 ·obtain⟨k,hk,ek⟩:=hblk b hbm;refine⟨(R.names _ _ ek).2,fun _ h=>h.1 _ ek,fun e=> ?_⟩;subst e;have:=R.inj _ _ _ ek h1';omega
 ·rcases hm with ⟨i,_,e⟩|⟨hm,_⟩
  ·obtain⟨_,rfl⟩:=Fv e;exact(R.names _ _ h1').1
  ·obtain⟨k,hk,ek⟩:=hblk b hm;exact(R.names _ _ ek).1
 ·obtain⟨v,bs',rb,rfl,g0,g1,g2,g3,g4,g5⟩:=h;obtain⟨R',hvz⟩:=behindZ R h1' hnd hsm hl.symm g0 g1 g2 g3 g4;exact⟨v,_,rfl,R',Tr hv (g5.conv fun c _=> .inl hvz)⟩
end
def XC.z0:XC→AC
 | .d x=> .dat x
 | .r j=> .own (90000+j)
def LB:N→Ai→Rows
 | _,[]=> []
 | k,r::R=>(90000+k,r)::LB (k+1) R
def St.initZ(xs:G YV)(cs0:G XC)(R0:Ai):St:=⟨IA 0 xs,[(99999999999,cs0.map XC.z0)],LB 0 R0⟩
theorem RJ:∀(R:Ai) (k j:N),k≤j→A1 (LB k R) (90000+j)=R[j - k]?
 | [],k,j,_=>by simp[LB,A1]
 | r::R,k,j,h=>by
  simp only[LB,A1];by_cases hk:k=j
  ·subst hk; simp
  ·have h':(90000+k==90000+j)=false:=by simpa using hk
   rw[h',cond_false,RJ R (k+1) j (by omega),show j - k=(j - (k+1))+1 by omega]; simp
def CU(p:N)(bs:G (L N)):Ad:=fun i=>if i=199999999998 then F p else if 180000≤i∧i % 2=1 then(bs[(i - 180000) / 2]?).join else E
theorem Lp{p:N}{bs:G (L N)}{i b:N}(h:CU p bs i=F b):(i=199999999998∧p=b)∨∃j,i=180000+2*j+1∧bs[j]?=F (F b):=by
 unfold CU at h;split at h
 ·exact .inl ⟨by assumption,zB h⟩
 ·split at h
  ·rename_i hc
   refine .inr ⟨(i - 180000) / 2,by omega,?_⟩;cases hb:bs[(i - 180000) / 2]? with
   | none=>simp[hb] at h
   | some o=>simp[hb] at h; rw[h]
  ·cases h
theorem lq{p:N}{bs:G (L N)}{j:N}{o:L N}(h:bs[j]?=F o):CU p bs (2*(90000+j)+1)=o:=by
 unfold CU;rw[if_neg (by omega),if_pos (by omega),show(2*(90000+j)+1 - 180000) / 2=j by omega,h];rfl
theorem um{X:Cx}{h:A6}{bs:G (L N)}{R:Ai}(hh:∀b C,h b C→X.h b C)(hr:∀(j:N) (r:N × G (G D)),R[j]?=F r→A1 X.rs (90000+j)=F r)(hn:∀(j:N) (o:L N),bs[j]?=F o→X.nm (2*(90000+j)+1)=o)
  {c:XC} {v:Value} (H:ZCRel h X.w bs R c v):CRel X c.z0 v:=by
 cases H with
 | d H=>exact .dat (H.mono hh)
 | @nil j sz a h1 h2=>exact .ownNil (hr j _ h1) (hn j _ h2)
 | @r j sz es b cap len h1 h2 h3 h4=>exact .own (hr j _ h1) (hn j _ h2) (Hc h3 hh) h4
theorem Wn{X:Cx}{h:A6}{bs:G (L N)}{R:Ai}(hh:∀b C,h b C→X.h b C)(hr:∀(j:N) (r:N × G (G D)),R[j]?=F r→A1 X.rs (90000+j)=F r)(hn:∀(j:N) (o:L N),bs[j]?=F o→X.nm (2*(90000+j)+1)=o) :
  ∀{cs:G XC} {vs:G Value},ZCRels h X.w bs R cs vs→CRels X (cs.map XC.z0) vs
 | _,_,.nil=> .nil
 | _,_,.cons a b=> .cons (um hh hr hn a) (Wn hh hr hn b)
theorem iQ{w:World}{A0:AY}{p:N}{xs:G YV}{cs0:G XC}{R0:Ai}{vs:G Value}{bs:G (L N)}(nt:N)(hlb:bs.length≤64)(hinj:∀(i j b:N),bs[i]?=F (F b)→bs[j]?=F (F b)→i=j)(hbs:∀b,F b∈bs→b<w.heap.size∧(∀fr,¬A0 b fr)∧b≠p)
  (hG:∀w2,BelowX w.heap.size (FM w p bs) w2→GoodW w2) (hp:p<w.heap.size) (hA:∀fr,¬A0 p fr) (hh:J6 (Af A0 w) w p bs R0 cs0) (h:YVRels (Af A0 w) p xs vs) :
  Rel (.of fun b fr=>(w.heap.size≤b∧fr=(0,0))∨A0 b fr∨(F b∈bs∧fr=(0,0))) w.heap.size (FM w p bs) (CU p bs) (St.initZ xs cs0 R0) (vs.toArray++Array.replicate (nt - vs.toArray.size) undef) w:=by
 have hv:∀b C,Af A0 w b C→Ab (fun b fr=>(w.heap.size≤b∧fr=(0,0))∨A0 b fr∨(F b∈bs∧fr=(0,0))) (CU p bs) w b C:=fun b C ⟨cc,tt,fr,h0,h1⟩=>⟨fun i e=>by
  rcases Lp e with ⟨_,rfl⟩|⟨j,_,hj⟩
  ·exact hA _ h0
  ·exact(hbs b (O hj)).2.1 _ h0,cc,tt,fr,.inr (.inl h0),h1⟩
 have hnp:CU p bs (2*99999999999)=F p:=if_pos rfl;refine⟨BelowX.start _ _ (fun _ h=>h.elim),Nat.le_refl _,⟨fun b hb=>hb.elim (fun h=> .inl ⟨h,rfl⟩) fun h=> .inr (.inr ⟨h.1,rfl⟩),fun _ _ h=>h.elim,fun _ _ h=>h.elim,fun _ _ h=>h.elim,fun h=>by cases h⟩,hG,fun i b hi=> ?_,fun i j b hi hj=> ?_,fun i hi=> ?_,fun k=> ?_,fun id cs hcs=> ?_⟩
 ·rcases Lp hi with ⟨e,rfl⟩|⟨j,_,hj⟩
  ·exact⟨.inr (.inl ⟨199999999998,Nat.le_refl _,show BT p 199999999998=F p from if_pos rfl⟩),hp⟩
  ·have hm:=O hj;exact⟨.inr (.inr ⟨hm,(hbs b hm).1⟩),(hbs b hm).1⟩
 ·rcases Lp hi with ⟨e,rfl⟩|⟨x,e1,hx⟩
  ·rcases Lp hj with ⟨e2,_⟩|⟨y,_,hy⟩
   ·omega
   ·exact absurd rfl (hbs _ (O hy)).2.2
  ·rcases Lp hj with ⟨e2,rfl⟩|⟨y,e2,hy⟩
   ·exact absurd rfl (hbs _ (O hx)).2.2
   ·have:=hinj x y b hx hy;omega
 ·show CU p bs i=BT p i
  unfold CU BT;split
  ·rfl
  ·split
   ·have hi:199999999998≤i:=hi;have:bs[(i - 180000) / 2]?=E:=by rw[List.getElem?_eq_none_iff]; omega
    rw[this];rfl
   ·rfl
 ·unfold St.get;rw[show(St.initZ xs cs0 R0).env=IA 0 xs from rfl,RD xs 0 k];simp only[Nat.zero_le,if_true,Nat.sub_zero];cases hd:xs[k]? with
  | none=>exact .undef
  | some x=>
   have hk:k<vs.length:=by rw[← h.len]; exact(V.1 hd).1
   have hvk:vs[k]?=F (vs[k]'hk):=W hk
   have e:(vs.toArray++Array.replicate (nt - vs.toArray.size) undef).getD k undef=vs[k]'hk:=by
    rw[Array.getD_eq_getD_getElem?,Array.getElem?_append_left (by simpa using hk)];simp[hk]
   rw[e];have hr:=YVRels.get k h hd hvk;revert hr
   generalize vs[k]'hk=z
   intro hr;cases hr with
   | d hr=>exact DVRel.vrel (X:=cx (.of fun b fr=>(w.heap.size≤b∧fr=(0,0))∨A0 b fr∨(F b∈bs∧fr=(0,0))) (CU p bs) (St.initZ xs cs0 R0) w) (hr.mono hv)
   | p=>exact .v (.sc (.pb hnp))
 ·have hc:id=99999999999∧cs=cs0.map XC.z0:=by
   have h':A1 [(99999999999,cs0.map XC.z0)] id=F cs:=hcs;simp only[A1] at h'
   by_cases h1:99999999999=id
   ·subst h1; simp at h'; exact⟨rfl,h'.symm⟩
   ·have e1:((99999999999:N)==id)=false:=by simpa using h1
    simp[e1] at h'
  obtain⟨rfl,rfl⟩:=hc;obtain⟨C,t,h1,h2⟩:=hh;exact⟨p,C,t,hnp,h1,Wn (X:=cx (.of fun b fr=>(w.heap.size≤b∧fr=(0,0))∨A0 b fr∨(F b∈bs∧fr=(0,0))) (CU p bs) (St.initZ xs cs0 R0) w) hv (fun j r hj=>(RJ R0 0 j (Nat.zero_le _)).trans hj) (fun j o hj=>lq hj) h2⟩
def M2(ts:G RV)(rs:G R1)(cs1:G XC)(S1:Ai)(e:Xg)(σ:St):Prop:=
 match e with
 | .exit _=>False
 | .pan _=>False
 | _=>OutVs σ ts rs∧∃ids:G N,ids.Nodup∧(∀i∈ids,i<99999999999)∧A1 σ.bx 99999999999=F (cs1.map (XC.zac ids))∧BZ σ.rows ids=F S1
section
variable {P : Program}
theorem WD(hm:P.follows .mixedOrders=T){f:FuncId}{c:Xd}{ts:G RV}{nt:N}{xs:G YV}{cs0 cs1:G XC}{R0 S1:Ai}{rs:G R1}(he:AB P f=F (c.strip,ts,nt))(hl:xs.length≤nt)(hl0:R0.length≤64)(hc1:cs1.all (XC.inZ S1.length)=T)(h:AT P c (M2 ts rs cs1 S1) (St.initZ xs cs0 R0)):FCz P f xs cs0 R0 cs1 S1 rs:=by
 unfold AB at he
 split at he
 ·rename_i fn hf
  split at he
  ·rename_i C ts' hb hr
   simp only[Y] at he
   obtain⟨c',hc,e⟩:=he;cases e;intro w A0 p vs bs hbl hinj hbs hG hp hA hh hvs;refine calls_of_wp hf hb ?_;have hlv:=hvs.len;refine wp_mono (FN (df:= []) hm c C _ (CU p bs) (St.initZ xs cs0 R0) _ w hc h (iQ fn.ntmps (by omega) hinj hbs hG hp hA hh hvs) (by simp; omega) rfl) fun e a w' hq=> ?_
   obtain⟨e',nm,σ,he,hq,R,hnt,hdf⟩:=hq;have hnp:nm (2*99999999999)=F p:=(R.pin _ (by unfold Av; omega)).trans (show BT p (2*99999999999)=F p from if_pos rfl)
   have key:(OutVs σ ts rs∧∃ids:G N,ids.Nodup∧(∀i∈ids,i<99999999999)∧A1 σ.bx 99999999999=F (cs1.map (XC.zac ids))∧BZ σ.rows ids=F S1)→a.defers= []∧∃v,(results fn a.tmps).run P w'= .ok v w'∧∃(v':Value) (bs' rb:G (L N)),Ending.returned v= .returned v'∧
     bs'.length=S1.length∧(∀(i j b:N),bs'[i]?=F (F b)→bs'[j]?=F (F b)→i=j)∧(∀b,F b∈bs'→b≠p∧(w.heap.size≤b∨F b∈bs)∧b<w'.heap.size)∧BelowX w.heap.size (FM w p bs) w'∧
     J6 (Af (fun b fr=>b≠p∧F b∉bs'∧((w.heap.size≤b∧fr=(0,0))∨A0 b fr∨(F b∈bs∧fr=(0,0)))) w') w' p bs' S1 cs1∧RRel (Af (fun b fr=>b≠p∧F b∉bs'∧((w.heap.size≤b∧fr=(0,0))∨A0 b fr∨(F b∈bs∧fr=(0,0)))) w') w' rs v' rb:=by
    rintro⟨ho,ids,hnd,hsm,hbx,hro⟩
    have hview:∀b C,Ab (fun b fr=>(w.heap.size≤b∧fr=(0,0))∨A0 b fr∨(F b∈bs∧fr=(0,0))) nm w' b C→Af (fun b fr=>b≠p∧F b∉AH nm ids∧((w.heap.size≤b∧fr=(0,0))∨A0 b fr∨(F b∈bs∧fr=(0,0)))) w' b C:=fun b C ⟨g1,cc,tt,fr,g2,g3⟩=>⟨cc,tt,fr,⟨fun e=>g1 _ (e▸hnp),fun hm=>by
     unfold AH at hm
     obtain⟨k,_,e⟩:=I.1 hm;exact g1 _ e,g2⟩,g3⟩
    obtain⟨v,rb,hrun,hrel⟩:=Uq R hview hr ho;obtain⟨b,C,t,h1,h2,h3⟩:=R.bxs _ _ hbx;have e:b=p:=zB (h1.symm.trans hnp);subst e;obtain⟨hlen,hat⟩:=He hro;refine⟨hdf,v,hrun,v,AH nm ids,rb,rfl,by simp[AH,hlen],fun i j b2 hi hj=> ?_,fun b2 hb2=> ?_,R.below,⟨C,t,h2,Qs hview hro hc1 h3⟩,hrel⟩
    ·simp only[AH,List.getElem?_map,Y] at hi hj
     obtain⟨x,hx1,hx2⟩:=hi;obtain⟨y,hy1,hy2⟩:=hj;have e:=R.inj _ _ _ hx2 hy2;have e:x=y:=by omega
     subst e;exact(zA (V.1 hx1).1 hnd).1 (hx1.trans hy1.symm)
    ·unfold AH at hb2
     obtain⟨k,hk,ek⟩:=I.1 hb2;have hks:=hsm k hk;refine⟨fun e=> ?_,(R.mine (by unfold Av; omega) ek).imp id fun h=>h.1,(R.names _ _ ek).2⟩;subst e;have:=R.inj _ _ _ ek hnp;omega
   cases e' with
   | normal=>obtain rfl:e= .normal:=he; exact key hq
   | ret=>obtain rfl:e= .ret:=he; exact key hq
   | exit id=>exact hq.elim
   | pan d=>exact hq.elim
  ·cases he
 ·cases he
theorem WE(hm:P.follows .mixedOrders=T){f nt:N}{c:Xd}{ts:G RV}{xs:G YV}{cs0 cs1:G XC}{R0 S1:Ai}{rs:G R1}{σ:St}(he:AB P f=F (c.strip,ts,nt))(hl:Nat.ble xs.length nt=T)(hl0:Nat.ble R0.length 64=T)(hc1:cs1.all (XC.inZ S1.length)=T)(hσ:St.initZ xs cs0 R0=σ)
  (h:go P [.code c] (M2 ts rs cs1 S1) .normal (F σ)):FCz P f xs cs0 R0 cs1 S1 rs:=WD hm he (Nat.le_of_ble_eq_true hl) (Nat.le_of_ble_eq_true hl0) hc1 (hσ▸H2 h)
theorem RY{k:G Fr}{Q:Xg→St→Prop}{σ:St}{its:G AItem}{d f:N}{args:G Opd}{xs:G YV}{cs0 cs1:G XC}{R0 S1:Ai}{rs:G R1}(hf:FCz P f xs cs0 R0 cs1 S1 rs)(id:N)(ids:G N)(hv:FI rs=T)(hx:D1 id (args.map σ.val)=F xs)(hb:A1 σ.bx id=F (cs0.map (XC.zac ids)))
  (hr:BZ σ.rows ids=F R0) (hnd:ids.Nodup) (hsm:ids.all (fun i=>Nat.blt i 99999999999)=T) (hl:S1.length=ids.length) (hc0:cs0.all (XC.inZ R0.length)=T)
  (h:go P (.ops its::k) Q .normal (F ((σ.behindZ id ids cs1 S1).set d (Bt 0 rs)))):go P (.ops ((E,.call d f args)::its)::k) Q .normal (F σ):=
 It (hf.callC hv hx hb hr hnd (fun i hi=>by simpa[Nat.blt_eq] using List.all_eq_true.1 hsm i hi) hl hc0) h
end
def rU(n:Int):G D:= [.int .u64 n]
theorem my(n:Int):rU n= [.int .u64 n]:=rfl
instance:Row rU 1:=⟨fun _=>rfl,Nat.one_pos⟩
instance:FlatRow rU:=⟨fun _ d h=>by rw[List.mem_singleton.1 h]; rfl⟩
instance:OfTy (.int .u64) rU:=⟨fun _ h=>h⟩
def NN(k:IntKind)(x y:Int):Int:=k.wrap (x*2 ^ min y.toNat k.bits)
theorem jE{k:IntKind}{x y:Int}:Ba .shl k x y=bif decide (y<0) then E else F (.int k (NN k x y)):=by
 by_cases h:y<0<;>simp[Ba,NN,h]
theorem Zr{k k':IntKind}{x y:Int}:Dj .shl (.v (.sc (.dat (.int k x)))) (.v (.sc (.dat (.int k' y))))=bif decide (y<0) then E else F (.v (.sc (.dat (.int k (NN k x y))))):=by
 by_cases h:y<0<;>simp[Dj,Ba,NN,h]
theorem iq{k:IntKind}{x y:Int}:Ba .andNot k x y=F (.int k (HE .andNot k x y)):=rfl
theorem Zh{σ:St}{id:N}{ids:G N}{cs1:G XC}{S:Ai}:σ.behindZ id ids cs1 S=⟨(σ.killAll ids).env,put (σ.killAll ids).bx id (cs1.map (XC.zac ids)),Cc σ.rows ids S⟩:=rfl
theorem jP{σ:St}:σ.killAll []=σ:=rfl
theorem jO{σ:St}{id:N}{ids:G N}:σ.killAll (id::ids)=(σ.map (AC.kill id)).killAll ids:=rfl
theorem ug{ids:G N}{x:D}:XC.zac ids (.d x)= .dat x:=rfl
theorem ub{i:N}{ids:G N}:XC.zac (i::ids) (.r 0)= .own i:=rfl
theorem uc{i j:N}{ids:G N}:XC.zac (i::j::ids) (.r 1)= .own j:=rfl
theorem ud{i j k:N}{ids:G N}:XC.zac (i::j::k::ids) (.r 2)= .own k:=rfl
theorem ue{i j k l:N}{ids:G N}:XC.zac (i::j::k::l::ids) (.r 3)= .own l:=rfl
theorem uq{ids:G N}:Z (XC.zac ids) []= []:=rfl
theorem uo{ids:G N}{c:XC}{cs:G XC}:Z (XC.zac ids) (c::cs)=XC.zac ids c::Z (XC.zac ids) cs:=rfl
abbrev mv(d s:N):AItem:=(E,.mv d (.t s))
abbrev ld(d s:N):AItem:=(E,.load d (.t s) false 1)
abbrev fa(d s o:N):AItem:=(E,.faddr d (.t s) o)
abbrev bn(d:N)(o:BinOp)(x y:N):AItem:=(E,.bin d o (.t x) (.t y))
abbrev lw(d s n:N):AItem:=(E,.load d (.t s) T n)
abbrev ca(d f:N)(xs:G Opd):AItem:=(E,.call d f xs)
abbrev xt(d s i:N):AItem:=(E,.extr d (.t s) i)
abbrev ia(d x i n:N):AItem:=(E,.iaddr d (.t x) (.t i) n)
abbrev ln(d s:N):AItem:=(E,.len d (.t s))
abbrev nt(d s:N):AItem:=(E,.un d .not (.t s))
abbrev bo(d s:N):AItem:=(E,.box d (.t s))
abbrev so(a v n:N):AItem:=(E,.store (.t a) (.t v) n)
abbrev po(d g x:N):AItem:=(E,.pick d (.t g) (KB T) (.t x))
abbrev pa(d g x:N):AItem:=(E,.pick d (.t g) (.t x) (KB false))
abbrev o0(x:AItem):AO:=(F [],x)
abbrev vD(a b c:G N):AItem:=(E,.keep a b c)
abbrev vE(d:N)(n:Int):AItem:=(E,.mv d (K n))
abbrev vC(d:N)(b:Bool):AItem:=(E,.mv d (KB b))
abbrev vF(d:N):AItem:=(E,.mv d KN)
abbrev uv(d:N)(o:BinOp)(x:N)(n:Int):AItem:=(E,.bin d o (.t x) (K n))
abbrev ut(d:N)(cs:G AC):AItem:=(E,.alloc d cs)
abbrev ux(d sz:N)(zs:G D)(n:N)(ps:G (N × Opd)):AItem:=(E,.bslice d sz zs n ps)
abbrev uy(d:N)(zs:G AC)(ps:G (N × N × Opd)):AItem:=(E,.build d zs ps)
abbrev uu(d sz b x y:N):AItem:=(E,.app d sz b (.t x) (.t y))
abbrev vT(g:N)(b:Bool)(d s:N):AItem:=(F (g,b),.mv d (.t s))
abbrev vQ(g:N)(b:Bool)(d s:N):AItem:=(F (g,b),.load d (.t s) false 1)
abbrev vS(g:N)(b:Bool)(d s n:N):AItem:=(F (g,b),.load d (.t s) T n)
abbrev vO(g:N)(b:Bool)(d s o:N):AItem:=(F (g,b),.faddr d (.t s) o)
abbrev vN(g:N)(b:Bool)(d f:N)(xs:G Opd):AItem:=(F (g,b),.call d f xs)
abbrev vM(g:N)(b:Bool)(d:N)(o:BinOp)(x y:N):AItem:=(F (g,b),.bin d o (.t x) (.t y))
abbrev vL(g:N)(b:Bool)(d:N)(o:BinOp)(x:N)(n:Int):AItem:=(F (g,b),.bin d o (.t x) (K n))
abbrev vU(g:N)(b:Bool)(d s:N):AItem:=(F (g,b),.un d .not (.t s))
abbrev vR(g:N)(b:Bool)(d s:N):AItem:=(F (g,b),.len d (.t s))
abbrev vP(g:N)(b:Bool)(d x i n:N):AItem:=(F (g,b),.iaddr d (.t x) (.t i) n)
abbrev vK(l:G AItem)(c:Xd):Xd:= .seq (.reg l) c
abbrev vI(l:G AItem)(n:N)(x z:Xd):Xd:= .seq (.seq (.reg l) (.cond (.t n) x .skip)) z
abbrev vJ(x y:Xd):Xd:= .seq x y
abbrev vA(n:N)(x:Xd):Xd:= .cond (.t n) x .skip
abbrev uz(n:N)(x y:Xd):Xd:= .cond (.t n) x y
abbrev vH(l:G AItem):Xd:= .seq (.reg l) .ret
abbrev vG(c e m:N)(x y:Xd):Xd:= .seq (.cond (.t c) .skip (.exit e)) (.seq (.block m x) y)
abbrev vB(d s:N):Xd:= .reg [(E,.bin d .add (.t s) (K 1)),(E,.mv s (.t d))]
abbrev uw(n:N)(c:Xd):Xd:= .block n (.loop c)
abbrev dm(l:G D):G AC:=Z .dat l
theorem nA:List.length ([]:G RC)=0:=rfl
theorem mz{c:RC}{l:G RC}:List.length (c::l)=List.length l+1:=rfl
theorem nQ{g:N}{r r' r'':R1}:Bq g [r,r',r'']=Bw g 0 (r.cells++(r'.cells++r''.cells)):=by simp[Bq]
theorem nN{g:N}{r r' r'' q:R1}:Bq g [r,r',r'',q]=Bw g 0 (r.cells++(r'.cells++(r''.cells++q.cells))):=by simp[Bq]
def na:=U @nN (U @nQ (U @nA (U @mz (U @uq (U @uo (U @my (U @jE (U @Zr (U @iq (U @Zh (U @jP (U @jO (U @ug (U @ub (U @uc (U @ud @ue))))))))))))))))
theorem Uj{α:Type}:∀(l:G (N × α)) (n:N) (u v:α),put (put l n u) n v=put l n v
 | [],n,u,v=>by simp[put]
 | (k,x)::r,n,u,v=>by
  by_cases h:k=n
  ·simp[put,h]
  ·have h':(k==n)=false:=by simpa using h
   simp[put,h',Uj r n u v]
theorem TJ{α:Type}(f:α→α):∀(l:G (N × α)) (n:N) (u:α),(put l n u).map (fun p=>(p.1,f p.2))=put (l.map fun p=>(p.1,f p.2)) n (f u)
 | [],n,u=>by simp[put]
 | (k,x)::r,n,u=>by
  by_cases h:k=n
  ·simp[put,h]
  ·have h':(k==n)=false:=by simpa using h
   simp[put,h',TJ f r n u]
theorem gY{P:Program}{k:G Fr}{Q:Xg→St→Prop}{σ:St}{its:G AItem}{α:Type}{row:α→G D}{d sz:N} [Row row sz]{hi:Opd}{xs:G α}{id:N}{h:Int}{p:N × N}(h2:A1 σ.rows id=F (sz,Z row xs))(h3:BD (σ.val hi)=F h)
  (hb:bnd (xs.length:Int) h 0 xs.length=F p) (h4:(id / 99999999999==0)=T) (H:go P (.ops its::k) Q .normal (F {((σ.map (AC.kill id)).set d (.v (.sc (.own id)))) with rows:=put σ.rows id (sz,Z row (xs.take p.2)) })) :
  go P (.ops ((E,.cut d)::its)::k) Q .normal (Aq σ d (Cs σ sz (.v (.sc (.own id))) E (F hi) E)):=by
 have hp:p.1=0∧p.2≤xs.length:=by
  unfold bnd at hb
  split at hb
  ·cases hb; exact⟨rfl,by omega⟩
  ·cases hb
 have hs:Cs σ sz (.v (.sc (.own id))) E (F hi) E=F (.v (.sc (.osub id 0 p.2))):=by
  simp only[Cs,h2,Option.isNone_none,and_self,if_true,Ma,List.length_map,Dd,h3,EJ,hb,Option.map_some,hp.1]
 rw[hs,PK,AX rfl];have hid:id / 99999999999=0:=by simpa using h4
 have e:(σ.set d (.v (.sc (.osub id 0 p.2)))).step (.cut d)=F {((σ.map (AC.kill id)).set d (.v (.sc (.own id)))) with rows:=put σ.rows id (sz,Z row (xs.take p.2))}:=by
  have h2':A1 (σ.set d (.v (.sc (.osub id 0 p.2)))).rows id=F (sz,Z row xs):=h2;simp only[St.step,St.get_set_same,if_pos hid,h2',List.length_map,if_pos hp.2];refine congrArg F ?_;show St.mk _ _ _=St.mk _ _ _
  rw[List.map_take];congr 1
  show put (Z (fun p=>(p.1,AV.map (AC.kill id) p.2)) (put σ.env d _)) d _=put (Z (fun p=>(p.1,AV.map (AC.kill id) p.2)) σ.env) d _
  rw[TJ,Uj]
 rw[e];exact H
end Go.Vi
