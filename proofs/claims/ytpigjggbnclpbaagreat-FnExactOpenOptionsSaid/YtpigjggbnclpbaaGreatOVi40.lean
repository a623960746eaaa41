/-
The value level. No condition.
-/
import Derived.Test.YtpigjggbnclpbaaGreatOVi39
import Derived.KernelRfl
namespace Go.Vi
set_option linter.all false
open Nat renaming le_of_ble_eq_true → U
open List renaming map → W
open Bool renaming true → T
open Option renaming some → F, none → E
open _root_ renaming List → G, Option → L, Nat → O
inductive TV where
 | d (x:DV)
 | r
inductive TVRel (h:A6) (w:World) (o:L O) (sz:O) (es:G (G D)):TV→Value→Prop
 | d {x v}:DVRel h x v→TVRel h w o sz es (.d x) v
 | r {v}:RCRel h w (.o sz es) v o→TVRel h w o sz es .r v
inductive TVRels (h:A6) (w:World) (o:L O) (sz:O) (es:G (G D)):G TV→G Value→Prop
 | nil:TVRels h w o sz es [] []
 | cons {x v xs vs}:TVRel h w o sz es x v→TVRels h w o sz es xs vs→TVRels h w o sz es (x::xs) (v::vs)
theorem TVRels.len{h:A6}{w:World}{o:L O}{sz:O}{es:G (G D)}:∀{xs vs},TVRels h w o sz es xs vs→xs.length=vs.length
 | _,_,.nil=>rfl
 | _,_,.cons _ b=>by simp[b.len]
theorem TVRels.get{h:A6}{w:World}{o:L O}{sz:O}{es:G (G D)}:∀{xs:G TV} {vs:G Value} (i:O) {x:TV} {v:Value},TVRels h w o sz es xs vs→xs[i]?=F x→vs[i]?=F v→TVRel h w o sz es x v
 | _,_,_,_,_,.nil,hd,_=>by simp at hd
 | _,_,0,_,_,.cons a _,hd,hv=>by simp at hd hv; subst hd hv; exact a
 | _,_,i+1,_,_,.cons _ b,hd,hv=>TVRels.get i b (by simpa using hd) (by simpa using hv)
def EH(w:World)(o:L O):Base:=⟨w,fun _=>E,fun b=>o=F b∧b<w.heap.size,fun _ h=>h.2,fun _=>False,fun _ h=>h.elim⟩
theorem Oj{w:World}{o:L O}{b:O}(h:(EH w o).M b):o=F b:=h.elim (fun⟨_,_,e⟩=>by cases e) fun h=>h.1
def FCt(P:Program)(f:FuncId)(xs:G TV)(sz:O)(es0 es1:G (G D)):Prop:=
 ∀(w:World) (A:AY) (vs:G Value) (o:L O),(∀b,o=F b→b<w.heap.size∧∀fr,¬A b fr)→(∀w2,BelowX w.heap.size (EH w o) w2→GoodW w2)→TVRels (Af A w) w o sz es0 xs vs→Calls P f vs.toArray w fun e w'=>
  ∃(v:Value) (o':L O),e= .returned v∧(∀b,o'=F b→(w.heap.size≤b∨o=F b)∧b<w'.heap.size)∧BelowX w.heap.size (EH w o) w'∧
   RCRel (Af (fun b fr=>o'≠F b∧((w.heap.size≤b∧fr=(0,0))∨A b fr∨(o=F b∧fr=(0,0)))) w') w' (.o sz es1) v o'
def PZ(id:O):AV→L TV
 | .v (.sc (.own k))=>bif k==id then F .r else E
 | x=>(Hm x).map .d
def J0(id:O):G AV→L (G TV)
 | []=>F []
 | x::xs=>match PZ id x,J0 id xs with
  | some y,F ys=>F (y::ys)
  | _,_=>E
section
variable {P : Program} {A : Ar} {B : O} {w0 : Base} {w : World} {nm : Ad} {σ : St} {tmps : Array Value}
theorem Lu{X:Cx}{id sz:O}{es:G (G D)}{v:Value}(H:CRel X (.own id) v)(hf:A1 X.rs id=F (sz,es)):RCRel X.h X.w (.o sz es) v (X.nm (2*id+1)):=by
 rcases H.inv_own hf with ⟨rfl,k1,a0,rfl⟩|⟨b,cap,k1,k2,rfl⟩
 ·rw[k1]; exact .nil
 ·rw[k1]; exact .o k2 rfl
theorem ph{id sz:O}{es:G (G D)}(hf:A1 σ.rows id=F (sz,es)){av:AV}{v:Value}{x:TV}(H:VRel (cx A nm σ w) av v)(h:PZ id av=F x):TVRel (Ab A nm w) w (nm (2*id+1)) sz es x v:=by
 unfold PZ at h;split at h
 ·rename_i k
  by_cases hk:k=id
  ·subst hk;simp at h;subst h;exact .r (Lu (X:=cx A nm σ w) H.inv_sc hf)
  ·have:(k==id)=false:=by simpa using hk
   simp[this] at h
 ·simp only[Option.map_eq_some_iff] at h;obtain⟨d,h1,rfl⟩:=h;exact .d (IW (X:=cx A nm σ w) H h1)
theorem Vn{id sz:O}{es:G (G D)}(hf:A1 σ.rows id=F (sz,es)):∀{avs:G AV} {vs:G Value} {xs:G TV},VsRel (cx A nm σ w) avs vs→J0 id avs=F xs→TVRels (Ab A nm w) w (nm (2*id+1)) sz es xs vs
 | [],vs,xs,H,h=>by
  simp[J0] at h;subst h;obtain rfl:vs= []:=List.length_eq_zero_iff.1 H.1.symm;exact .nil
 | a::avs,vs,xs,H,h=>by
  unfold J0 at h;split at h
  ·rename_i x xs' h1 h2
   cases h;cases vs with
   | nil=>have:=H.1; simp at this
   | cons v vs=>
    exact .cons (ph hf (H.2 0 a v rfl rfl) h1) (Vn hf ⟨by have:=H.1; simpa using this,fun i u v hu hv=>H.2 (i+1) u v (by simpa using hu) (by simpa using hv)⟩ h2)
  ·cases h
def St.behindT(σ:St)(id d sz:O)(es1:G (G D)):St:={σ.map (AC.kill id) with rows:=put (erase σ.rows [id]) (d*64) (sz,es1)}
theorem FCt.callC{f:FuncId}{xs:G TV}{sz:O}{es0 es1:G (G D)}(H:FCt P f xs sz es0 es1){id d:O}{avs:G AV}(hx:J0 id avs=F xs)(hf:A1 σ.rows id=F (sz,es0))(hfr:σ.fresh d=T)(hid:id<99999999999)(hne:id≠d*64) :
  CallC P f avs σ (σ.behindT id d sz es1) (.v (.sc (.own (d*64)))):=by
 intro A B w0 w nm tmps vs R hvs;have hM:∀b,(EH w (nm (2*id+1))).M b→nm (2*id+1)=F b:=fun b h=>Oj h
 refine(H w (fun b fr=>(∀i,nm i≠F b)∧A b fr) vs (nm (2*id+1)) (fun b e=>⟨(R.names _ _ e).2,fun _ h=>h.1 _ e⟩) (fun w2 hb2=>R.good w2 (R.below.afterZ rfl hb2 R.size R.there (fun b hm=>(R.names _ _ (hM b hm)).1) fun b hv=>hv.elim)) (by rw[D2]; exact Vn hf hvs hx)).mono fun e w' h=> ?_
 obtain⟨v,o',rfl,hn,hb,hr⟩:=h;have hfew:=St.fresh_few hfr;have hsame:∀b,b<w.heap.size→nm (2*id+1)≠F b→w'.heap[b]?=w.heap[b]?:=fun b hlt h=>hb.block b hlt (fun hm=>h (hM b hm)) fun hv=>hv.elim
 let nm':Ad:=fun n=>if n=2*id+1 then E else if n=2*(d*64)+1 then o' else nm n
 have hcas:∀n b,nm' n=F b→(n=2*(d*64)+1∧o'=F b)∨(n≠2*id+1∧n≠2*(d*64)+1∧nm n=F b):=fun n b h=>by
  simp only[nm'] at h;split at h
  ·cases h
  ·rename_i h1
   split at h
   ·rename_i h2; exact .inl ⟨h2,h⟩
   ·rename_i h2; exact .inr ⟨h1,h2,h⟩
 have hbel:BelowX B w0 w':=R.below.afterZ rfl hb R.size R.there (fun b hm=>(R.names _ _ (hM b hm)).1) fun b hv=>hv.elim
 have hview:∀b C,Ab A nm w b C→Ab A nm' w' b C:=Cf fun b hlt hnb=>⟨fun i e=>by
  rcases hcas i b e with ⟨_,e2⟩|⟨_,_,e2⟩
  ·rcases(hn b e2).1 with h|h
   ·omega
   ·exact hnb _ h
  ·exact hnb i e2,hsame b hlt (hnb _)⟩
 have RK:=R.killed id
 have hrow:∀k,k≠id→k / 64≠d→A1 (σ.behindT id d sz es1).rows k=A1 σ.rows k:=fun k h1 h2=>by
  show A1 (put (erase σ.rows [id]) (d*64) (sz,es1)) k=_
  rw[Bb _ _ (by omega),Fh];have: [id].contains k=false:=by simpa using h1
  rw[this];rfl
 have hcell:∀c v,(σ.map (AC.kill id)).Uses c→CRel (cx A nm (σ.map (AC.kill id)) w) c v→CRel (cx A nm' (σ.behindT id d sz es1) w') c v:=fun c v hu H=>by
  obtain⟨c0,hu0,rfl⟩:=Q6 hu
  have hfd:∀k,(AC.kill id c0).has k=T→k≠id∧k / 64≠d:=fun k hk=>by
   obtain⟨q1,q2⟩:=OP hk;refine⟨q2,fun e=> ?_⟩;have:=Q7 q1;rw[e,St.fresh_uses hfr hu0] at this
   cases this
  refine H.move hview (fun k hk=> .inr ?_) (fun k hk b hb2=> ?_)
  ·obtain⟨q1,q2⟩:=hfd k hk;refine⟨hrow k q1 q2,?_,fun b hbn=>hsame b (R.names _ b hbn).2 fun e=> ?_⟩
   ·show nm' (2*k+1)=nm (2*k+1)
    simp only[nm'];rw[if_neg (by omega),if_neg (by omega)]
   ·have:=R.inj _ _ _ hbn e;omega
  ·show nm' (2*k)=F b
   simp only[nm'];rw[if_neg (by omega),if_neg (by omega)];exact hb2
 have hv':∀b C,Af (fun b fr=>o'≠F b∧((w.heap.size≤b∧fr=(0,0))∨((∀i,nm i≠F b)∧A b fr)∨(nm (2*id+1)=F b∧fr=(0,0)))) w' b C→Ab A nm' w' b C:=fun b C ⟨cc,tt,fr,⟨g1,g2⟩,g4⟩=>by
  refine⟨fun i e=> ?_,cc,tt,fr,?_,g4⟩
  ·rcases hcas i b e with ⟨_,e2⟩|⟨e1,_,e2⟩
   ·exact g1 e2
   ·rcases g2 with g2|g2|g2
    ·have:=(R.names i b e2).2; omega
    ·exact g2.1 i e2
    ·exact e1 (R.inj _ _ _ e2 g2.1)
  ·rcases g2 with ⟨g2,rfl⟩|g2|⟨g2,rfl⟩
   ·exact R.all.all b (.inl (Nat.le_trans R.size g2))
   ·exact g2.2
   ·exact R.all.all b (R.mine (by unfold Av; omega) g2)
 refine⟨v,nm',rfl,⟨hbel,Nat.le_trans R.size hb.size,R.all,R.good,fun i b hi=> ?_,fun i j b hi hj=> ?_,fun i hi=> ?_,fun k=> ?_,fun k cs hcs=> ?_⟩,?_⟩
 ·rcases hcas i b hi with ⟨_,e2⟩|⟨_,_,e2⟩
  ·obtain⟨g1,g2⟩:=hn b e2;exact⟨g1.elim (fun h=> .inl (Nat.le_trans R.size h)) fun h=>(R.names _ _ h).1,g2⟩
  ·obtain⟨h1,h2⟩:=R.names i b e2;exact⟨h1,Nat.lt_of_lt_of_le h2 hb.size⟩
 ·have old:∀k,k≠2*id+1→nm k=F b→o'=F b→False:=fun k hk e e2=>by
   rcases(hn b e2).1 with h|h
   ·have:=(R.names k b e).2; omega
   ·exact hk (R.inj _ _ _ e h)
  rcases hcas i b hi with ⟨i1,i2⟩|⟨i1,i3,i2⟩
  ·rcases hcas j b hj with ⟨j1,j2⟩|⟨j1,_,j2⟩
   ·omega
   ·exact(old j j1 j2 i2).elim
  ·rcases hcas j b hj with ⟨j1,j2⟩|⟨j1,_,j2⟩
   ·exact(old i i1 i2 j2).elim
   ·exact R.inj i j b i2 j2
 ·have:nm' i=nm i:=by
   simp only[nm'];unfold Av at hi
   rw[if_neg (by omega),if_neg (by omega)]
  exact this.trans (R.pin i hi)
 ·exact(RK.env k).to fun c v hc H=>hcell c v (.inl ⟨k,hc⟩) H
 ·obtain⟨b,C,t,h1,h2,h3⟩:=RK.bxs k cs hcs;have h1':nm (2*k)=F b:=h1;refine⟨b,C,t,?_,(hsame b (R.names _ _ h1').2 fun e=> ?_).trans h2,h3.to fun c v hc H=>hcell c v (.inr ⟨k,cs,hcs,hc⟩) H⟩
  ·show nm' (2*k)=F b
   simp only[nm'];rw[if_neg (by omega),if_neg (by omega)];exact h1'
  ·have:=R.inj _ _ _ h1' e;omega
 ·have hfd:A1 (cx A nm' (σ.behindT id d sz es1) w').rs (d*64)=F (sz,es1):=B9 _ _ _
  have hnd:(cx A nm' (σ.behindT id d sz es1) w').nm (2*(d*64)+1)=o':=by
   show nm' (2*(d*64)+1)=o'
   simp only[nm'];rw[if_neg (by omega)];simp
  cases hr with
  | nil=>exact .v (.sc (.ownNil hfd hnd))
  | o own hl=>exact .v (.sc (.own hfd hnd (Hc own hv') hl))
end
def TV.av:TV→AV
 | .d x=>x.av
 | .r=> .v (.sc (.own 90000))
def Iy:O→G TV→G (O × AV)
 | _,[]=> []
 | k,x::xs=>(k,x.av)::Iy (k+1) xs
def St.initT(xs:G TV)(sz:O)(es0:G (G D)):St:=⟨Iy 0 xs,[],[(90000,sz,es0)]⟩
theorem RA:∀(ds:G TV) (k i:O),A1 (Iy k ds) i=if k≤i then(ds[i - k]?).map TV.av else E
 | [],k,i=>by simp[Iy,A1]
 | d::ds,k,i=>by
  simp only[Iy,A1];by_cases hk:k=i
  ·subst hk; simp
  ·have h':=BK hk;rw[h',cond_false,RA ds (k+1) i];by_cases h1:k≤i
   ·rw[if_pos (by omega),if_pos h1,show i - k=(i - (k+1))+1 by omega]; simp
   ·rw[if_neg (by omega),if_neg h1]
def CT(o:L O):Ad:=fun i=>if i=180001 then o else E
theorem NA{o:L O}{i b:O}(h:CT o i=F b):i=180001∧o=F b:=by
 unfold CT at h;split at h
 ·exact⟨by assumption,h⟩
 ·cases h
theorem iO{w:World}{A0:AY}{o:L O}{xs:G TV}{sz:O}{es0:G (G D)}{vs:G Value}(nt:O)(ho:∀b,o=F b→b<w.heap.size∧∀fr,¬A0 b fr)(hG:∀w2,BelowX w.heap.size (EH w o) w2→GoodW w2)(h:TVRels (Af A0 w) w o sz es0 xs vs) :
  Rel (.of fun b fr=>(w.heap.size≤b∧fr=(0,0))∨A0 b fr∨(o=F b∧fr=(0,0))) w.heap.size (EH w o) (CT o) (St.initT xs sz es0) (vs.toArray++Array.replicate (nt - vs.toArray.size) undef) w:=by
 have hv:∀b C,Af A0 w b C→Ab (fun b fr=>(w.heap.size≤b∧fr=(0,0))∨A0 b fr∨(o=F b∧fr=(0,0))) (CT o) w b C:=fun b C ⟨cc,tt,fr,h0,h1⟩=>⟨fun i e=>by
  obtain⟨_,e2⟩:=NA e;exact(ho b e2).2 _ h0,cc,tt,fr,.inr (.inl h0),h1⟩
 refine⟨BelowX.start _ _ (fun _ h=>h.elim),Nat.le_refl _,⟨fun b hb=>hb.elim (fun h=> .inl ⟨h,rfl⟩) fun h=> .inr (.inr ⟨h.1,rfl⟩),fun _ _ h=>h.elim,fun _ _ h=>h.elim,fun _ _ h=>h.elim,fun h=>by cases h⟩,hG,fun i b hi=> ?_,fun i j b hi hj=> ?_,fun i hi=> ?_,fun k=> ?_,fun id cs hcs=> ?_⟩
 ·obtain⟨_,e2⟩:=NA hi;have:=(ho b e2).1;exact⟨.inr (.inr ⟨e2,this⟩),this⟩
 ·rw[(NA hi).1,(NA hj).1]
 ·show CT o i=E
  unfold CT;have hi:199999999998≤i:=hi;rw[if_neg (by omega)]
 ·unfold St.get;rw[show(St.initT xs sz es0).env=Iy 0 xs from rfl,RA xs 0 k];simp only[Nat.zero_le,if_true,Nat.sub_zero];cases hd:xs[k]? with
  | none=>exact .undef
  | some x=>
   have hk:k<vs.length:=by rw[← h.len]; exact(List.getElem?_eq_some_iff.1 hd).1
   have hvk:vs[k]?=F (vs[k]'hk):=List.getElem?_eq_getElem hk
   have e:(vs.toArray++Array.replicate (nt - vs.toArray.size) undef).getD k undef=vs[k]'hk:=by
    rw[Array.getD_eq_getD_getElem?,Array.getElem?_append_left (by simpa using hk)];simp[hk]
   rw[e];have hr:=TVRels.get k h hd hvk;revert hr
   generalize vs[k]'hk=z
   intro hr;have hfd:A1 (cx (.of fun b fr=>(w.heap.size≤b∧fr=(0,0))∨A0 b fr∨(o=F b∧fr=(0,0))) (CT o) (St.initT xs sz es0) w).rs 90000=F (sz,es0):=by simp[cx,St.initT,A1]
   have hnd:(cx (.of fun b fr=>(w.heap.size≤b∧fr=(0,0))∨A0 b fr∨(o=F b∧fr=(0,0))) (CT o) (St.initT xs sz es0) w).nm (2*90000+1)=o:=by
    show CT o (2*90000+1)=o
    simp[CT]
   cases hr with
   | d hr=>exact DVRel.vrel (X:=cx (.of fun b fr=>(w.heap.size≤b∧fr=(0,0))∨A0 b fr∨(o=F b∧fr=(0,0))) (CT o) (St.initT xs sz es0) w) (hr.mono hv)
   | r hr=>
    cases hr with
    | nil=>exact .v (.sc (.ownNil hfd hnd))
    | o own hl=>exact .v (.sc (.own hfd hnd (Hc own hv) hl))
 ·cases hcs
def Hv(ts:G RV)(sz:O)(es1:G (G D))(e:Xg)(σ:St):Prop:=
 match e with
 | .exit _=>False
 | .pan _=>False
 | _=>OutVs σ ts [.sc (.o sz es1)]
section
variable {P : Program}
theorem WA(hm:P.follows .mixedOrders=T){f:FuncId}{c:Xd}{ts:G RV}{nt:O}{xs:G TV}{sz:O}{es0 es1:G (G D)}(he:AB P f=F (c.strip,ts,nt))(hl:xs.length≤nt)(h:AT P c (Hv ts sz es1) (St.initT xs sz es0)):FCt P f xs sz es0 es1:=by
 unfold AB at he
 split at he
 ·rename_i fn hf
  split at he
  ·rename_i C ts' hb hr
   simp only[Option.map_eq_some_iff] at he
   obtain⟨c',hc,e⟩:=he;cases e;intro w A0 vs o ho hG hvs;refine calls_of_wp hf hb ?_;have hlv:=hvs.len;refine wp_mono (FN (df:= []) hm c C _ (CT o) (St.initT xs sz es0) _ w hc h (iO fn.ntmps ho hG hvs) (by simp; omega) rfl) fun e a w' hq=> ?_
   obtain⟨e',nm,σ,he,hq,R,hnt,hdf⟩:=hq
   have key:OutVs σ ts [.sc (.o sz es1)]→a.defers= []∧∃v,(results fn a.tmps).run P w'= .ok v w'∧∃(v':Value) (o':L O),Ending.returned v= .returned v'∧(∀b,o'=F b→(w.heap.size≤b∨o=F b)∧b<w'.heap.size)∧BelowX w.heap.size (EH w o) w'∧
     RCRel (Af (fun b fr=>o'≠F b∧((w.heap.size≤b∧fr=(0,0))∨A0 b fr∨(o=F b∧fr=(0,0)))) w') w' (.o sz es1) v' o':=by
    intro hout;let bs:=(Cl σ ts [.sc (.o sz es1)]).map (AZ nm)
    have hbs:∀b,F b∈bs→∃id,nm (2*id+1)=F b:=by
     intro b hb;obtain⟨q,_,hb⟩:=List.mem_map.1 hb;cases q with
     | none=>simp[AZ] at hb
     | some id=>exact⟨id,hb⟩
    have hview:∀b C,Ab (fun b fr=>(w.heap.size≤b∧fr=(0,0))∨A0 b fr∨(o=F b∧fr=(0,0))) nm w' b C→Af (fun b fr=>F b∉bs∧((w.heap.size≤b∧fr=(0,0))∨A0 b fr∨(o=F b∧fr=(0,0)))) w' b C:=fun b C ⟨g1,cc,tt,fr,g2,g3⟩=>⟨cc,tt,fr,⟨fun hm2=>by
     obtain⟨id,e⟩:=hbs b hm2;exact g1 _ e,g2⟩,g3⟩
    obtain⟨vs',hrun,hvl,hrel⟩:=Fx (P:=P) (f:=fun | .tmp t=>pure (a.tmps.getD t undef) | .cell c t=>do loadVar t (← asAddr (a.tmps.getD c undef))) R hview (fun _=>rfl) (fun _ _=>rfl) hr hout;have h1:vs'.length=1:=by rw[hvl,← hout.len]; rfl
    obtain⟨v1,rfl⟩:=List.length_eq_one_iff.1 h1
    have hrc:∃o',bs= [o']∧RCRel (Af (fun b fr=>F b∉bs∧((w.heap.size≤b∧fr=(0,0))∨A0 b fr∨(o=F b∧fr=(0,0)))) w') w' (.o sz es1) v1 o':=by
     revert hrel
     show R1Rels _ _ _ [v1] bs→_
     generalize hgen:(Af (fun b fr=>F b∉bs∧((w.heap.size≤b∧fr=(0,0))∨A0 b fr∨(o=F b∧fr=(0,0)))) w')=V
     clear hgen hview hbs
     generalize bs=q
     intro hrel;cases hrel with | cons x y=>
     cases y;cases x with | sc x=>exact⟨_,by simp,x⟩
    obtain⟨o',hb1,hrc⟩:=hrc;rw[hb1] at hrc hbs
    refine⟨hdf,v1,?_,v1,o',rfl,fun b hb=> ?_,R.below,?_⟩
    ·unfold results;rw[← Array.toArray_toList (xs:=fn.results)];simp only[List.mapM_toArray,Sem.run_bind,map_eq_pure_bind];erw [hrun]
     simp only[Result.andThen_ok,Sem.run_pure];simp
    ·obtain⟨id,e⟩:=hbs b (by simp[hb]);obtain⟨q1,q2⟩:=R.names _ _ e;exact⟨q1.imp (fun h=>h) fun h=>Oj h,q2⟩
    ·have hvv:∀b C,Af (fun b fr=>F b∉ [o']∧((w.heap.size≤b∧fr=(0,0))∨A0 b fr∨(o=F b∧fr=(0,0)))) w' b C→Af (fun b fr=>o'≠F b∧((w.heap.size≤b∧fr=(0,0))∨A0 b fr∨(o=F b∧fr=(0,0)))) w' b C:=fun b C ⟨cc,tt,fr,⟨g1,g2⟩,g3⟩=>⟨cc,tt,fr,⟨fun e=>g1 (by simp[e]),g2⟩,g3⟩
     cases hrc with
     | nil=>exact .nil
     | o own hl=>exact .o (Hc own hvv) hl
   cases e' with
   | normal=>obtain rfl:e= .normal:=he; exact key hq
   | ret=>obtain rfl:e= .ret:=he; exact key hq
   | exit id=>exact hq.elim
   | pan d=>exact hq.elim
  ·cases he
 ·cases he
theorem Qv(hm:P.follows .mixedOrders=T){f nt:O}{c:Xd}{ts:G RV}{xs:G TV}{sz:O}{es0 es1:G (G D)}{σ:St}(he:AB P f=F (c.strip,ts,nt))(hl:Nat.ble xs.length nt=T)(hσ:St.initT xs sz es0=σ)(h:go P [.code c] (Hv ts sz es1) .normal (F σ)):FCt P f xs sz es0 es1:=
 WA hm he (U hl) (hσ▸H2 h)
theorem RX{k:G Fr}{Q:Xg→St→Prop}{σ:St}{its:G AItem}{d f:O}{args:G Opd}{xs:G TV}{sz:O}{es0 es1:G (G D)}(hf:FCt P f xs sz es0 es1)(id:O)(hx:J0 id (args.map σ.val)=F xs)(hr:A1 σ.rows id=F (sz,es0))(hfr:σ.fresh d=T)(hid:Nat.blt id 99999999999=T)(hne:(id==d*64)=false)
  (h:go P (.ops its::k) Q .normal (F ((σ.behindT id d sz es1).set d (.v (.sc (.own (d*64))))))):go P (.ops ((E,.call d f args)::its)::k) Q .normal (F σ):=
 It (hf.callC hx hr hfr (by simpa[Nat.blt_eq] using hid) (by simpa using hne)) h
theorem gX{k:G Fr}{Q:Xg→St→Prop}{σ:St}{its:G AItem}{α:Type}{row:α→G D}{d sz:O} [Row row sz]{lo:Opd}{xs:G α}{zx:α}{zs:G D}{id:O}{l:Int}{p:O × O}(h2:A1 σ.rows id=F (sz,W row xs))(h3:BD (σ.val lo)=F l)
  (hb:bnd (xs.length:Int) (xs.length:Int) l xs.length=F p) (hz:row zx=zs) (H:go P (.ops its::k) Q .normal (F {(σ.set d (.v (.sc (.osub id p.1 p.2)))) with rows:=put σ.rows id (sz,W row (xs.take p.1++List.replicate (p.2 - p.1) zx)) })) :
  go P (.ops ((E,.clr (.t d) sz zs)::its)::k) Q .normal (Aq σ d (Cs σ sz (.v (.sc (.own id))) (F lo) E E)):=by
 subst hz
 have hp:p.1≤p.2∧p.2=xs.length:=by
  unfold bnd at hb
  split at hb
  ·cases hb; exact⟨by simp; omega,by simp⟩
  ·cases hb
 have hs:Cs σ sz (.v (.sc (.own id))) (F lo) E E=F (.v (.sc (.osub id p.1 p.2))):=by
  simp only[Cs,h2,Option.isNone_none,and_self,if_true,Ma,List.length_map,Dd,h3,EJ,hb,Option.map_some]
 rw[hs,PK,AX rfl]
 have e:(σ.set d (.v (.sc (.osub id p.1 p.2)))).step (.clr (.t d) sz (row zx))=F {(σ.set d (.v (.sc (.osub id p.1 p.2)))) with rows:=put σ.rows id (sz,W row (xs.take p.1++List.replicate (p.2 - p.1) zx))}:=by
  have h2':A1 (σ.set d (.v (.sc (.osub id p.1 p.2)))).rows id=F (sz,W row xs):=h2;have hv:(σ.set d (.v (.sc (.osub id p.1 p.2)))).val (.t d)= .v (.sc (.osub id p.1 p.2)):=by simp[St.val,St.get_set_same]
  have hl:(row zx).length=sz:=Row.len (row:=row) zx;simp only[St.step,hv,St.clrV,h2',List.length_map];rw[if_pos ⟨trivial,hl,hp.1,hp.2⟩];simp only[List.map_append,List.map_take,List.map_replicate];rfl
 rw[e];exact H
theorem Ol{σ:St}{id d sz:O}{es1:G (G D)}:σ.behindT id d sz es1=⟨(σ.map (AC.kill id)).env,(σ.map (AC.kill id)).bx,put (erase σ.rows [id]) (d*64) (sz,es1)⟩:=rfl
variable {k : G Fr} {Q : Xg → St → Prop} {σ : St} {its : G AItem} {d f : O} {args : G Opd}
theorem B4{xs:G DV}{rs:G R1}(hf:FC P f xs rs)(h:go P (.ops its::k) Q .normal (F (σ.inst d rs)))(h1:σ.toIVs args=F xs:=by exact rfl)(h3:σ.fresh d=T:=by exact rfl)(h4:Nat.ble (rs.flatMap R1.cells).length 64=T:=by exact rfl) :
  go P (.ops ((E,.call d f args)::its)::k) Q .normal (F σ):=N0 hf h1 h3 (U h4) h
theorem D4{N:G O}{ds:G AO}{xs:G DV}{rs:G R1}(hf:FC P f xs rs)(h:go P (.dops ds::k) Q .normal (F (σ.inst d rs)))(h1:(σ.less N).toIVs args=F xs:=by exact rfl)(h3:σ.fresh d=T:=by exact rfl)(h4:Nat.ble (rs.flatMap R1.cells).length 64=T:=by exact rfl) :
  go P (.dops ((F N,E,.call d f args)::ds)::k) Q .normal (F σ):=fQ hf h1 h3 (U h4) h
theorem Bd{X:Opd}{y:V1}(H:go P (.ops its::k) Q .normal (F {(σ.set d (.v (.sc (.pb d 0)))) with bx:=put σ.bx d y.cells }))(hX:σ.val X= .v y:=by exact rfl)(hf:σ.fresh d=T:=by exact rfl)(hu:y.cells.all (fun c=> !c.uses d)=T:=by exact rfl) :
  go P (.ops ((E,.box d X)::its)::k) Q .normal (F σ):=fG hX hf hu H
theorem BS{cs:G AC}(H:go P (.ops its::k) Q .normal (F {(σ.set d (.v (.sc (.pb d 0)))) with bx:=put σ.bx d cs }))(hf:σ.fresh d=T:=by exact rfl)(hu:cs.all (fun c=> !c.uses d)=T:=by exact rfl) :
  go P (.ops ((E,.alloc d cs)::its)::k) Q .normal (F σ):=ep hf hu H
theorem Bz{sz:O}{zs:G D}{len:O}{ps:G (O × Opd)}{es:G (G D)}(H:go P (.ops its::k) Q .normal (F {(σ.set d (.v (.sc (.own (d*64))))) with rows:=put σ.rows (d*64) (sz,es) }))(hm:σ.made (.bslice d sz zs len ps)=F (.row d sz es):=by exact rfl)(hf:σ.fresh d=T:=by exact rfl) :
  go P (.ops ((E,.bslice d sz zs len ps)::its)::k) Q .normal (F σ):=As hm hf H
theorem Ap{b:Bool}(h:go P k Q .normal (F σ))(hb:b=T:=by exact rfl):go P (.fr b::k) Q .normal (F σ):=fb hb h
theorem Ed{id sz:O}{es:G (G D)}(H:go P (.ops its::k) Q .normal (F {(σ.map (AC.frz id es)) with rows:=erase σ.rows [id] }))(hf:A1 σ.rows id=F (sz,es):=by exact rfl)(h0:(id / 99999999999==0)=T:=by exact rfl) :
  go P (.ops ((E,.frz id)::its)::k) Q .normal (F σ):=fg hf H h0
end
theorem t0{α β:Sort _}{a:α}{b:β}:(a=a∧True)∧b=b:=⟨⟨rfl,⟨⟩⟩,rfl⟩
abbrev Kp(P:Program)(A B C:G O)(τ:St)(k:G Fr)(Q:Xg→St→Prop):Prop:=∀{σ:St},σ.kept A B C=τ→go P k Q .normal (F σ)
abbrev aM{α:Type}(r:α→G D)(l:G α):AC:=aL (W r l)
abbrev pB(n:O):O × AV:=(n,vc (.pb n 0))
abbrev pI(n:O)(x:Int):O × AV:=(n,vc (aI x))
abbrev pL{α:Type}(n:O)(r:α→G D)(l:G α):O × AV:=(n,vc (aL (W r l)))
abbrev pW(n m:O):O × AV:=(n,vc (.own m))
end Go.Vi
