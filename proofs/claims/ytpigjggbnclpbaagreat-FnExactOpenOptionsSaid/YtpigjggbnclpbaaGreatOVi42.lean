/-
The value level. No condition.
-/
import Derived.Test.YtpigjggbnclpbaaGreatOVi41
namespace Go.Vi
set_option linter.all false
open List renaming getElem?_eq_getElem → L, getElem?_eq_some_iff → N, pairwise_iff_getElem → U
open Option renaming map_eq_some_iff → O, some → T
open _root_ renaming List → F, Option → E, Nat → G
inductive WV where
 | d (x:DV)
 | r
 | p (k:G)
 | clo (f:FuncId) (ks:F G)
def WV.av:WV→AV
 | .d x=>x.av
 | .r=> .v (.sc (.own 99999999999))
 | .p k=> .v (.sc (.pb (99999999999+k) 0))
 | .clo f ks=> .v (.sc (.clo f (ks.map (99999999999+ ·))))
inductive WVRel (h:A6) (w:World) (ps:F G) (o:E G) (sz:G) (es:F (F D)):WV→Value→Prop
 | d {x v}:DVRel h x v→WVRel h w ps o sz es (.d x) v
 | r {v}:RCRel h w (.o sz es) v o→WVRel h w ps o sz es .r v
 | p {k b}:ps[k]?=T b→WVRel h w ps o sz es (.p k) (.pointer (T ⟨b,0,none⟩))
 | clo {f ks bs}:ks.mapM (fun k=>ps[k]?)=T bs→WVRel h w ps o sz es (.clo f ks) (.func (.func f) #[] (bs.map fun b=>Value.pointer (T ⟨b,0,none⟩)).toArray)
inductive WVRels (h:A6) (w:World) (ps:F G) (o:E G) (sz:G) (es:F (F D)):F WV→F Value→Prop
 | nil:WVRels h w ps o sz es [] []
 | cons {x v xs vs}:WVRel h w ps o sz es x v→WVRels h w ps o sz es xs vs→WVRels h w ps o sz es (x::xs) (v::vs)
section
variable {h : A6} {w : World} {ps : F G} {o : E G} {sz : G} {es : F (F D)}
theorem WVRels.len:∀{xs vs},WVRels h w ps o sz es xs vs→xs.length=vs.length
 | _,_,.nil=>rfl
 | _,_,.cons _ b=>by simp[b.len]
theorem WVRels.get:∀{xs:F WV} {vs:F Value} (i:G) {x:WV} {v:Value},WVRels h w ps o sz es xs vs→xs[i]?=T x→vs[i]?=T v→WVRel h w ps o sz es x v
 | _,_,_,_,_,.nil,hd,_=>by simp at hd
 | _,_,0,_,_,.cons a _,hd,hv=>by simp at hd hv; subst hd hv; exact a
 | _,_,i+1,_,_,.cons _ b,hd,hv=>WVRels.get i b (by simpa using hd) (by simpa using hv)
end
def Qy(h:A6)(w:World)(ps:F G)(cs:F (F D)):Prop:=∀(k:G) c,cs[k]?=T c→∃p C t,ps[k]?=T p∧w.heap[p]?=T (.cells C t (0,0))∧Reps h c C.toList∧C.toList.length=c.length
def Lr(ps:F G)(o:E G):Ad:=fun i=>if i=199999999999 then o else if 199999999998≤i∧i % 2=0 then ps[(i - 199999999998) / 2]? else none
theorem lx{ps:F G}{o:E G}{i b:G}(h:Lr ps o i=T b):Av≤i∧((i=199999999999∧o=T b)∨∃k,i=2*(99999999999+k)∧ps[k]?=T b):=by
 unfold Lr at h;unfold Av;split at h
 ·exact⟨by omega,.inl ⟨by assumption,h⟩⟩
 ·split at h
  ·rename_i q
   exact⟨q.1,.inr ⟨(i - 199999999998) / 2,by omega,h⟩⟩
  ·cases h
theorem lu{ps:F G}{o:E G}:Lr ps o (2*99999999999+1)=o:=by simp[Lr]
def HA(w:World)(ps:F G)(o:E G):Base:= .of w (Lr ps o)
theorem Zg{w:World}{ps:F G}{o:E G}{b:G}(h:(HA w ps o).M b):o=T b∨b∈ps:=by
 obtain⟨i,_,e⟩:=Base.of_M h;rcases(lx e).2 with ⟨_,e⟩|⟨k,_,e⟩
 ·exact .inl e
 ·exact .inr (List.mem_of_getElem? e)
def FCw(P:Program)(f:FuncId)(xs:F WV)(sz:G)(cs0 es0:F (F D))(cs1 es1:F (F D)):Prop:=
 ∀(w:World) (A:AY) (ps:F G) (o:E G) (vs:F Value),ps.Nodup→(∀b∈ps,b<w.heap.size∧(∀fr,¬A b fr)∧o≠T b)→(∀b,o=T b→b<w.heap.size∧∀fr,¬A b fr)→(∀w2,BelowX w.heap.size (HA w ps o) w2→GoodW w2)→
  Qy (Af A w) w ps cs0→WVRels (Af A w) w ps o sz es0 xs vs→Calls P f vs.toArray w fun e w'=>∃v,e= .returned v∧BelowX w.heap.size (HA w ps o) w'∧
   Qy (Af (fun b fr=>(w.heap.size≤b∧fr=(0,0))∨A b fr) w') w' ps cs1∧∃v',RCRel (Af (fun b fr=>(w.heap.size≤b∧fr=(0,0))∨A b fr) w') w' (.o sz es1) v' o
def Q2(ids:F G)(rid:G):AV→E WV
 | .v (.sc (.own k))=>bif k==rid then T .r else none
 | .v (.sc (.pb k 0))=>(ids.idxOf? k).map .p
 | .v (.sc (.clo f l))=>(l.mapM fun i=>ids.idxOf? i).map (.clo f)
 | x=>(Hm x).map .d
def LI(ids:F G)(rid:G):F AV→E (F WV)
 | []=>T []
 | x::xs=>match Q2 ids rid x,LI ids rid xs with
  | some y,T ys=>T (y::ys)
  | _,_=>none
def Je(bx:F (G × F AC)):F G→E (F (F AC))
 | []=>T []
 | id::ids=>match A1 bx id,Je bx ids with
  | some r,T R=>T (r::R)
  | _,_=>none
theorem Oo{bx:F (G × F AC)}:∀{ids:F G} {R:F (F AC)},Je bx ids=T R→R.length=ids.length∧∀(j id:G),ids[j]?=T id→A1 bx id=R[j]?
 | [],R,h=>by
  simp[Je] at h;subst h;exact⟨rfl,fun j id hj=>by simp at hj⟩
 | id::ids,R,h=>by
  simp only[Je] at h;split at h
  ·rename_i r R' h1 h2
   cases h;obtain⟨q1,q2⟩:=Oo h2;refine⟨by simp[q1],fun j i hj=> ?_⟩;cases j with
   | zero=>simp at hj; subst hj; simpa using h1
   | succ j=>simpa using q2 j i (by simpa using hj)
  ·cases h
def AC.nz:AC→AC
 | .nil=> .dat (.sl [])
 | c=>c
theorem CRel.nz{X:Cx}{c:AC}{v:Value}(H:CRel X c v):CRel X c.nz v:=by
 cases c with
 | nil=>cases H; exact .dat .nil
 | _=>exact H
theorem CRels.nz{X:Cx}:∀{cs:F AC} {vs:F Value},CRels X cs vs→CRels X (cs.map AC.nz) vs
 | _,_,.nil=> .nil
 | _,_,.cons a b=> .cons a.nz b.nz
def DH(bx:F (G × F AC)):F G→F (F D)→F (G × F AC)
 | id::ids,c::cs=>DH (put bx id (c.map .dat)) ids cs
 | _,_=>bx
theorem PL{id:G}:∀{ids:F G} {cs:F (F D)} {bx:F (G × F AC)},id∉ids→A1 (DH bx ids cs) id=A1 bx id
 | [],_,_,_=>by simp[DH]
 | _::_,[],_,_=>by simp[DH]
 | i::ids,c::cs,bx,h=>by
  simp only[List.mem_cons,not_or] at h;rw[DH,PL h.2,Bb _ _ h.1]
theorem Uh:∀{ids:F G} {cs:F (F D)} {bx:F (G × F AC)} {j id:G} {c:F D},ids.Nodup→ids[j]?=T id→cs[j]?=T c→A1 (DH bx ids cs) id=T (c.map .dat)
 | [],_,_,_,_,_,_,h,_=>by simp at h
 | _::_,[],_,_,_,_,_,_,h=>by simp at h
 | i::ids,c::cs,bx,j,id,d,hn,h1,h2=>by
  rw[List.nodup_cons] at hn
  cases j with
  | zero=>
   simp at h1 h2
   subst h1 h2;rw[DH,PL hn.1,B9]
  | succ j=>
   rw[DH];exact Uh hn.2 (by simpa using h1) (by simpa using h2)
theorem PN{X:Cx}:∀{c:F D} {vs:F Value},CRels X (c.map .dat) vs→Reps X.h c vs∧vs.length=c.length
 | [],vs,h=>by
  have h:CRels X [] vs:=h;cases h;exact⟨.nil,rfl⟩
 | c::cs,vs,h=>by
  have h:CRels X (.dat c::cs.map .dat) vs:=h;cases h with | cons a b=>cases a with | dat a=>exact⟨.cons a (PN b).1,by simp[(PN b).2]⟩
theorem Up{X:Cx}:∀{c:F D} {vs:F Value},Reps X.h c vs→vs.length=c.length→CRels X (c.map .dat) vs
 | [],[],_,_=> .nil
 | [],_::_,_,h=>by cases h
 | c::cs,vs,h,hl=>by
  cases h with | cons a b=>exact .cons (.dat a) (Up b (by simpa using hl))
def BV(nm:Ad)(ids:F G):F G:=ids.map fun i=>(nm (2*i)).getD 0
section
variable {P : Program} {A : Ar} {B : G} {w0 : Base} {w : World} {nm : Ad} {σ : St} {tmps : Array Value}
theorem pk{ids:F G}{rid sz:G}{es:F (F D)}(hf:A1 σ.rows rid=T (sz,es)){av:AV}{v:Value}{x:WV}(H:VRel (cx A nm σ w) av v)(h:Q2 ids rid av=T x):WVRel (Ab A nm w) w (BV nm ids) (nm (2*rid+1)) sz es x v:=by
 have hat:∀{k j b:G},ids.idxOf? k=T j→nm (2*k)=T b→(BV nm ids)[j]?=T b:=fun{k j b} h1 h2=>by
  have:=List.idxOf?_eq_some_iff.1 h1;obtain⟨hj,e,_⟩:=this;simp only[BV,List.getElem?_map,L hj];simp[e,h2]
 unfold Q2 at h;split at h
 ·rename_i k
  by_cases hk:k=rid
  ·subst hk;simp at h;subst h;exact .r (Lu (X:=cx A nm σ w) H.inv_sc hf)
  ·have:(k==rid)=false:=by simpa using hk
   simp[this] at h
 ·simp only[O] at h;obtain⟨j,h1,rfl⟩:=h;cases H.inv_sc with | pb e=>exact .p (hat h1 e)
 ·rename_i f l
  simp only[O] at h;obtain⟨js,h1,rfl⟩:=h;cases H.inv_sc with | @clo _ _ bs e=>
  refine .clo ?_;clear H
  induction l generalizing js bs with
  | nil=>simp at h1 e; subst h1 e; rfl
  | cons i l ih=>
   simp only[List.mapM_cons] at h1 e
   cases a1:ids.idxOf? i with
   | none=>rw[a1] at h1; cases h1
   | some j=>
    rw[a1] at h1
    cases a2:l.mapM fun i=>ids.idxOf? i with
    | none=>rw[a2] at h1; cases h1
    | some js'=>
     rw[a2] at h1
     cases h1;cases b1:(cx A nm σ w).nm (2*i) with
     | none=>rw[b1] at e; cases e
     | some b=>
      rw[b1] at e
      cases b2:l.mapM fun i=>(cx A nm σ w).nm (2*i) with
      | none=>rw[b2] at e; cases e
      | some bs'=>
       rw[b2] at e
       cases e;have e1:=hat a1 b1;have e2:=ih _ a2 b2;simp only[List.mapM_cons,e1,e2];rfl
 ·simp only[O] at h;obtain⟨d,h1,rfl⟩:=h;exact .d (IW (X:=cx A nm σ w) H h1)
theorem Vr{ids:F G}{rid sz:G}{es:F (F D)}(hf:A1 σ.rows rid=T (sz,es)):∀{avs:F AV} {vs:F Value} {xs:F WV},VsRel (cx A nm σ w) avs vs→LI ids rid avs=T xs→WVRels (Ab A nm w) w (BV nm ids) (nm (2*rid+1)) sz es xs vs
 | [],vs,xs,H,h=>by
  simp[LI] at h;subst h;obtain rfl:vs= []:=List.length_eq_zero_iff.1 H.1.symm;exact .nil
 | a::avs,vs,xs,H,h=>by
  unfold LI at h;split at h
  ·rename_i x xs' h1 h2
   cases h;cases vs with
   | nil=>have:=H.1; simp at this
   | cons v vs=>
    exact .cons (pk hf (H.2 0 a v rfl rfl) h1) (Vr hf ⟨by have:=H.1; simpa using this,fun i u v hu hv=>H.2 (i+1) u v (by simpa using hu) (by simpa using hv)⟩ h2)
  ·cases h
def St.behindW(σ:St)(ids:F G)(rid sz:G)(cs1 es1:F (F D)):St:={σ with bx:=DH σ.bx ids cs1,rows:=put σ.rows rid (sz,es1)}
theorem FCw.callC{f:FuncId}{xs:F WV}{sz:G}{cs0 es0 cs1 es1:F (F D)}(H:FCw P f xs sz cs0 es0 cs1 es1){ids:F G}{rid:G}{avs:F AV}(hx:LI ids rid avs=T xs)(hb:(Je σ.bx ids).map (List.map (List.map AC.nz))=T (cs0.map (List.map .dat)))(hf:A1 σ.rows rid=T (sz,es0))(hnd:ids.Nodup)(hc:cs1.length=cs0.length)(hl:es1.length=es0.length) :
  CallC P f avs σ (σ.behindW ids rid sz cs1 es1) .undef:=by
 intro A B w0 w nm tmps vs R hvs;obtain⟨R0,hb0,hb⟩:=O.1 hb;obtain⟨hbl,hbat⟩:=Oo hb0
 have hbl:cs0.length=ids.length:=by
  have:=congrArg List.length hb;simp only[List.length_map] at this
  omega
 have hbox:∀(j id:G),ids[j]?=T id→∃b c C t,nm (2*id)=T b∧cs0[j]?=T c∧(BV nm ids)[j]?=T b∧w.heap[b]?=T (.cells C t (0,0))∧Reps (Ab A nm w) c C.toList∧C.toList.length=c.length:=fun j id hj=>by
  have hjl:j<cs0.length:=by rw[hbl]; exact(N.1 hj).1
  have e:=hbat j id hj;have hjr:j<R0.length:=by rw[(Oo hb0).1]; exact(N.1 hj).1
  rw[L hjr] at e
  have eq:R0[j].map AC.nz=cs0[j].map .dat:=by
   have:=congrArg (fun l=>l[j]?) hb;simpa[hjr,hjl] using this
  obtain⟨b,C,t,k1,k2,k3⟩:=R.bxs id _ e;have k3:=k3.nz;rw[eq] at k3
  have k1:nm (2*id)=T b:=k1;refine⟨b,cs0[j],C,t,k1,L hjl,?_,k2,PN k3⟩;simp[BV,hj,k1]
 have hps:∀b∈BV nm ids,∃j id:G,ids[j]?=T id∧(BV nm ids)[j]?=T b∧nm (2*id)=T b:=fun b hm=>by
  obtain⟨j,hj⟩:=List.getElem?_of_mem hm;have hjl:j<ids.length:=by have:=(N.1 hj).1; simpa[BV] using this
  obtain⟨b',_,_,_,k1,_,k3,_⟩:=hbox j _ (L hjl);rw[hj] at k3
  cases k3;exact⟨j,_,L hjl,hj,k1⟩
 have hM:∀b,(HA w (BV nm ids) (nm (2*rid+1))).M b→nm (2*rid+1)=T b∨∃id∈ids,nm (2*id)=T b:=fun b h=>by
  rcases Zg h with h|h
  ·exact .inl h
  ·obtain⟨j,id,h1,_,h3⟩:=hps b h;exact .inr ⟨id,List.mem_of_getElem? h1,h3⟩
 have hnames:∀b,(HA w (BV nm ids) (nm (2*rid+1))).M b→B≤b∨w0.M b:=fun b h=>(hM b h).elim (fun h=>(R.names _ _ h).1) fun⟨_,_,h⟩=>(R.names _ _ h).1
 have hpn:(BV nm ids).Nodup:=by
  rw[List.Nodup,U];intro i j hi hj hij e;have hi':i<ids.length:=by simpa[BV] using hi
  have hj':j<ids.length:=by simpa[BV] using hj
  obtain⟨b,_,_,_,a1,_,a3,_⟩:=hbox i _ (L hi');obtain⟨c,_,_,_,b1,_,b3,_⟩:=hbox j _ (L hj');rw[L hi] at a3
  rw[L hj] at b3
  cases a3;cases b3;rw[e] at a1
  have:=R.inj _ _ _ a1 b1;have e2:ids[i]=ids[j]:=by omega
  exact U.1 hnd i j hi' hj' hij e2
 refine(H w (fun b fr=>(∀i,nm i≠T b)∧A b fr) (BV nm ids) (nm (2*rid+1)) vs hpn (fun b hm=> ?_) (fun b e=>⟨(R.names _ _ e).2,fun _ h=>h.1 _ e⟩) (fun w2 hb2=>R.good w2 (R.below.afterZ rfl hb2 R.size R.there hnames fun b hv=>hv.elim)) (fun k c hk=> ?_) (by rw[D2]; exact Vr hf hvs hx)).mono fun e w' h=> ?_
 ·obtain⟨_,id,_,_,e⟩:=hps b hm;refine⟨(R.names _ _ e).2,fun _ h=>h.1 _ e,fun e2=> ?_⟩;have:=R.inj _ _ _ e e2;omega
 ·have hkl:k<ids.length:=by rw[← hbl]; exact(N.1 hk).1
  obtain⟨b,c',C,t,k1,k2,k3,k4,k5⟩:=hbox k _ (L hkl);rw[hk] at k2
  cases k2;exact⟨b,C,t,k3,k4,by rw[D2]; exact k5.1,k5.2⟩
 obtain⟨v,rfl,hb2,hh,v',hr⟩:=h;have hbel:BelowX B w0 w':=R.below.afterZ rfl hb2 R.size R.there hnames fun b hv=>hv.elim
 have hsame:∀b,b<w.heap.size→nm (2*rid+1)≠T b→(∀id∈ids,nm (2*id)≠T b)→w'.heap[b]?=w.heap[b]?:=fun b hlt h1 h2=>hb2.block b hlt (fun hm=>(hM b hm).elim h1 fun⟨id,q1,q2⟩=>h2 id q1 q2) fun hv=>hv.elim
 have hview:∀b C,Ab A nm w b C→Ab A nm w' b C:=Cf fun b hlt hnb=>⟨hnb,hsame b hlt (hnb _) fun id _=>hnb _⟩
 have hvw:∀b C,Af (fun b fr=>(w.heap.size≤b∧fr=(0,0))∨((∀i,nm i≠T b)∧A b fr)) w' b C→Ab A nm w' b C:=fun b C ⟨cc,tt,fr,g1,g2⟩=>by
  rcases g1 with ⟨g1,rfl⟩|g1
  ·exact⟨fun i e=>by have:=(R.names i b e).2; omega,cc,tt,(0,0),R.all.all b (.inl (Nat.le_trans R.size g1)),g2⟩
  ·exact⟨g1.1,cc,tt,fr,g1.2,g2⟩
 have hcell:∀c v,CRel (cx A nm σ w) c v→CRel (cx A nm (σ.behindW ids rid sz cs1 es1) w') c v:=fun c v H=>by
  by_cases hc2:c.has rid=true
  ·refine H.turn hc2 (X:=cx A nm σ w) (Y:=cx A nm (σ.behindW ids rid sz cs1 es1) w') (id:=rid) (sz:=sz) (es:=es0) (es':=es1) hf (B9 _ _ _) hl rfl fun b cap hn own=> ?_
   have hn':nm (2*rid+1)=T b:=hn;rw[hn'] at hr
   cases hr with | o own' _=>
   obtain⟨k1,k2,k3,C',t',k4,k5,k6⟩:=own';obtain⟨q1,q2,q3,C,t,q4,q5,q6⟩:=own;have hm:Base.M (HA w (BV nm ids) (nm (2*rid+1))) b:= .inl ⟨2*99999999999+1,by unfold Av; omega,(lu (ps:=BV nm ids) (o:=nm (2*rid+1))).trans hn'⟩;obtain⟨C2,e1,e2⟩:=hb2.room b hm C t (0,0) q4;rw[k4] at e1
   cases e1;have hcap:=Nat.eq_of_mul_eq_mul_right k1 (k5.symm.trans (e2.trans q5));subst hcap;exact⟨k1,k2,k3,C',t',k4,k5,k6.mono hvw⟩
  ·refine H.move hview (fun id hid=> .inr ⟨?_,rfl,fun b hbn=> ?_⟩) (fun id _ b hb2=>hb2)
   ·show A1 (put σ.rows rid (sz,es1)) id=A1 σ.rows id
    rw[Bb _ _ fun e=>hc2 (by rw[← e]; exact hid)]
   ·refine hsame b (R.names _ _ hbn).2 (fun e=> ?_) fun id' _ e=> ?_
    ·have:=R.inj _ _ _ hbn e;have e3:id=rid:=by omega
     exact hc2 (e3▸hid)
    ·have:=R.inj _ _ _ hbn e;omega
 refine⟨v,nm,rfl,⟨hbel,Nat.le_trans R.size hb2.size,R.all,R.good,fun i b hi=> ?_,R.inj,R.pin,fun k=>(R.env k).to fun c v _=>hcell c v,fun id cs hcs=> ?_⟩,.undef⟩
 ·obtain⟨h1,h2⟩:=R.names i b hi;exact⟨h1,Nat.lt_of_lt_of_le h2 hb2.size⟩
 ·have hcs:A1 (DH σ.bx ids cs1) id=T cs:=hcs;by_cases hid:id∈ids
  ·obtain⟨j,hj⟩:=List.getElem?_of_mem hid;have hjl:j<cs1.length:=by rw[hc,hbl]; exact(N.1 hj).1
   rw[Uh hnd hj (L hjl)] at hcs
   cases hcs;obtain⟨b,_,_,_,k1,_,k3,_⟩:=hbox j id hj;obtain⟨p,C,t,h1,h2,h3,h4⟩:=hh j _ (L hjl);rw[k3] at h1
   cases h1;exact⟨b,C,t,k1,h2,Up (X:=cx A nm (σ.behindW ids rid sz cs1 es1) w') (h3.mono hvw) h4⟩
  ·rw[PL hid] at hcs
   obtain⟨b,C,t,h1,h2,h3⟩:=R.bxs id cs hcs;have h1:nm (2*id)=T b:=h1;refine⟨b,C,t,h1,(hsame b (R.names _ _ h1).2 (fun e=> ?_) fun id' hi e=> ?_).trans h2,h3.to fun c v _=>hcell c v⟩
   ·have:=R.inj _ _ _ h1 e; omega
   ·have:=R.inj _ _ _ h1 e;have e3:id=id':=by omega
    exact hid (e3▸hi)
end
section
variable {P : Program}
variable {k : F Fr} {Q : Xg → St → Prop} {σ : St} {its : F AItem} {d f : G} {args : F Opd} {xs : F WV} {sz : G} {cs0 es0 cs1 es1 : F (F D)}
end
section
variable {P : Program} {A : Ar} {B : G} {w0 : Base} {w : World} {nm : Ad} {σ : St} {tmps : Array Value}
end
end Go.Vi
