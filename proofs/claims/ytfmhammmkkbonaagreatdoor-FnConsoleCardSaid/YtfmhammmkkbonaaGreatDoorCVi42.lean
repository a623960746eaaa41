/-
The value level. No condition.
-/
import Derived.Test.YtfmhammmkkbonaaGreatDoorCVi41
namespace Go.Vi
set_option linter.all false
open List renaming getElem?_eq_getElem → L, getElem?_eq_some_iff → N, mem_of_getElem? → U, pairwise_iff_getElem → V, map → W, mapM_cons → Z
open Option renaming map_eq_some_iff → O, some → T
open _root_ renaming List → F, Option → E, Nat → G
inductive WV where
 | d (x:DV)
 | r
 | p (k:G)
 | clo (f:FuncId) (ks:F G)
def WV.av:WV→AV
 | .d x=>x.av
 | .r=> .v (.sc (.own 99999999999))
 | .p k=> .v (.sc (.pb (99999999999+k) 0))
 | .clo f ks=> .v (.sc (.clo f (ks.map (99999999999+ ·))))
inductive WVRel (h:A3) (w:World) (ps:F G) (o:E G) (sz:G) (es:F (F D)):WV→Value→Prop
 | d {x v}:DVRel h x v→WVRel h w ps o sz es (.d x) v
 | r {v}:RCRel h w (.o sz es) v o→WVRel h w ps o sz es .r v
 | p {k b}:ps[k]?=T b→WVRel h w ps o sz es (.p k) (.pointer (T ⟨b,0,none⟩))
 | clo {f ks bs}:ks.mapM (fun k=>ps[k]?)=T bs→WVRel h w ps o sz es (.clo f ks) (.func (.func f) #[] (bs.map fun b=>Value.pointer (T ⟨b,0,none⟩)).toArray)
inductive WVRels (h:A3) (w:World) (ps:F G) (o:E G) (sz:G) (es:F (F D)):F WV→F Value→Prop
 | nil:WVRels h w ps o sz es [] []
 | cons {x v xs vs}:WVRel h w ps o sz es x v→WVRels h w ps o sz es xs vs→WVRels h w ps o sz es (x::xs) (v::vs)
section
variable {h : A3} {w : World} {ps : F G} {o : E G} {sz : G} {es : F (F D)}
theorem WVRels.len:∀{xs vs},WVRels h w ps o sz es xs vs→xs.length=vs.length
 | _,_,.nil=>rfl
 | _,_,.cons _ b=>by simp[b.len]
theorem WVRels.get:∀{xs:F WV} {vs:F Value} (i:G) {x:WV} {v:Value},WVRels h w ps o sz es xs vs→xs[i]?=T x→vs[i]?=T v→WVRel h w ps o sz es x v
 | _,_,_,_,_,.nil,hd,_=>by simp at hd
 | _,_,0,_,_,.cons a _,hd,hv=>by simp at hd hv; subst hd hv; exact a
 | _,_,i+1,_,_,.cons _ b,hd,hv=>WVRels.get i b (by simpa using hd) (by simpa using hv)
end
def Nm(h:A3)(w:World)(ps:F G)(cs:F (F D)):Prop:=∀(k:G) c,cs[k]?=T c→∃p C t,ps[k]?=T p∧w.heap[p]?=T (.cells C t (0,0))∧Reps h c C.toList∧C.toList.length=c.length
def Ce(ps:F G)(o:E G):Ab:=fun i=>if i=199999999999 then o else if 199999999998≤i∧i % 2=0 then ps[(i - 199999999998) / 2]? else none
theorem Kb{ps:F G}{o:E G}{i b:G}(h:Ce ps o i=T b):AK≤i∧((i=199999999999∧o=T b)∨∃k,i=2*(99999999999+k)∧ps[k]?=T b):=by
 unfold Ce at h;unfold AK;split at h
 ·exact⟨by omega,.inl ⟨by assumption,h⟩⟩
 ·split at h
  ·rename_i q
   exact⟨q.1,.inr ⟨(i - 199999999998) / 2,by omega,h⟩⟩
  ·cases h
theorem RM{ps:F G}{o:E G}:Ce ps o (2*99999999999+1)=o:=by simp[Ce]
theorem Po{ps:F G}{o:E G}(k:G):Ce ps o (2*(99999999999+k))=ps[k]?:=by
 unfold Ce;rw[if_neg (by omega),if_pos (by omega)];congr 1
 omega
def F5(w:World)(ps:F G)(o:E G):Base:= .of w (Ce ps o)
theorem eL{w:World}{ps:F G}{o:E G}{b:G}(h:(F5 w ps o).M b):o=T b∨b∈ps:=by
 obtain⟨i,_,e⟩:=Base.of_M h;rcases(Kb e).2 with ⟨_,e⟩|⟨k,_,e⟩
 ·exact .inl e
 ·exact .inr (U e)
def FCw(P:Program)(f:FuncId)(xs:F WV)(sz:G)(cs0 es0:F (F D))(cs1 es1:F (F D)):Prop:=
 ∀(w:World) (A:B5) (ps:F G) (o:E G) (vs:F Value),ps.Nodup→(∀b∈ps,b<w.heap.size∧(∀fr,¬A b fr)∧o≠T b)→(∀b,o=T b→b<w.heap.size∧∀fr,¬A b fr)→(∀w2,BelowX w.heap.size (F5 w ps o) w2→GoodW w2)→
  Nm (Al A w) w ps cs0→WVRels (Al A w) w ps o sz es0 xs vs→Calls P f vs.toArray w fun e w'=>∃v,e= .returned v∧BelowX w.heap.size (F5 w ps o) w'∧
   Nm (Al (fun b fr=>(w.heap.size≤b∧fr=(0,0))∨A b fr) w') w' ps cs1∧∃v',RCRel (Al (fun b fr=>(w.heap.size≤b∧fr=(0,0))∨A b fr) w') w' (.o sz es1) v' o
def Sq(ids:F G)(rid:G):AV→E WV
 | .v (.sc (.own k))=>bif k==rid then T .r else none
 | .v (.sc (.pb k 0))=>(ids.idxOf? k).map .p
 | .v (.sc (.clo f l))=>(l.mapM fun i=>ids.idxOf? i).map (.clo f)
 | x=>(Ko x).map .d
def IE(ids:F G)(rid:G):F AV→E (F WV)
 | []=>T []
 | x::xs=>match Sq ids rid x,IE ids rid xs with
  | some y,T ys=>T (y::ys)
  | _,_=>none
def H4(bx:F (G × F AC)):F G→E (F (F AC))
 | []=>T []
 | id::ids=>match A1 bx id,H4 bx ids with
  | some r,T R=>T (r::R)
  | _,_=>none
theorem Ql{bx:F (G × F AC)}:∀{ids:F G} {R:F (F AC)},H4 bx ids=T R→R.length=ids.length∧∀(j id:G),ids[j]?=T id→A1 bx id=R[j]?
 | [],R,h=>by
  simp[H4] at h;subst h;exact⟨rfl,fun j id hj=>by simp at hj⟩
 | id::ids,R,h=>by
  simp only[H4] at h;split at h
  ·rename_i r R' h1 h2
   cases h;obtain⟨q1,q2⟩:=Ql h2;refine⟨by simp[q1],fun j i hj=> ?_⟩;cases j with
   | zero=>simp at hj; subst hj; simpa using h1
   | succ j=>simpa using q2 j i (by simpa using hj)
  ·cases h
def AC.nz:AC→AC
 | .nil=> .dat (.sl [])
 | c=>c
theorem CRel.nz{X:Cx}{c:AC}{v:Value}(H:CRel X c v):CRel X c.nz v:=by
 cases c with
 | nil=>cases H; exact .dat .nil
 | _=>exact H
theorem CRels.nz{X:Cx}:∀{cs:F AC} {vs:F Value},CRels X cs vs→CRels X (cs.map AC.nz) vs
 | _,_,.nil=> .nil
 | _,_,.cons a b=> .cons a.nz b.nz
def DC(bx:F (G × F AC)):F G→F (F D)→F (G × F AC)
 | id::ids,c::cs=>DC (put bx id (c.map .dat)) ids cs
 | _,_=>bx
theorem S6{id:G}:∀{ids:F G} {cs:F (F D)} {bx:F (G × F AC)},id∉ids→A1 (DC bx ids cs) id=A1 bx id
 | [],_,_,_=>by simp[DC]
 | _::_,[],_,_=>by simp[DC]
 | i::ids,c::cs,bx,h=>by
  simp only[List.mem_cons,not_or] at h;rw[DC,S6 h.2,Bt _ _ h.1]
theorem XA:∀{ids:F G} {cs:F (F D)} {bx:F (G × F AC)} {j id:G} {c:F D},ids.Nodup→ids[j]?=T id→cs[j]?=T c→A1 (DC bx ids cs) id=T (c.map .dat)
 | [],_,_,_,_,_,_,h,_=>by simp at h
 | _::_,[],_,_,_,_,_,_,h=>by simp at h
 | i::ids,c::cs,bx,j,id,d,hn,h1,h2=>by
  rw[List.nodup_cons] at hn
  cases j with
  | zero=>
   simp at h1 h2
   subst h1 h2;rw[DC,S6 hn.1,Bg]
  | succ j=>
   rw[DC];exact XA hn.2 (by simpa using h1) (by simpa using h2)
theorem Pv{X:Cx}:∀{c:F D} {vs:F Value},CRels X (c.map .dat) vs→Reps X.h c vs∧vs.length=c.length
 | [],vs,h=>by
  have h:CRels X [] vs:=h;cases h;exact⟨.nil,rfl⟩
 | c::cs,vs,h=>by
  have h:CRels X (.dat c::cs.map .dat) vs:=h;cases h with | cons a b=>cases a with | dat a=>exact⟨.cons a (Pv b).1,by simp[(Pv b).2]⟩
theorem S9{X:Cx}:∀{c:F D} {vs:F Value},Reps X.h c vs→vs.length=c.length→CRels X (c.map .dat) vs
 | [],[],_,_=> .nil
 | [],_::_,_,h=>by cases h
 | c::cs,vs,h,hl=>by
  cases h with | cons a b=>exact .cons (.dat a) (S9 b (by simpa using hl))
def Cj(nm:Ab)(ids:F G):F G:=ids.map fun i=>(nm (2*i)).getD 0
section
variable {P : Program} {A : Ar} {B : G} {w0 : Base} {w : World} {nm : Ab} {σ : St} {tmps : Array Value}
theorem xH{ids:F G}{rid sz:G}{es:F (F D)}(hf:A1 σ.rows rid=T (sz,es)){av:AV}{v:Value}{x:WV}(H:VRel (cx A nm σ w) av v)(h:Sq ids rid av=T x):WVRel (Ad A nm w) w (Cj nm ids) (nm (2*rid+1)) sz es x v:=by
 have hat:∀{k j b:G},ids.idxOf? k=T j→nm (2*k)=T b→(Cj nm ids)[j]?=T b:=fun{k j b} h1 h2=>by
  have:=List.idxOf?_eq_some_iff.1 h1;obtain⟨hj,e,_⟩:=this;simp only[Cj,List.getElem?_map,L hj];simp[e,h2]
 unfold Sq at h;split at h
 ·rename_i k
  by_cases hk:k=rid
  ·subst hk;simp at h;subst h;exact .r (RY (X:=cx A nm σ w) H.inv_sc hf)
  ·have:(k==rid)=false:=by simpa using hk
   simp[this] at h
 ·simp only[O] at h;obtain⟨j,h1,rfl⟩:=h;cases H.inv_sc with | pb e=>exact .p (hat h1 e)
 ·rename_i f l
  simp only[O] at h;obtain⟨js,h1,rfl⟩:=h;cases H.inv_sc with | @clo _ _ bs e=>
  refine .clo ?_;clear H
  induction l generalizing js bs with
  | nil=>simp at h1 e; subst h1 e; rfl
  | cons i l ih=>
   simp only[Z] at h1 e
   cases a1:ids.idxOf? i with
   | none=>rw[a1] at h1; cases h1
   | some j=>
    rw[a1] at h1
    cases a2:l.mapM fun i=>ids.idxOf? i with
    | none=>rw[a2] at h1; cases h1
    | some js'=>
     rw[a2] at h1
     cases h1;cases b1:(cx A nm σ w).nm (2*i) with
     | none=>rw[b1] at e; cases e
     | some b=>
      rw[b1] at e
      cases b2:l.mapM fun i=>(cx A nm σ w).nm (2*i) with
      | none=>rw[b2] at e; cases e
      | some bs'=>
       rw[b2] at e
       cases e;have e1:=hat a1 b1;have e2:=ih _ a2 b2;simp only[Z,e1,e2];rfl
 ·simp only[O] at h;obtain⟨d,h1,rfl⟩:=h;exact .d (N4 (X:=cx A nm σ w) H h1)
theorem YQ{ids:F G}{rid sz:G}{es:F (F D)}(hf:A1 σ.rows rid=T (sz,es)):∀{avs:F AV} {vs:F Value} {xs:F WV},VsRel (cx A nm σ w) avs vs→IE ids rid avs=T xs→WVRels (Ad A nm w) w (Cj nm ids) (nm (2*rid+1)) sz es xs vs
 | [],vs,xs,H,h=>by
  simp[IE] at h;subst h;obtain rfl:vs= []:=List.length_eq_zero_iff.1 H.1.symm;exact .nil
 | a::avs,vs,xs,H,h=>by
  unfold IE at h;split at h
  ·rename_i x xs' h1 h2
   cases h;cases vs with
   | nil=>have:=H.1; simp at this
   | cons v vs=>
    exact .cons (xH hf (H.2 0 a v rfl rfl) h1) (YQ hf ⟨by have:=H.1; simpa using this,fun i u v hu hv=>H.2 (i+1) u v (by simpa using hu) (by simpa using hv)⟩ h2)
  ·cases h
def St.behindW(σ:St)(ids:F G)(rid sz:G)(cs1 es1:F (F D)):St:={σ with bx:=DC σ.bx ids cs1,rows:=put σ.rows rid (sz,es1)}
theorem FCw.callC{f:FuncId}{xs:F WV}{sz:G}{cs0 es0 cs1 es1:F (F D)}(H:FCw P f xs sz cs0 es0 cs1 es1){ids:F G}{rid:G}{avs:F AV}(hx:IE ids rid avs=T xs)(hb:(H4 σ.bx ids).map (W (W AC.nz))=T (cs0.map (W .dat)))(hf:A1 σ.rows rid=T (sz,es0))(hnd:ids.Nodup)(hc:cs1.length=cs0.length)(hl:es1.length=es0.length) :
  DX P f avs σ (σ.behindW ids rid sz cs1 es1) .undef:=by
 intro A B w0 w nm tmps vs R hvs;obtain⟨R0,hb0,hb⟩:=O.1 hb;obtain⟨hbl,hbat⟩:=Ql hb0
 have hbl:cs0.length=ids.length:=by
  have:=congrArg List.length hb;simp only[List.length_map] at this
  omega
 have hbox:∀(j id:G),ids[j]?=T id→∃b c C t,nm (2*id)=T b∧cs0[j]?=T c∧(Cj nm ids)[j]?=T b∧w.heap[b]?=T (.cells C t (0,0))∧Reps (Ad A nm w) c C.toList∧C.toList.length=c.length:=fun j id hj=>by
  have hjl:j<cs0.length:=by rw[hbl]; exact(N.1 hj).1
  have e:=hbat j id hj;have hjr:j<R0.length:=by rw[(Ql hb0).1]; exact(N.1 hj).1
  rw[L hjr] at e
  have eq:R0[j].map AC.nz=cs0[j].map .dat:=by
   have:=congrArg (fun l=>l[j]?) hb;simpa[hjr,hjl] using this
  obtain⟨b,C,t,k1,k2,k3⟩:=R.bxs id _ e;have k3:=k3.nz;rw[eq] at k3
  have k1:nm (2*id)=T b:=k1;refine⟨b,cs0[j],C,t,k1,L hjl,?_,k2,Pv k3⟩;simp[Cj,hj,k1]
 have hps:∀b∈Cj nm ids,∃j id:G,ids[j]?=T id∧(Cj nm ids)[j]?=T b∧nm (2*id)=T b:=fun b hm=>by
  obtain⟨j,hj⟩:=List.getElem?_of_mem hm;have hjl:j<ids.length:=by have:=(N.1 hj).1; simpa[Cj] using this
  obtain⟨b',_,_,_,k1,_,k3,_⟩:=hbox j _ (L hjl);rw[hj] at k3
  cases k3;exact⟨j,_,L hjl,hj,k1⟩
 have hM:∀b,(F5 w (Cj nm ids) (nm (2*rid+1))).M b→nm (2*rid+1)=T b∨∃id∈ids,nm (2*id)=T b:=fun b h=>by
  rcases eL h with h|h
  ·exact .inl h
  ·obtain⟨j,id,h1,_,h3⟩:=hps b h;exact .inr ⟨id,U h1,h3⟩
 have hnames:∀b,(F5 w (Cj nm ids) (nm (2*rid+1))).M b→B≤b∨w0.M b:=fun b h=>(hM b h).elim (fun h=>(R.names _ _ h).1) fun⟨_,_,h⟩=>(R.names _ _ h).1
 have hpn:(Cj nm ids).Nodup:=by
  rw[List.Nodup,V];intro i j hi hj hij e;have hi':i<ids.length:=by simpa[Cj] using hi
  have hj':j<ids.length:=by simpa[Cj] using hj
  obtain⟨b,_,_,_,a1,_,a3,_⟩:=hbox i _ (L hi');obtain⟨c,_,_,_,b1,_,b3,_⟩:=hbox j _ (L hj');rw[L hi] at a3
  rw[L hj] at b3
  cases a3;cases b3;rw[e] at a1
  have:=R.inj _ _ _ a1 b1;have e2:ids[i]=ids[j]:=by omega
  exact V.1 hnd i j hi' hj' hij e2
 refine(H w (fun b fr=>(∀i,nm i≠T b)∧A b fr) (Cj nm ids) (nm (2*rid+1)) vs hpn (fun b hm=> ?_) (fun b e=>⟨(R.names _ _ e).2,fun _ h=>h.1 _ e⟩) (fun w2 hb2=>R.good w2 (R.below.afterZ rfl hb2 R.size R.there hnames fun b hv=>hv.elim)) (fun k c hk=> ?_) (by rw[Ek]; exact YQ hf hvs hx)).mono fun e w' h=> ?_
 ·obtain⟨_,id,_,_,e⟩:=hps b hm;refine⟨(R.names _ _ e).2,fun _ h=>h.1 _ e,fun e2=> ?_⟩;have:=R.inj _ _ _ e e2;omega
 ·have hkl:k<ids.length:=by rw[← hbl]; exact(N.1 hk).1
  obtain⟨b,c',C,t,k1,k2,k3,k4,k5⟩:=hbox k _ (L hkl);rw[hk] at k2
  cases k2;exact⟨b,C,t,k3,k4,by rw[Ek]; exact k5.1,k5.2⟩
 obtain⟨v,rfl,hb2,hh,v',hr⟩:=h;have hbel:BelowX B w0 w':=R.below.afterZ rfl hb2 R.size R.there hnames fun b hv=>hv.elim
 have hsame:∀b,b<w.heap.size→nm (2*rid+1)≠T b→(∀id∈ids,nm (2*id)≠T b)→w'.heap[b]?=w.heap[b]?:=fun b hlt h1 h2=>hb2.block b hlt (fun hm=>(hM b hm).elim h1 fun⟨id,q1,q2⟩=>h2 id q1 q2) fun hv=>hv.elim
 have hview:∀b C,Ad A nm w b C→Ad A nm w' b C:=CY fun b hlt hnb=>⟨hnb,hsame b hlt (hnb _) fun id _=>hnb _⟩
 have hvw:∀b C,Al (fun b fr=>(w.heap.size≤b∧fr=(0,0))∨((∀i,nm i≠T b)∧A b fr)) w' b C→Ad A nm w' b C:=fun b C ⟨cc,tt,fr,g1,g2⟩=>by
  rcases g1 with ⟨g1,rfl⟩|g1
  ·exact⟨fun i e=>by have:=(R.names i b e).2; omega,cc,tt,(0,0),R.all.all b (.inl (Nat.le_trans R.size g1)),g2⟩
  ·exact⟨g1.1,cc,tt,fr,g1.2,g2⟩
 have hcell:∀c v,CRel (cx A nm σ w) c v→CRel (cx A nm (σ.behindW ids rid sz cs1 es1) w') c v:=fun c v H=>by
  by_cases hc2:c.has rid=true
  ·refine H.turn hc2 (X:=cx A nm σ w) (Y:=cx A nm (σ.behindW ids rid sz cs1 es1) w') (id:=rid) (sz:=sz) (es:=es0) (es':=es1) hf (Bg _ _ _) hl rfl fun b cap hn own=> ?_
   have hn':nm (2*rid+1)=T b:=hn;rw[hn'] at hr
   cases hr with | o own' _=>
   obtain⟨k1,k2,k3,C',t',k4,k5,k6⟩:=own';obtain⟨q1,q2,q3,C,t,q4,q5,q6⟩:=own;have hm:Base.M (F5 w (Cj nm ids) (nm (2*rid+1))) b:= .inl ⟨2*99999999999+1,by unfold AK; omega,(RM (ps:=Cj nm ids) (o:=nm (2*rid+1))).trans hn'⟩;obtain⟨C2,e1,e2⟩:=hb2.room b hm C t (0,0) q4;rw[k4] at e1
   cases e1;have hcap:=Nat.eq_of_mul_eq_mul_right k1 (k5.symm.trans (e2.trans q5));subst hcap;exact⟨k1,k2,k3,C',t',k4,k5,k6.mono hvw⟩
  ·refine H.move hview (fun id hid=> .inr ⟨?_,rfl,fun b hbn=> ?_⟩) (fun id _ b hb2=>hb2)
   ·show A1 (put σ.rows rid (sz,es1)) id=A1 σ.rows id
    rw[Bt _ _ fun e=>hc2 (by rw[← e]; exact hid)]
   ·refine hsame b (R.names _ _ hbn).2 (fun e=> ?_) fun id' _ e=> ?_
    ·have:=R.inj _ _ _ hbn e;have e3:id=rid:=by omega
     exact hc2 (e3▸hid)
    ·have:=R.inj _ _ _ hbn e;omega
 refine⟨v,nm,rfl,⟨hbel,Nat.le_trans R.size hb2.size,R.all,R.good,fun i b hi=> ?_,R.inj,R.pin,fun k=>(R.env k).to fun c v _=>hcell c v,fun id cs hcs=> ?_⟩,.undef⟩
 ·obtain⟨h1,h2⟩:=R.names i b hi;exact⟨h1,Nat.lt_of_lt_of_le h2 hb2.size⟩
 ·have hcs:A1 (DC σ.bx ids cs1) id=T cs:=hcs;by_cases hid:id∈ids
  ·obtain⟨j,hj⟩:=List.getElem?_of_mem hid;have hjl:j<cs1.length:=by rw[hc,hbl]; exact(N.1 hj).1
   rw[XA hnd hj (L hjl)] at hcs
   cases hcs;obtain⟨b,_,_,_,k1,_,k3,_⟩:=hbox j id hj;obtain⟨p,C,t,h1,h2,h3,h4⟩:=hh j _ (L hjl);rw[k3] at h1
   cases h1;exact⟨b,C,t,k1,h2,S9 (X:=cx A nm (σ.behindW ids rid sz cs1 es1) w') (h3.mono hvw) h4⟩
  ·rw[S6 hid] at hcs
   obtain⟨b,C,t,h1,h2,h3⟩:=R.bxs id cs hcs;have h1:nm (2*id)=T b:=h1;refine⟨b,C,t,h1,(hsame b (R.names _ _ h1).2 (fun e=> ?_) fun id' hi e=> ?_).trans h2,h3.to fun c v _=>hcell c v⟩
   ·have:=R.inj _ _ _ h1 e; omega
   ·have:=R.inj _ _ _ h1 e;have e3:id=id':=by omega
    exact hid (e3▸hi)
end
def JW:G→F WV→F (G × AV)
 | _,[]=> []
 | k,x::xs=>(k,x.av)::JW (k+1) xs
def KH:G→F (F D)→F (G × F AC)
 | _,[]=> []
 | k,c::cs=>(99999999999+k,c.map .dat)::KH (k+1) cs
def St.initW(xs:F WV)(cs0:F (F D))(sz:G)(es0:F (F D)):St:=⟨JW 0 xs,KH 0 cs0,[(99999999999,sz,es0)]⟩
theorem Uo:∀(ds:F WV) (k i:G),A1 (JW k ds) i=if k≤i then(ds[i - k]?).map WV.av else none
 | [],k,i=>by simp[JW,A1]
 | d::ds,k,i=>by
  simp only[JW,A1];by_cases hk:k=i
  ·subst hk; simp
  ·have h':=C4 hk;rw[h',cond_false,Uo ds (k+1) i];by_cases h1:k≤i
   ·rw[if_pos (by omega),if_pos h1,show i - k=(i - (k+1))+1 by omega]; simp
   ·rw[if_neg (by omega),if_neg h1]
theorem Um:∀(cs:F (F D)) (k i:G) {c:F AC},A1 (KH k cs) i=T c→∃j c',i=99999999999+(k+j)∧cs[j]?=T c'∧c=c'.map .dat
 | [],k,i,c,h=>by simp[KH,A1] at h
 | d::ds,k,i,c,h=>by
  simp only[KH,A1] at h;by_cases hk:99999999999+k=i
  ·subst hk;simp at h;exact⟨0,d,by omega,rfl,h.symm⟩
  ·have h':=C4 hk;rw[h',cond_false] at h;obtain⟨j,c',h1,h2,h3⟩:=Um ds (k+1) i h;exact⟨j+1,c',by omega,by simpa using h2,h3⟩
theorem qG{w:World}{A0:B5}{ps:F G}{o:E G}{xs:F WV}{sz:G}{cs0 es0:F (F D)}{vs:F Value}(nt:G)(hpn:ps.Nodup)(hp:∀b∈ps,b<w.heap.size∧(∀fr,¬A0 b fr)∧o≠T b)(ho:∀b,o=T b→b<w.heap.size∧∀fr,¬A0 b fr)
  (hG:∀w2,BelowX w.heap.size (F5 w ps o) w2→GoodW w2) (hH:Nm (Al A0 w) w ps cs0) (h:WVRels (Al A0 w) w ps o sz es0 xs vs) :
  Rel (.of fun b fr=>(w.heap.size≤b∧fr=(0,0))∨A0 b fr) w.heap.size (F5 w ps o) (Ce ps o) (St.initW xs cs0 sz es0) (vs.toArray++Array.replicate (nt - vs.toArray.size) undef) w:=by
 have hin:∀i b,Ce ps o i=T b→b<w.heap.size∧∀fr,¬A0 b fr:=fun i b e=>by
  rcases(Kb e).2 with ⟨_,e⟩|⟨k,_,e⟩
  ·exact ho b e
  ·have:=hp b (U e);exact⟨this.1,this.2.1⟩
 have hv:∀b C,Al A0 w b C→Ad (fun b fr=>(w.heap.size≤b∧fr=(0,0))∨A0 b fr) (Ce ps o) w b C:=fun b C ⟨cc,tt,fr,h0,h1⟩=>⟨fun i e=>(hin i b e).2 _ h0,cc,tt,fr,.inr h0,h1⟩
 refine⟨BelowX.start _ _ (fun _ h=>h.elim),Nat.le_refl _,⟨fun b hb=>hb.elim (fun h=> .inl ⟨h,rfl⟩) fun h=>h.elim,fun _ _ h=>h.elim,fun _ _ h=>h.elim,fun _ _ h=>h.elim,fun h=>by cases h⟩,hG,fun i b hi=>⟨.inr (.inl ⟨i,(Kb hi).1,hi⟩),(hin i b hi).1⟩,fun i j b hi hj=> ?_,fun i hi=>rfl,fun k=> ?_,fun id cs hcs=> ?_⟩
 ·rcases(Kb hi).2 with ⟨i1,i2⟩|⟨k,i1,i2⟩
  ·rcases(Kb hj).2 with ⟨j1,j2⟩|⟨l,j1,j2⟩
   ·omega
   ·exact absurd i2 (hp b (U j2)).2.2
  ·rcases(Kb hj).2 with ⟨j1,j2⟩|⟨l,j1,j2⟩
   ·exact absurd j2 (hp b (U i2)).2.2
   ·obtain⟨hk,ek⟩:=N.1 i2;obtain⟨hl,el⟩:=N.1 j2;have hq:=V.1 hpn;rcases Nat.lt_trichotomy k l with hlt|he|hgt
    ·exact absurd (ek.trans el.symm) (hq k l hk hl hlt)
    ·omega
    ·exact absurd (el.trans ek.symm) (hq l k hl hk hgt)
 ·unfold St.get;rw[show(St.initW xs cs0 sz es0).env=JW 0 xs from rfl,Uo xs 0 k];simp only[Nat.zero_le,if_true,Nat.sub_zero];cases hd:xs[k]? with
  | none=>exact .undef
  | some x=>
   have hk:k<vs.length:=by rw[← h.len]; exact(N.1 hd).1
   have hvk:vs[k]?=T (vs[k]'hk):=L hk
   have e:(vs.toArray++Array.replicate (nt - vs.toArray.size) undef).getD k undef=vs[k]'hk:=by
    rw[Array.getD_eq_getD_getElem?,Array.getElem?_append_left (by simpa using hk)];simp[hk]
   rw[e];have hr:=WVRels.get k h hd hvk;revert hr
   generalize vs[k]'hk=z
   intro hr;have hfd:A1 (cx (.of fun b fr=>(w.heap.size≤b∧fr=(0,0))∨A0 b fr) (Ce ps o) (St.initW xs cs0 sz es0) w).rs 99999999999=T (sz,es0):=by simp[cx,St.initW,A1]
   have hnd:(cx (.of fun b fr=>(w.heap.size≤b∧fr=(0,0))∨A0 b fr) (Ce ps o) (St.initW xs cs0 sz es0) w).nm (2*99999999999+1)=o:=RM (ps:=ps) (o:=o);cases hr with
   | d hr=>exact DVRel.vrel (X:=cx (.of fun b fr=>(w.heap.size≤b∧fr=(0,0))∨A0 b fr) (Ce ps o) (St.initW xs cs0 sz es0) w) (hr.mono hv)
   | r hr=>
    cases hr with
    | nil=>exact .v (.sc (.ownNil hfd hnd))
    | o own hl=>exact .v (.sc (.own hfd hnd (Kg own hv) hl))
   | p hr=>exact .v (.sc (.pb ((Po _).trans hr)))
   | @clo f ks bs hr=>
    refine .v (.sc (.clo ?_));clear hd
    induction ks generalizing bs with
    | nil=>simpa using hr
    | cons a ks ih=>
     simp only[Z] at hr
     cases a1:ps[a]? with
     | none=>rw[a1] at hr; cases hr
     | some b=>
      rw[a1] at hr
      cases a2:ks.mapM fun k=>ps[k]? with
      | none=>rw[a2] at hr; cases hr
      | some bs'=>
       rw[a2] at hr
       cases hr;have e1:(cx (.of fun b fr=>(w.heap.size≤b∧fr=(0,0))∨A0 b fr) (Ce ps o) (St.initW xs cs0 sz es0) w).nm (2*(99999999999+a))=T b:=(Po _).trans a1;have e2:=ih a2;simp only[List.map_cons,Z,e1,e2];rfl
 ·obtain⟨j,c',h1,h2,h3⟩:=Um cs0 0 id hcs;subst h3;obtain⟨p,C,t,k1,k2,k3,k4⟩:=hH j c' h2;refine⟨p,C,t,?_,k2,S9 (X:=cx (.of fun b fr=>(w.heap.size≤b∧fr=(0,0))∨A0 b fr) (Ce ps o) (St.initW xs cs0 sz es0) w) (k3.mono hv) k4⟩;rw[h1,Nat.zero_add];exact(Po j).trans k1
def NG(bx:F (G × F AC)):G→F (F D)→Prop
 | _,[]=>True
 | k,c::cs=>A1 bx (99999999999+k)=T (c.map .dat)∧NG bx (k+1) cs
theorem TJ{bx:F (G × F AC)}:∀{cs:F (F D)} {k j:G} {c:F D},NG bx k cs→cs[j]?=T c→A1 bx (99999999999+(k+j))=T (c.map .dat)
 | [],_,_,_,_,h=>by simp at h
 | a::cs,k,0,c,h,hj=>by simp at hj; subst hj; exact h.1
 | a::cs,k,j+1,c,h,hj=>by
  have:=TJ (j:=j) h.2 (by simpa using hj);rw[show k+(j+1)=k+1+j by omega];exact this
def Kx(sz:G)(cs1 es1:F (F D))(e:Xn)(σ:St):Prop:=
 match e with
 | .exit _=>False
 | .pan _=>False
 | _=>σ.get 0= .v (.sc (.own 99999999999))∧A1 σ.rows 99999999999=T (sz,es1)∧NG σ.bx 0 cs1
section
variable {P : Program}
theorem aD(hm:P.follows .mixedOrders=true){f:FuncId}{c:Xg}{nt:G}{xs:F WV}{sz:G}{cs0 es0 cs1 es1:F (F D)}(he:AG P f=T (c.strip,[],nt))(hl:xs.length≤nt)(h:B4 P c (Kx sz cs1 es1) (St.initW xs cs0 sz es0)):FCw P f xs sz cs0 es0 cs1 es1:=by
 unfold AG at he
 split at he
 ·rename_i fn hf
  split at he
  ·rename_i C ts' hb hr
   simp only[O] at he
   obtain⟨c',hc,e⟩:=he;simp only[Prod.mk.injEq] at e
   obtain⟨e1,e2,e3⟩:=e;subst e1 e2 e3;intro w A0 ps o vs hpn hp ho hG hH hvs;refine calls_of_wp hf hb ?_;have hlv:=hvs.len;refine wp_mono (IY (df:= []) hm c C _ (Ce ps o) (St.initW xs cs0 sz es0) _ w hc h (qG fn.ntmps hpn hp ho hG hH hvs) (by simp; omega) rfl) fun e a w' hq=> ?_
   obtain⟨e',nm,σ,he,hq,R,hnt,hdf⟩:=hq;have hview:∀b C,Ad (fun b fr=>(w.heap.size≤b∧fr=(0,0))∨A0 b fr) nm w' b C→Al (fun b fr=>(w.heap.size≤b∧fr=(0,0))∨A0 b fr) w' b C:=fun b C ⟨_,cc,tt,fr,g2,g3⟩=>⟨cc,tt,fr,g2,g3⟩
   have key:σ.get 0= .v (.sc (.own 99999999999))∧A1 σ.rows 99999999999=T (sz,es1)∧NG σ.bx 0 cs1→a.defers= []∧∃v,(results fn a.tmps).run P w'= .ok v w'∧∃v',Ending.returned v= .returned v'∧BelowX w.heap.size (F5 w ps o) w'∧
     Nm (Al (fun b fr=>(w.heap.size≤b∧fr=(0,0))∨A0 b fr) w') w' ps cs1∧∃v'',RCRel (Al (fun b fr=>(w.heap.size≤b∧fr=(0,0))∨A0 b fr) w') w' (.o sz es1) v'' o:=by
    intro⟨h0,hrow,hbx⟩;obtain⟨vs',hrun,hvl,_⟩:=Kf (P:=P) (f:=fun | .tmp t=>pure (a.tmps.getD t undef) | .cell c t=>do loadVar t (← asAddr (a.tmps.getD c undef))) (rs:= []) R hview (fun _=>rfl) (fun _ _=>rfl) hr trivial;obtain rfl:vs'= []:=List.length_eq_zero_iff.1 hvl;refine⟨hdf,.tuple #[],?_,_,rfl,R.below,fun k cc hk=> ?_,?_⟩
    ·unfold results;rw[← Array.toArray_toList (xs:=fn.results)];simp only[List.mapM_toArray,Sem.run_bind,map_eq_pure_bind];erw [hrun]
     simp only[Result.andThen_ok,Sem.run_pure];simp
    ·have hf:=TJ hbx hk;rw[Nat.zero_add] at hf
     obtain⟨b,C,t,k1,k2,k3⟩:=R.bxs _ _ hf;have k1:nm (2*(99999999999+k))=T b:=k1;have hpin:nm (2*(99999999999+k))=Ce ps o (2*(99999999999+k)):=R.pin _ (by unfold AK; omega);rw[k1,Po] at hpin
     obtain⟨q1,q2⟩:=Pv k3;exact⟨b,C,t,hpin.symm,k2,q1.mono hview,q2⟩
    ·have H:=R.env 0;rw[h0] at H
     have hpin:nm (2*99999999999+1)=Ce ps o (2*99999999999+1):=R.pin _ (by unfold AK; omega);rw[RM] at hpin
     have:=RY (X:=cx (.of fun b fr=>(w.heap.size≤b∧fr=(0,0))∨A0 b fr) nm σ w') H.inv_sc hrow;have hn:(cx (.of fun b fr=>(w.heap.size≤b∧fr=(0,0))∨A0 b fr) nm σ w').nm (2*99999999999+1)=o:=hpin;rw[hn] at this
     revert this
     generalize a.tmps.getD 0 undef=z
     intro this;cases this with
     | nil=>exact⟨.slice none 0 0,.nil⟩
     | o own hl=>exact⟨_,.o (Kg own hview) hl⟩
   cases e' with
   | normal=>obtain rfl:e= .normal:=he; exact key hq
   | ret=>obtain rfl:e= .ret:=he; exact key hq
   | exit id=>exact hq.elim
   | pan d=>exact hq.elim
  ·cases he
 ·cases he
theorem SP(hm:P.follows .mixedOrders=true){f nt:G}{c:Xg}{xs:F WV}{sz:G}{cs0 es0 cs1 es1:F (F D)}{σ:St}(he:AG P f=T (c.strip,[],nt))(hl:Nat.ble xs.length nt=true)(hσ:St.initW xs cs0 sz es0=σ)(h:go P [.code c] (Kx sz cs1 es1) .normal (T σ)):FCw P f xs sz cs0 es0 cs1 es1:=
 aD hm he (Nat.le_of_ble_eq_true hl) (hσ▸JS h)
variable {k : F Fr} {Q : Xn → St → Prop} {σ : St} {its : F AItem} {d f : G} {args : F Opd} {xs : F WV} {sz : G} {cs0 es0 cs1 es1 : F (F D)}
theorem Uz(hf:FCw P f xs sz cs0 es0 cs1 es1)(ids:F G)(rid:G)(h:go P (.ops its::k) Q .normal (T ((σ.behindW ids rid sz cs1 es1).set d .undef)))(hl:es1.length=es0.length)(hx:IE ids rid (args.map σ.val)=T xs:=by exact rfl)(hb:(H4 σ.bx ids).map (W (W AC.nz))=T (cs0.map (W .dat)):=by exact rfl)(hr:A1 σ.rows rid=T (sz,es0):=by exact rfl)(hnd:MO ids=true:=by exact rfl)(hc:cs1.length=cs0.length:=by exact rfl) :
  go P (.ops ((none,.call d f args)::its)::k) Q .normal (T σ):=Ml (hf.callC hx hb hr (RI hnd) hc hl) h
theorem ni{x:Opd}{jds:F G}(hf:FCw P f xs sz cs0 es0 cs1 es1)(ids:F G)(rid:G)(h:go P (.ops its::k) Q .normal (T ((σ.behindW ids rid sz cs1 es1).set d .undef)))(hl:es1.length=es0.length)(hok:BA P f=true)(hv:σ.val x= .v (.sc (.clo f jds)):=by exact rfl)(hx:IE ids rid (args.map σ.val++jds.map fun i=> .v (.sc (.pb i 0)))=T xs:=by exact rfl)(hb:(H4 σ.bx ids).map (W (W AC.nz))=T (cs0.map (W .dat)):=by exact rfl)(hr:A1 σ.rows rid=T (sz,es0):=by exact rfl)(hnd:MO ids=true:=by exact rfl)(hc:cs1.length=cs0.length:=by exact rfl) :
  go P (.ops ((none,.callv d x args)::its)::k) Q .normal (T σ):= .inr ⟨f,jds,_,_,hv,hok,hf.callC hx hb hr (RI hnd) hc hl,h⟩
end
section
variable {P : Program} {A : Ar} {B : G} {w0 : Base} {w : World} {nm : Ab} {σ : St} {tmps : Array Value}
end
end Go.Vi
