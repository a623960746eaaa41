/-
The value level. No condition.
-/
import Derived.Test.YthcejlnjploddaaGreatDoorBVi41
namespace Go.Vi
set_option linter.all false
open List renaming getElem?_eq_getElem → N, getElem?_eq_some_iff → O, mem_of_getElem? → V, pairwise_iff_getElem → W, map → Z, length_eq_zero_iff → I, mapM_cons → zB
open Option renaming map_eq_some_iff → U, some → T, none → F
open Nat renaming le_trans → zA
open _root_ renaming List → E, Option → G, Nat → L
inductive WV where
 | d (x:DV)
 | r
 | p (k:L)
 | clo (f:FuncId) (ks:E L)
def WV.av:WV→AV
 | .d x=>x.av
 | .r=> .v (.sc (.own 99999999999))
 | .p k=> .v (.sc (.pb (99999999999+k) 0))
 | .clo f ks=> .v (.sc (.clo f (ks.map (99999999999+ ·))))
inductive WVRel (h:A9) (w:World) (ps:E L) (o:G L) (sz:L) (es:E (E D)):WV→Value→Prop
 | d {x v}:DVRel h x v→WVRel h w ps o sz es (.d x) v
 | r {v}:RCRel h w (.o sz es) v o→WVRel h w ps o sz es .r v
 | p {k b}:ps[k]?=T b→WVRel h w ps o sz es (.p k) (.pointer (T ⟨b,0,F⟩))
 | clo {f ks bs}:ks.mapM (fun k=>ps[k]?)=T bs→WVRel h w ps o sz es (.clo f ks) (.func (.func f) #[] (bs.map fun b=>Value.pointer (T ⟨b,0,F⟩)).toArray)
inductive WVRels (h:A9) (w:World) (ps:E L) (o:G L) (sz:L) (es:E (E D)):E WV→E Value→Prop
 | nil:WVRels h w ps o sz es [] []
 | cons {x v xs vs}:WVRel h w ps o sz es x v→WVRels h w ps o sz es xs vs→WVRels h w ps o sz es (x::xs) (v::vs)
section
variable {h : A9} {w : World} {ps : E L} {o : G L} {sz : L} {es : E (E D)}
theorem WVRels.len:∀{xs vs},WVRels h w ps o sz es xs vs→xs.length=vs.length
 | _,_,.nil=>rfl
 | _,_,.cons _ b=>by simp[b.len]
theorem WVRels.get:∀{xs:E WV} {vs:E Value} (i:L) {x:WV} {v:Value},WVRels h w ps o sz es xs vs→xs[i]?=T x→vs[i]?=T v→WVRel h w ps o sz es x v
 | _,_,_,_,_,.nil,hd,_=>by simp at hd
 | _,_,0,_,_,.cons a _,hd,hv=>by simp at hd hv; subst hd hv; exact a
 | _,_,i+1,_,_,.cons _ b,hd,hv=>WVRels.get i b (by simpa using hd) (by simpa using hv)
end
def Po(h:A9)(w:World)(ps:E L)(cs:E (E D)):Prop:=∀(k:L) c,cs[k]?=T c→∃p C t,ps[k]?=T p∧w.heap[p]?=T (.cells C t (0,0))∧Reps h c C.toList∧C.toList.length=c.length
def Cg(ps:E L)(o:G L):Ab:=fun i=>if i=199999999999 then o else if 199999999998≤i∧i % 2=0 then ps[(i - 199999999998) / 2]? else F
theorem Le{ps:E L}{o:G L}{i b:L}(h:Cg ps o i=T b):AO≤i∧((i=199999999999∧o=T b)∨∃k,i=2*(99999999999+k)∧ps[k]?=T b):=by
 unfold Cg at h;unfold AO;split at h
 ·exact⟨by omega,.inl ⟨by assumption,h⟩⟩
 ·split at h
  ·rename_i q
   exact⟨q.1,.inr ⟨(i - 199999999998) / 2,by omega,h⟩⟩
  ·cases h
theorem Tv{ps:E L}{o:G L}:Cg ps o (2*99999999999+1)=o:=by simp[Cg]
theorem Rn{ps:E L}{o:G L}(k:L):Cg ps o (2*(99999999999+k))=ps[k]?:=by
 unfold Cg;rw[if_neg (by omega),if_pos (by omega)];congr 1
 omega
def F5(w:World)(ps:E L)(o:G L):Base:= .of w (Cg ps o)
theorem iP{w:World}{ps:E L}{o:G L}{b:L}(h:(F5 w ps o).M b):o=T b∨b∈ps:=by
 obtain⟨i,_,e⟩:=Base.of_M h;rcases(Le e).2 with ⟨_,e⟩|⟨k,_,e⟩
 ·exact .inl e
 ·exact .inr (V e)
def FCw(P:Program)(f:FuncId)(xs:E WV)(sz:L)(cs0 es0:E (E D))(cs1 es1:E (E D)):Prop:=
 ∀(w:World) (A:B6) (ps:E L) (o:G L) (vs:E Value),ps.Nodup→(∀b∈ps,b<w.heap.size∧(∀fr,¬A b fr)∧o≠T b)→(∀b,o=T b→b<w.heap.size∧∀fr,¬A b fr)→(∀w2,BelowX w.heap.size (F5 w ps o) w2→GoodW w2)→
  Po (Am A w) w ps cs0→WVRels (Am A w) w ps o sz es0 xs vs→Calls P f vs.toArray w fun e w'=>∃v,e= .returned v∧BelowX w.heap.size (F5 w ps o) w'∧
   Po (Am (fun b fr=>(w.heap.size≤b∧fr=(0,0))∨A b fr) w') w' ps cs1∧∃v',RCRel (Am (fun b fr=>(w.heap.size≤b∧fr=(0,0))∨A b fr) w') w' (.o sz es1) v' o
def U4(ids:E L)(rid:L):AV→G WV
 | .v (.sc (.own k))=>bif k==rid then T .r else F
 | .v (.sc (.pb k 0))=>(ids.idxOf? k).map .p
 | .v (.sc (.clo f l))=>(l.mapM fun i=>ids.idxOf? i).map (.clo f)
 | x=>(Jr x).map .d
def Jt(ids:E L)(rid:L):E AV→G (E WV)
 | []=>T []
 | x::xs=>match U4 ids rid x,Jt ids rid xs with
  | some y,T ys=>T (y::ys)
  | _,_=>F
def Hm(bx:E (L × E AC)):E L→G (E (E AC))
 | []=>T []
 | id::ids=>match A1 bx id,Hm bx ids with
  | some r,T R=>T (r::R)
  | _,_=>F
theorem Sl{bx:E (L × E AC)}:∀{ids:E L} {R:E (E AC)},Hm bx ids=T R→R.length=ids.length∧∀(j id:L),ids[j]?=T id→A1 bx id=R[j]?
 | [],R,h=>by
  simp[Hm] at h;subst h;exact⟨rfl,fun j id hj=>by simp at hj⟩
 | id::ids,R,h=>by
  simp only[Hm] at h;split at h
  ·rename_i r R' h1 h2
   cases h;obtain⟨q1,q2⟩:=Sl h2;refine⟨by simp[q1],fun j i hj=> ?_⟩;cases j with
   | zero=>simp at hj; subst hj; simpa using h1
   | succ j=>simpa using q2 j i (by simpa using hj)
  ·cases h
def AC.nz:AC→AC
 | .nil=> .dat (.sl [])
 | c=>c
theorem CRel.nz{X:Cx}{c:AC}{v:Value}(H:CRel X c v):CRel X c.nz v:=by
 cases c with
 | nil=>cases H; exact .dat .nil
 | _=>exact H
theorem CRels.nz{X:Cx}:∀{cs:E AC} {vs:E Value},CRels X cs vs→CRels X (cs.map AC.nz) vs
 | _,_,.nil=> .nil
 | _,_,.cons a b=> .cons a.nz b.nz
def Dl(bx:E (L × E AC)):E L→E (E D)→E (L × E AC)
 | id::ids,c::cs=>Dl (put bx id (c.map .dat)) ids cs
 | _,_=>bx
theorem TK{id:L}:∀{ids:E L} {cs:E (E D)} {bx:E (L × E AC)},id∉ids→A1 (Dl bx ids cs) id=A1 bx id
 | [],_,_,_=>by simp[Dl]
 | _::_,[],_,_=>by simp[Dl]
 | i::ids,c::cs,bx,h=>by
  simp only[List.mem_cons,not_or] at h;rw[Dl,TK h.2,Bo _ _ h.1]
theorem ZG:∀{ids:E L} {cs:E (E D)} {bx:E (L × E AC)} {j id:L} {c:E D},ids.Nodup→ids[j]?=T id→cs[j]?=T c→A1 (Dl bx ids cs) id=T (c.map .dat)
 | [],_,_,_,_,_,_,h,_=>by simp at h
 | _::_,[],_,_,_,_,_,_,h=>by simp at h
 | i::ids,c::cs,bx,j,id,d,hn,h1,h2=>by
  rw[List.nodup_cons] at hn
  cases j with
  | zero=>
   simp at h1 h2
   subst h1 h2;rw[Dl,TK hn.1,Bb]
  | succ j=>
   rw[Dl];exact ZG hn.2 (by simpa using h1) (by simpa using h2)
theorem Ru{X:Cx}:∀{c:E D} {vs:E Value},CRels X (c.map .dat) vs→Reps X.h c vs∧vs.length=c.length
 | [],vs,h=>by
  have h:CRels X [] vs:=h;cases h;exact⟨.nil,rfl⟩
 | c::cs,vs,h=>by
  have h:CRels X (.dat c::cs.map .dat) vs:=h;cases h with | cons a b=>cases a with | dat a=>exact⟨.cons a (Ru b).1,by simp[(Ru b).2]⟩
theorem TM{X:Cx}:∀{c:E D} {vs:E Value},Reps X.h c vs→vs.length=c.length→CRels X (c.map .dat) vs
 | [],[],_,_=> .nil
 | [],_::_,_,h=>by cases h
 | c::cs,vs,h,hl=>by
  cases h with | cons a b=>exact .cons (.dat a) (TM b (by simpa using hl))
def Cj(nm:Ab)(ids:E L):E L:=ids.map fun i=>(nm (2*i)).getD 0
section
variable {P : Program} {A : Ar} {B : L} {w0 : Base} {w : World} {nm : Ab} {σ : St} {tmps : Array Value}
theorem A0a{ids:E L}{rid sz:L}{es:E (E D)}(hf:A1 σ.rows rid=T (sz,es)){av:AV}{v:Value}{x:WV}(H:VRel (cx A nm σ w) av v)(h:U4 ids rid av=T x):WVRel (Ac A nm w) w (Cj nm ids) (nm (2*rid+1)) sz es x v:=by
 have hat:∀{k j b:L},ids.idxOf? k=T j→nm (2*k)=T b→(Cj nm ids)[j]?=T b:=fun{k j b} h1 h2=>by
  have:=List.idxOf?_eq_some_iff.1 h1;obtain⟨hj,e,_⟩:=this;simp only[Cj,List.getElem?_map,N hj];simp[e,h2]
 unfold U4 at h;split at h
 ·rename_i k
  by_cases hk:k=rid
  ·subst hk;simp at h;subst h;exact .r (TF (X:=cx A nm σ w) H.inv_sc hf)
  ·have:(k==rid)=false:=by simpa using hk
   simp[this] at h
 ·simp only[U] at h;obtain⟨j,h1,rfl⟩:=h;cases H.inv_sc with | pb e=>exact .p (hat h1 e)
 ·rename_i f l
  simp only[U] at h;obtain⟨js,h1,rfl⟩:=h;cases H.inv_sc with | @clo _ _ bs e=>
  refine .clo ?_;clear H
  induction l generalizing js bs with
  | nil=>simp at h1 e; subst h1 e; rfl
  | cons i l ih=>
   simp only[zB] at h1 e
   cases a1:ids.idxOf? i with
   | none=>rw[a1] at h1; cases h1
   | some j=>
    rw[a1] at h1
    cases a2:l.mapM fun i=>ids.idxOf? i with
    | none=>rw[a2] at h1; cases h1
    | some js'=>
     rw[a2] at h1
     cases h1;cases b1:(cx A nm σ w).nm (2*i) with
     | none=>rw[b1] at e; cases e
     | some b=>
      rw[b1] at e
      cases b2:l.mapM fun i=>(cx A nm σ w).nm (2*i) with
      | none=>rw[b2] at e; cases e
      | some bs'=>
       rw[b2] at e
       cases e;have e1:=hat a1 b1;have e2:=ih _ a2 b2;simp only[zB,e1,e2];rfl
 ·simp only[U] at h;obtain⟨d,h1,rfl⟩:=h;exact .d (Ln (X:=cx A nm σ w) H h1)
theorem bI{ids:E L}{rid sz:L}{es:E (E D)}(hf:A1 σ.rows rid=T (sz,es)):∀{avs:E AV} {vs:E Value} {xs:E WV},VsRel (cx A nm σ w) avs vs→Jt ids rid avs=T xs→WVRels (Ac A nm w) w (Cj nm ids) (nm (2*rid+1)) sz es xs vs
 | [],vs,xs,H,h=>by
  simp[Jt] at h;subst h;obtain rfl:vs= []:=I.1 H.1.symm;exact .nil
 | a::avs,vs,xs,H,h=>by
  unfold Jt at h;split at h
  ·rename_i x xs' h1 h2
   cases h;cases vs with
   | nil=>have:=H.1; simp at this
   | cons v vs=>
    exact .cons (A0a hf (H.2 0 a v rfl rfl) h1) (bI hf ⟨by have:=H.1; simpa using this,fun i u v hu hv=>H.2 (i+1) u v (by simpa using hu) (by simpa using hv)⟩ h2)
  ·cases h
def St.behindW(σ:St)(ids:E L)(rid sz:L)(cs1 es1:E (E D)):St:={σ with bx:=Dl σ.bx ids cs1,rows:=put σ.rows rid (sz,es1)}
theorem FCw.callC{f:FuncId}{xs:E WV}{sz:L}{cs0 es0 cs1 es1:E (E D)}(H:FCw P f xs sz cs0 es0 cs1 es1){ids:E L}{rid:L}{avs:E AV}(hx:Jt ids rid avs=T xs)(hb:(Hm σ.bx ids).map (Z (Z AC.nz))=T (cs0.map (Z .dat)))(hf:A1 σ.rows rid=T (sz,es0))(hnd:ids.Nodup)(hc:cs1.length=cs0.length)(hl:es1.length=es0.length) :
  Dn P f avs σ (σ.behindW ids rid sz cs1 es1) .undef:=by
 intro A B w0 w nm tmps vs R hvs;obtain⟨R0,hb0,hb⟩:=U.1 hb;obtain⟨hbl,hbat⟩:=Sl hb0
 have hbl:cs0.length=ids.length:=by
  have:=congrArg List.length hb;simp only[List.length_map] at this
  omega
 have hbox:∀(j id:L),ids[j]?=T id→∃b c C t,nm (2*id)=T b∧cs0[j]?=T c∧(Cj nm ids)[j]?=T b∧w.heap[b]?=T (.cells C t (0,0))∧Reps (Ac A nm w) c C.toList∧C.toList.length=c.length:=fun j id hj=>by
  have hjl:j<cs0.length:=by rw[hbl]; exact(O.1 hj).1
  have e:=hbat j id hj;have hjr:j<R0.length:=by rw[(Sl hb0).1]; exact(O.1 hj).1
  rw[N hjr] at e
  have eq:R0[j].map AC.nz=cs0[j].map .dat:=by
   have:=congrArg (fun l=>l[j]?) hb;simpa[hjr,hjl] using this
  obtain⟨b,C,t,k1,k2,k3⟩:=R.bxs id _ e;have k3:=k3.nz;rw[eq] at k3
  have k1:nm (2*id)=T b:=k1;refine⟨b,cs0[j],C,t,k1,N hjl,?_,k2,Ru k3⟩;simp[Cj,hj,k1]
 have hps:∀b∈Cj nm ids,∃j id:L,ids[j]?=T id∧(Cj nm ids)[j]?=T b∧nm (2*id)=T b:=fun b hm=>by
  obtain⟨j,hj⟩:=List.getElem?_of_mem hm;have hjl:j<ids.length:=by have:=(O.1 hj).1; simpa[Cj] using this
  obtain⟨b',_,_,_,k1,_,k3,_⟩:=hbox j _ (N hjl);rw[hj] at k3
  cases k3;exact⟨j,_,N hjl,hj,k1⟩
 have hM:∀b,(F5 w (Cj nm ids) (nm (2*rid+1))).M b→nm (2*rid+1)=T b∨∃id∈ids,nm (2*id)=T b:=fun b h=>by
  rcases iP h with h|h
  ·exact .inl h
  ·obtain⟨j,id,h1,_,h3⟩:=hps b h;exact .inr ⟨id,V h1,h3⟩
 have hnames:∀b,(F5 w (Cj nm ids) (nm (2*rid+1))).M b→B≤b∨w0.M b:=fun b h=>(hM b h).elim (fun h=>(R.names _ _ h).1) fun⟨_,_,h⟩=>(R.names _ _ h).1
 have hpn:(Cj nm ids).Nodup:=by
  rw[List.Nodup,W];intro i j hi hj hij e;have hi':i<ids.length:=by simpa[Cj] using hi
  have hj':j<ids.length:=by simpa[Cj] using hj
  obtain⟨b,_,_,_,a1,_,a3,_⟩:=hbox i _ (N hi');obtain⟨c,_,_,_,b1,_,b3,_⟩:=hbox j _ (N hj');rw[N hi] at a3
  rw[N hj] at b3
  cases a3;cases b3;rw[e] at a1
  have:=R.inj _ _ _ a1 b1;have e2:ids[i]=ids[j]:=by omega
  exact W.1 hnd i j hi' hj' hij e2
 refine(H w (fun b fr=>(∀i,nm i≠T b)∧A b fr) (Cj nm ids) (nm (2*rid+1)) vs hpn (fun b hm=> ?_) (fun b e=>⟨(R.names _ _ e).2,fun _ h=>h.1 _ e⟩) (fun w2 hb2=>R.good w2 (R.below.afterZ rfl hb2 R.size R.there hnames fun b hv=>hv.elim)) (fun k c hk=> ?_) (by rw[DK]; exact bI hf hvs hx)).mono fun e w' h=> ?_
 ·obtain⟨_,id,_,_,e⟩:=hps b hm;refine⟨(R.names _ _ e).2,fun _ h=>h.1 _ e,fun e2=> ?_⟩;have:=R.inj _ _ _ e e2;omega
 ·have hkl:k<ids.length:=by rw[← hbl]; exact(O.1 hk).1
  obtain⟨b,c',C,t,k1,k2,k3,k4,k5⟩:=hbox k _ (N hkl);rw[hk] at k2
  cases k2;exact⟨b,C,t,k3,k4,by rw[DK]; exact k5.1,k5.2⟩
 obtain⟨v,rfl,hb2,hh,v',hr⟩:=h;have hbel:BelowX B w0 w':=R.below.afterZ rfl hb2 R.size R.there hnames fun b hv=>hv.elim
 have hsame:∀b,b<w.heap.size→nm (2*rid+1)≠T b→(∀id∈ids,nm (2*id)≠T b)→w'.heap[b]?=w.heap[b]?:=fun b hlt h1 h2=>hb2.block b hlt (fun hm=>(hM b hm).elim h1 fun⟨id,q1,q2⟩=>h2 id q1 q2) fun hv=>hv.elim
 have hview:∀b C,Ac A nm w b C→Ac A nm w' b C:=CM fun b hlt hnb=>⟨hnb,hsame b hlt (hnb _) fun id _=>hnb _⟩
 have hvw:∀b C,Am (fun b fr=>(w.heap.size≤b∧fr=(0,0))∨((∀i,nm i≠T b)∧A b fr)) w' b C→Ac A nm w' b C:=fun b C ⟨cc,tt,fr,g1,g2⟩=>by
  rcases g1 with ⟨g1,rfl⟩|g1
  ·exact⟨fun i e=>by have:=(R.names i b e).2; omega,cc,tt,(0,0),R.all.all b (.inl (zA R.size g1)),g2⟩
  ·exact⟨g1.1,cc,tt,fr,g1.2,g2⟩
 have hcell:∀c v,CRel (cx A nm σ w) c v→CRel (cx A nm (σ.behindW ids rid sz cs1 es1) w') c v:=fun c v H=>by
  by_cases hc2:c.has rid=true
  ·refine H.turn hc2 (X:=cx A nm σ w) (Y:=cx A nm (σ.behindW ids rid sz cs1 es1) w') (id:=rid) (sz:=sz) (es:=es0) (es':=es1) hf (Bb _ _ _) hl rfl fun b cap hn own=> ?_
   have hn':nm (2*rid+1)=T b:=hn;rw[hn'] at hr
   cases hr with | o own' _=>
   obtain⟨k1,k2,k3,C',t',k4,k5,k6⟩:=own';obtain⟨q1,q2,q3,C,t,q4,q5,q6⟩:=own;have hm:Base.M (F5 w (Cj nm ids) (nm (2*rid+1))) b:= .inl ⟨2*99999999999+1,by unfold AO; omega,(Tv (ps:=Cj nm ids) (o:=nm (2*rid+1))).trans hn'⟩;obtain⟨C2,e1,e2⟩:=hb2.room b hm C t (0,0) q4;rw[k4] at e1
   cases e1;have hcap:=Nat.eq_of_mul_eq_mul_right k1 (k5.symm.trans (e2.trans q5));subst hcap;exact⟨k1,k2,k3,C',t',k4,k5,k6.mono hvw⟩
  ·refine H.move hview (fun id hid=> .inr ⟨?_,rfl,fun b hbn=> ?_⟩) (fun id _ b hb2=>hb2)
   ·show A1 (put σ.rows rid (sz,es1)) id=A1 σ.rows id
    rw[Bo _ _ fun e=>hc2 (by rw[← e]; exact hid)]
   ·refine hsame b (R.names _ _ hbn).2 (fun e=> ?_) fun id' _ e=> ?_
    ·have:=R.inj _ _ _ hbn e;have e3:id=rid:=by omega
     exact hc2 (e3▸hid)
    ·have:=R.inj _ _ _ hbn e;omega
 refine⟨v,nm,rfl,⟨hbel,zA R.size hb2.size,R.all,R.good,fun i b hi=> ?_,R.inj,R.pin,fun k=>(R.env k).to fun c v _=>hcell c v,fun id cs hcs=> ?_⟩,.undef⟩
 ·obtain⟨h1,h2⟩:=R.names i b hi;exact⟨h1,Nat.lt_of_lt_of_le h2 hb2.size⟩
 ·have hcs:A1 (Dl σ.bx ids cs1) id=T cs:=hcs;by_cases hid:id∈ids
  ·obtain⟨j,hj⟩:=List.getElem?_of_mem hid;have hjl:j<cs1.length:=by rw[hc,hbl]; exact(O.1 hj).1
   rw[ZG hnd hj (N hjl)] at hcs
   cases hcs;obtain⟨b,_,_,_,k1,_,k3,_⟩:=hbox j id hj;obtain⟨p,C,t,h1,h2,h3,h4⟩:=hh j _ (N hjl);rw[k3] at h1
   cases h1;exact⟨b,C,t,k1,h2,TM (X:=cx A nm (σ.behindW ids rid sz cs1 es1) w') (h3.mono hvw) h4⟩
  ·rw[TK hid] at hcs
   obtain⟨b,C,t,h1,h2,h3⟩:=R.bxs id cs hcs;have h1:nm (2*id)=T b:=h1;refine⟨b,C,t,h1,(hsame b (R.names _ _ h1).2 (fun e=> ?_) fun id' hi e=> ?_).trans h2,h3.to fun c v _=>hcell c v⟩
   ·have:=R.inj _ _ _ h1 e; omega
   ·have:=R.inj _ _ _ h1 e;have e3:id=id':=by omega
    exact hid (e3▸hi)
end
def L4:L→E WV→E (L × AV)
 | _,[]=> []
 | k,x::xs=>(k,x.av)::L4 (k+1) xs
def LF:L→E (E D)→E (L × E AC)
 | _,[]=> []
 | k,c::cs=>(99999999999+k,c.map .dat)::LF (k+1) cs
def St.initW(xs:E WV)(cs0:E (E D))(sz:L)(es0:E (E D)):St:=⟨L4 0 xs,LF 0 cs0,[(99999999999,sz,es0)]⟩
theorem Wi:∀(ds:E WV) (k i:L),A1 (L4 k ds) i=if k≤i then(ds[i - k]?).map WV.av else F
 | [],k,i=>by simp[L4,A1]
 | d::ds,k,i=>by
  simp only[L4,A1];by_cases hk:k=i
  ·subst hk; simp
  ·have h':=BY hk;rw[h',cond_false,Wi ds (k+1) i];by_cases h1:k≤i
   ·rw[if_pos (by omega),if_pos h1,show i - k=(i - (k+1))+1 by omega]; simp
   ·rw[if_neg (by omega),if_neg h1]
theorem Wf:∀(cs:E (E D)) (k i:L) {c:E AC},A1 (LF k cs) i=T c→∃j c',i=99999999999+(k+j)∧cs[j]?=T c'∧c=c'.map .dat
 | [],k,i,c,h=>by simp[LF,A1] at h
 | d::ds,k,i,c,h=>by
  simp only[LF,A1] at h;by_cases hk:99999999999+k=i
  ·subst hk;simp at h;exact⟨0,d,by omega,rfl,h.symm⟩
  ·have h':=BY hk;rw[h',cond_false] at h;obtain⟨j,c',h1,h2,h3⟩:=Wf ds (k+1) i h;exact⟨j+1,c',by omega,by simpa using h2,h3⟩
theorem sJ{w:World}{A0:B6}{ps:E L}{o:G L}{xs:E WV}{sz:L}{cs0 es0:E (E D)}{vs:E Value}(nt:L)(hpn:ps.Nodup)(hp:∀b∈ps,b<w.heap.size∧(∀fr,¬A0 b fr)∧o≠T b)(ho:∀b,o=T b→b<w.heap.size∧∀fr,¬A0 b fr)
  (hG:∀w2,BelowX w.heap.size (F5 w ps o) w2→GoodW w2) (hH:Po (Am A0 w) w ps cs0) (h:WVRels (Am A0 w) w ps o sz es0 xs vs) :
  Rel (.of fun b fr=>(w.heap.size≤b∧fr=(0,0))∨A0 b fr) w.heap.size (F5 w ps o) (Cg ps o) (St.initW xs cs0 sz es0) (vs.toArray++Array.replicate (nt - vs.toArray.size) undef) w:=by
 have hin:∀i b,Cg ps o i=T b→b<w.heap.size∧∀fr,¬A0 b fr:=fun i b e=>by
  rcases(Le e).2 with ⟨_,e⟩|⟨k,_,e⟩
  ·exact ho b e
  ·have:=hp b (V e);exact⟨this.1,this.2.1⟩
 have hv:∀b C,Am A0 w b C→Ac (fun b fr=>(w.heap.size≤b∧fr=(0,0))∨A0 b fr) (Cg ps o) w b C:=fun b C ⟨cc,tt,fr,h0,h1⟩=>⟨fun i e=>(hin i b e).2 _ h0,cc,tt,fr,.inr h0,h1⟩
 refine⟨BelowX.start _ _ (fun _ h=>h.elim),Nat.le_refl _,⟨fun b hb=>hb.elim (fun h=> .inl ⟨h,rfl⟩) fun h=>h.elim,fun _ _ h=>h.elim,fun _ _ h=>h.elim,fun _ _ h=>h.elim,fun h=>by cases h⟩,hG,fun i b hi=>⟨.inr (.inl ⟨i,(Le hi).1,hi⟩),(hin i b hi).1⟩,fun i j b hi hj=> ?_,fun i hi=>rfl,fun k=> ?_,fun id cs hcs=> ?_⟩
 ·rcases(Le hi).2 with ⟨i1,i2⟩|⟨k,i1,i2⟩
  ·rcases(Le hj).2 with ⟨j1,j2⟩|⟨l,j1,j2⟩
   ·omega
   ·exact absurd i2 (hp b (V j2)).2.2
  ·rcases(Le hj).2 with ⟨j1,j2⟩|⟨l,j1,j2⟩
   ·exact absurd j2 (hp b (V i2)).2.2
   ·obtain⟨hk,ek⟩:=O.1 i2;obtain⟨hl,el⟩:=O.1 j2;have hq:=W.1 hpn;rcases Nat.lt_trichotomy k l with hlt|he|hgt
    ·exact absurd (ek.trans el.symm) (hq k l hk hl hlt)
    ·omega
    ·exact absurd (el.trans ek.symm) (hq l k hl hk hgt)
 ·unfold St.get;rw[show(St.initW xs cs0 sz es0).env=L4 0 xs from rfl,Wi xs 0 k];simp only[Nat.zero_le,if_true,Nat.sub_zero];cases hd:xs[k]? with
  | none=>exact .undef
  | some x=>
   have hk:k<vs.length:=by rw[← h.len]; exact(O.1 hd).1
   have hvk:vs[k]?=T (vs[k]'hk):=N hk
   have e:(vs.toArray++Array.replicate (nt - vs.toArray.size) undef).getD k undef=vs[k]'hk:=by
    rw[Array.getD_eq_getD_getElem?,Array.getElem?_append_left (by simpa using hk)];simp[hk]
   rw[e];have hr:=WVRels.get k h hd hvk;revert hr
   generalize vs[k]'hk=z
   intro hr;have hfd:A1 (cx (.of fun b fr=>(w.heap.size≤b∧fr=(0,0))∨A0 b fr) (Cg ps o) (St.initW xs cs0 sz es0) w).rs 99999999999=T (sz,es0):=by simp[cx,St.initW,A1]
   have hnd:(cx (.of fun b fr=>(w.heap.size≤b∧fr=(0,0))∨A0 b fr) (Cg ps o) (St.initW xs cs0 sz es0) w).nm (2*99999999999+1)=o:=Tv (ps:=ps) (o:=o);cases hr with
   | d hr=>exact DVRel.vrel (X:=cx (.of fun b fr=>(w.heap.size≤b∧fr=(0,0))∨A0 b fr) (Cg ps o) (St.initW xs cs0 sz es0) w) (hr.mono hv)
   | r hr=>
    cases hr with
    | nil=>exact .v (.sc (.ownNil hfd hnd))
    | o own hl=>exact .v (.sc (.own hfd hnd (FQ own hv) hl))
   | p hr=>exact .v (.sc (.pb ((Rn _).trans hr)))
   | @clo f ks bs hr=>
    refine .v (.sc (.clo ?_));clear hd
    induction ks generalizing bs with
    | nil=>simpa using hr
    | cons a ks ih=>
     simp only[zB] at hr
     cases a1:ps[a]? with
     | none=>rw[a1] at hr; cases hr
     | some b=>
      rw[a1] at hr
      cases a2:ks.mapM fun k=>ps[k]? with
      | none=>rw[a2] at hr; cases hr
      | some bs'=>
       rw[a2] at hr
       cases hr;have e1:(cx (.of fun b fr=>(w.heap.size≤b∧fr=(0,0))∨A0 b fr) (Cg ps o) (St.initW xs cs0 sz es0) w).nm (2*(99999999999+a))=T b:=(Rn _).trans a1;have e2:=ih a2;simp only[List.map_cons,zB,e1,e2];rfl
 ·obtain⟨j,c',h1,h2,h3⟩:=Wf cs0 0 id hcs;subst h3;obtain⟨p,C,t,k1,k2,k3,k4⟩:=hH j c' h2;refine⟨p,C,t,?_,k2,TM (X:=cx (.of fun b fr=>(w.heap.size≤b∧fr=(0,0))∨A0 b fr) (Cg ps o) (St.initW xs cs0 sz es0) w) (k3.mono hv) k4⟩;rw[h1,Nat.zero_add];exact(Rn j).trans k1
def PD(bx:E (L × E AC)):L→E (E D)→Prop
 | _,[]=>True
 | k,c::cs=>A1 bx (99999999999+k)=T (c.map .dat)∧PD bx (k+1) cs
theorem VM{bx:E (L × E AC)}:∀{cs:E (E D)} {k j:L} {c:E D},PD bx k cs→cs[j]?=T c→A1 bx (99999999999+(k+j))=T (c.map .dat)
 | [],_,_,_,_,h=>by simp at h
 | a::cs,k,0,c,h,hj=>by simp at hj; subst hj; exact h.1
 | a::cs,k,j+1,c,h,hj=>by
  have:=VM (j:=j) h.2 (by simpa using hj);rw[show k+(j+1)=k+1+j by omega];exact this
def Lv(sz:L)(cs1 es1:E (E D))(e:Xn)(σ:St):Prop:=
 match e with
 | .exit _=>False
 | .pan _=>False
 | _=>σ.get 0= .v (.sc (.own 99999999999))∧A1 σ.rows 99999999999=T (sz,es1)∧PD σ.bx 0 cs1
section
variable {P : Program}
theorem dC(hm:P.follows .mixedOrders=true){f:FuncId}{c:Xi}{nt:L}{xs:E WV}{sz:L}{cs0 es0 cs1 es1:E (E D)}(he:BM P f=T (c.strip,[],nt))(hl:xs.length≤nt)(h:Ba P c (Lv sz cs1 es1) (St.initW xs cs0 sz es0)):FCw P f xs sz cs0 es0 cs1 es1:=by
 unfold BM at he
 split at he
 ·rename_i fn hf
  split at he
  ·rename_i C ts' hb hr
   simp only[U] at he
   obtain⟨c',hc,e⟩:=he;simp only[Prod.mk.injEq] at e
   obtain⟨e1,e2,e3⟩:=e;subst e1 e2 e3;intro w A0 ps o vs hpn hp ho hG hH hvs;refine calls_of_wp hf hb ?_;have hlv:=hvs.len;refine wp_mono (PG (df:= []) hm c C _ (Cg ps o) (St.initW xs cs0 sz es0) _ w hc h (sJ fn.ntmps hpn hp ho hG hH hvs) (by simp; omega) rfl) fun e a w' hq=> ?_
   obtain⟨e',nm,σ,he,hq,R,hnt,hdf⟩:=hq;have hview:∀b C,Ac (fun b fr=>(w.heap.size≤b∧fr=(0,0))∨A0 b fr) nm w' b C→Am (fun b fr=>(w.heap.size≤b∧fr=(0,0))∨A0 b fr) w' b C:=fun b C ⟨_,cc,tt,fr,g2,g3⟩=>⟨cc,tt,fr,g2,g3⟩
   have key:σ.get 0= .v (.sc (.own 99999999999))∧A1 σ.rows 99999999999=T (sz,es1)∧PD σ.bx 0 cs1→a.defers= []∧∃v,(results fn a.tmps).run P w'= .ok v w'∧∃v',Ending.returned v= .returned v'∧BelowX w.heap.size (F5 w ps o) w'∧
     Po (Am (fun b fr=>(w.heap.size≤b∧fr=(0,0))∨A0 b fr) w') w' ps cs1∧∃v'',RCRel (Am (fun b fr=>(w.heap.size≤b∧fr=(0,0))∨A0 b fr) w') w' (.o sz es1) v'' o:=by
    intro⟨h0,hrow,hbx⟩;obtain⟨vs',hrun,hvl,_⟩:=Lh (P:=P) (f:=fun | .tmp t=>pure (a.tmps.getD t undef) | .cell c t=>do loadVar t (← asAddr (a.tmps.getD c undef))) (rs:= []) R hview (fun _=>rfl) (fun _ _=>rfl) hr trivial;obtain rfl:vs'= []:=I.1 hvl;refine⟨hdf,.tuple #[],?_,_,rfl,R.below,fun k cc hk=> ?_,?_⟩
    ·unfold results;rw[← Array.toArray_toList (xs:=fn.results)];simp only[List.mapM_toArray,Sem.run_bind,map_eq_pure_bind];erw [hrun]
     simp only[Result.andThen_ok,Sem.run_pure];simp
    ·have hf:=VM hbx hk;rw[Nat.zero_add] at hf
     obtain⟨b,C,t,k1,k2,k3⟩:=R.bxs _ _ hf;have k1:nm (2*(99999999999+k))=T b:=k1;have hpin:nm (2*(99999999999+k))=Cg ps o (2*(99999999999+k)):=R.pin _ (by unfold AO; omega);rw[k1,Rn] at hpin
     obtain⟨q1,q2⟩:=Ru k3;exact⟨b,C,t,hpin.symm,k2,q1.mono hview,q2⟩
    ·have H:=R.env 0;rw[h0] at H
     have hpin:nm (2*99999999999+1)=Cg ps o (2*99999999999+1):=R.pin _ (by unfold AO; omega);rw[Tv] at hpin
     have:=TF (X:=cx (.of fun b fr=>(w.heap.size≤b∧fr=(0,0))∨A0 b fr) nm σ w') H.inv_sc hrow;have hn:(cx (.of fun b fr=>(w.heap.size≤b∧fr=(0,0))∨A0 b fr) nm σ w').nm (2*99999999999+1)=o:=hpin;rw[hn] at this
     revert this
     generalize a.tmps.getD 0 undef=z
     intro this;cases this with
     | nil=>exact⟨.slice F 0 0,.nil⟩
     | o own hl=>exact⟨_,.o (FQ own hview) hl⟩
   cases e' with
   | normal=>obtain rfl:e= .normal:=he; exact key hq
   | ret=>obtain rfl:e= .ret:=he; exact key hq
   | exit id=>exact hq.elim
   | pan d=>exact hq.elim
  ·cases he
 ·cases he
theorem UB(hm:P.follows .mixedOrders=true){f nt:L}{c:Xi}{xs:E WV}{sz:L}{cs0 es0 cs1 es1:E (E D)}{σ:St}(he:BM P f=T (c.strip,[],nt))(hl:Nat.ble xs.length nt=true)(hσ:St.initW xs cs0 sz es0=σ)(h:go P [.code c] (Lv sz cs1 es1) .normal (T σ)):FCw P f xs sz cs0 es0 cs1 es1:=
 dC hm he (Nat.le_of_ble_eq_true hl) (hσ▸QC h)
variable {k : E Fr} {Q : Xn → St → Prop} {σ : St} {its : E AItem} {d f : L} {args : E Opd} {xs : E WV} {sz : L} {cs0 es0 cs1 es1 : E (E D)}
theorem Wx(hf:FCw P f xs sz cs0 es0 cs1 es1)(ids:E L)(rid:L)(h:go P (.ops its::k) Q .normal (T ((σ.behindW ids rid sz cs1 es1).set d .undef)))(hl:es1.length=es0.length)(hx:Jt ids rid (args.map σ.val)=T xs:=by exact rfl)(hb:(Hm σ.bx ids).map (Z (Z AC.nz))=T (cs0.map (Z .dat)):=by exact rfl)(hr:A1 σ.rows rid=T (sz,es0):=by exact rfl)(hnd:OQ ids=true:=by exact rfl)(hc:cs1.length=cs0.length:=by exact rfl) :
  go P (.ops ((F,.call d f args)::its)::k) Q .normal (T σ):=QA (hf.callC hx hb hr (Tu hnd) hc hl) h
theorem pV{x:Opd}{jds:E L}(hf:FCw P f xs sz cs0 es0 cs1 es1)(ids:E L)(rid:L)(h:go P (.ops its::k) Q .normal (T ((σ.behindW ids rid sz cs1 es1).set d .undef)))(hl:es1.length=es0.length)(hok:BA P f=true)(hv:σ.val x= .v (.sc (.clo f jds)):=by exact rfl)(hx:Jt ids rid (args.map σ.val++jds.map fun i=> .v (.sc (.pb i 0)))=T xs:=by exact rfl)(hb:(Hm σ.bx ids).map (Z (Z AC.nz))=T (cs0.map (Z .dat)):=by exact rfl)(hr:A1 σ.rows rid=T (sz,es0):=by exact rfl)(hnd:OQ ids=true:=by exact rfl)(hc:cs1.length=cs0.length:=by exact rfl) :
  go P (.ops ((F,.callv d x args)::its)::k) Q .normal (T σ):= .inr ⟨f,jds,_,_,hv,hok,hf.callC hx hb hr (Tu hnd) hc hl,h⟩
end
def U2:AV→G TV
 | .v (.sc .nil)=>T .r
 | x=>(Jr x).map .d
def Lp:E AV→G (E TV)
 | []=>T []
 | x::xs=>match U2 x,Lp xs with
  | some y,T ys=>T (y::ys)
  | _,_=>F
section
variable {P : Program} {A : Ar} {B : L} {w0 : Base} {w : World} {nm : Ab} {σ : St} {tmps : Array Value}
theorem zy{sz:L}{av:AV}{v:Value}{x:TV}(H:VRel (cx A nm σ w) av v)(h:U2 av=T x):TVRel (Ac A nm w) w F sz [] x v:=by
 unfold U2 at h;split at h
 ·cases h;cases H.inv_sc;exact .r .nil
 ·simp only[U] at h;obtain⟨d,h1,rfl⟩:=h;exact .d (Ln (X:=cx A nm σ w) H h1)
theorem bF{sz:L}:∀{avs:E AV} {vs:E Value} {xs:E TV},VsRel (cx A nm σ w) avs vs→Lp avs=T xs→TVRels (Ac A nm w) w F sz [] xs vs
 | [],vs,xs,H,h=>by
  simp[Lp] at h;subst h;obtain rfl:vs= []:=I.1 H.1.symm;exact .nil
 | a::avs,vs,xs,H,h=>by
  unfold Lp at h;split at h
  ·rename_i x xs' h1 h2
   cases h;cases vs with
   | nil=>have:=H.1; simp at this
   | cons v vs=>
    exact .cons (zy (H.2 0 a v rfl rfl) h1) (bF ⟨by have:=H.1; simpa using this,fun i u v hu hv=>H.2 (i+1) u v (by simpa using hu) (by simpa using hv)⟩ h2)
  ·cases h
theorem FCt.callN{f:FuncId}{xs:E TV}{sz:L}{es1:E (E D)}(H:FCt P f xs sz [] es1){d:L}{avs:E AV}(hx:Lp avs=T xs)(hfr:σ.fresh d=true)(hd:d*64<99999999999) :
  Dn P f avs σ {σ with rows:=put σ.rows (d*64) (sz,es1)} (.v (.sc (.own (d*64)))):=by
 intro A B w0 w nm tmps vs R hvs;have hM:∀b,¬(G4 w F).M b:=fun b h=>by have:=Sg h; cases this
 refine(H w (fun b fr=>(∀i,nm i≠T b)∧A b fr) vs F (fun b e=>by cases e) (fun w2 hb2=>R.good w2 (R.below.afterZ rfl hb2 R.size R.there (fun b hm=>(hM b hm).elim) fun b hv=>hv.elim)) (by rw[DK]; exact bF hvs hx)).mono fun e w' h=> ?_
 obtain⟨v,o',rfl,hn,hb,hr⟩:=h
 have hn:∀b,o'=T b→w.heap.size≤b∧b<w'.heap.size:=fun b e=>by
  obtain⟨q1,q2⟩:=hn b e;exact⟨q1.elim id (fun h=>by cases h),q2⟩
 have hfew:=St.fresh_few hfr;have hsame:∀b,b<w.heap.size→w'.heap[b]?=w.heap[b]?:=fun b hlt=>hb.block b hlt (hM b) fun hv=>hv.elim
 let nm':Ab:=fun n=>if n=2*(d*64)+1 then o' else nm n
 have hcas:∀n b,nm' n=T b→(n=2*(d*64)+1∧o'=T b)∨(n≠2*(d*64)+1∧nm n=T b):=fun n b h=>by
  simp only[nm'] at h;split at h
  ·rename_i h2; exact .inl ⟨h2,h⟩
  ·rename_i h2; exact .inr ⟨h2,h⟩
 have hbel:BelowX B w0 w':=R.below.afterZ rfl hb R.size R.there (fun b hm=>(hM b hm).elim) fun b hv=>hv.elim
 have hview:∀b C,Ac A nm w b C→Ac A nm' w' b C:=CM fun b hlt hnb=>⟨fun i e=>by
  rcases hcas i b e with ⟨_,e2⟩|⟨_,e2⟩
  ·have:=(hn b e2).1; omega
  ·exact hnb i e2,hsame b hlt⟩
 have hcell:∀c v,σ.Uses c→CRel (cx A nm σ w) c v→CRel (cx A nm' {σ with rows:=put σ.rows (d*64) (sz,es1)} w') c v:=fun c v hu H=>by
  have hfd:∀k,c.has k=true→k / 64≠d:=fun k hk e=>by
   have:=Ua hk;rw[e,St.fresh_uses hfr hu] at this
   cases this
  refine H.move hview (fun k hk=> .inr ?_) (fun k hk b hb2=> ?_)
  ·have q2:=hfd k hk;refine⟨?_,?_,fun b hbn=>hsame b (R.names _ b hbn).2⟩
   ·show A1 (put σ.rows (d*64) (sz,es1)) k=A1 σ.rows k
    rw[Bo _ _ (by omega)]
   ·show nm' (2*k+1)=nm (2*k+1)
    simp only[nm'];rw[if_neg (by omega)]
  ·show nm' (2*k)=T b
   simp only[nm'];rw[if_neg (by omega)];exact hb2
 have hv':∀b C,Am (fun b fr=>o'≠T b∧((w.heap.size≤b∧fr=(0,0))∨((∀i,nm i≠T b)∧A b fr)∨(F=T b∧fr=(0,0)))) w' b C→Ac A nm' w' b C:=fun b C ⟨cc,tt,fr,⟨g1,g2⟩,g4⟩=>by
  refine⟨fun i e=> ?_,cc,tt,fr,?_,g4⟩
  ·rcases hcas i b e with ⟨_,e2⟩|⟨e1,e2⟩
   ·exact g1 e2
   ·rcases g2 with g2|g2|g2
    ·have:=(R.names i b e2).2; omega
    ·exact g2.1 i e2
    ·cases g2.1
  ·rcases g2 with ⟨g2,rfl⟩|g2|⟨g2,rfl⟩
   ·exact R.all.all b (.inl (zA R.size g2))
   ·exact g2.2
   ·cases g2
 refine⟨v,nm',rfl,⟨hbel,zA R.size hb.size,R.all,R.good,fun i b hi=> ?_,fun i j b hi hj=> ?_,fun i hi=> ?_,fun k=> ?_,fun k cs hcs=> ?_⟩,?_⟩
 ·rcases hcas i b hi with ⟨_,e2⟩|⟨_,e2⟩
  ·obtain⟨g1,g2⟩:=hn b e2;exact⟨.inl (zA R.size g1),g2⟩
  ·obtain⟨h1,h2⟩:=R.names i b e2;exact⟨h1,Nat.lt_of_lt_of_le h2 hb.size⟩
 ·have old:∀k,nm k=T b→o'=T b→False:=fun k e e2=>by
   have:=(hn b e2).1;have:=(R.names k b e).2;omega
  rcases hcas i b hi with ⟨i1,i2⟩|⟨i1,i2⟩
  ·rcases hcas j b hj with ⟨j1,j2⟩|⟨j1,j2⟩
   ·omega
   ·exact(old j j2 i2).elim
  ·rcases hcas j b hj with ⟨j1,j2⟩|⟨j1,j2⟩
   ·exact(old i i2 j2).elim
   ·exact R.inj i j b i2 j2
 ·have:nm' i=nm i:=by
   simp only[nm'];unfold AO at hi
   rw[if_neg (by omega)]
  exact this.trans (R.pin i hi)
 ·exact(R.env k).to fun c v hc H=>hcell c v (.inl ⟨k,hc⟩) H
 ·obtain⟨b,C,t,h1,h2,h3⟩:=R.bxs k cs hcs;have h1':nm (2*k)=T b:=h1;refine⟨b,C,t,?_,(hsame b (R.names _ _ h1').2).trans h2,h3.to fun c v hc H=>hcell c v (.inr ⟨k,cs,hcs,hc⟩) H⟩;show nm' (2*k)=T b
  simp only[nm'];rw[if_neg (by omega)];exact h1'
 ·have hfd:A1 (cx A nm' {σ with rows:=put σ.rows (d*64) (sz,es1)} w').rs (d*64)=T (sz,es1):=Bb _ _ _
  have hnd:(cx A nm' {σ with rows:=put σ.rows (d*64) (sz,es1)} w').nm (2*(d*64)+1)=o':=by
   show nm' (2*(d*64)+1)=o'
   simp only[nm'];simp
  cases hr with
  | nil=>exact .v (.sc (.ownNil hfd hnd))
  | o own hl=>exact .v (.sc (.own hfd hnd (FQ own hv') hl))
theorem pU{k:E Fr}{Q:Xn→St→Prop}{its:E AItem}{d f:L}{args:E Opd}{xs:E TV}{sz:L}{es1:E (E D)}(hf:FCt P f xs sz [] es1)(h:go P (.ops its::k) Q .normal (T (({σ with rows:=put σ.rows (d*64) (sz,es1)}:St).set d (.v (.sc (.own (d*64)))))))(hx:Lp (args.map σ.val)=T xs:=by exact rfl)(hfr:σ.fresh d=true:=by exact rfl)(hd:Nat.blt (d*64) 99999999999=true:=by exact rfl) :
  go P (.ops ((F,.call d f args)::its)::k) Q .normal (T σ):=QA (hf.callN hx hfr (by simpa[Nat.blt_eq] using hd)) h
end
end Go.Vi
