/-
The value level. No condition.
-/
import Derived.Test.YtmgfndipofbbaaaGreatKVi39
namespace Go.Vi
set_option linter.all false
open Option renaming some → T
open _root_ renaming List → F, Option → E, Nat → G
inductive TV where
 | d (x:DV)
 | r
inductive TVRel (h:B9) (w:World) (o:E G) (sz:G) (es:F (F D)):TV→Value→Prop
 | d {x v}:DVRel h x v→TVRel h w o sz es (.d x) v
 | r {v}:RCRel h w (.o sz es) v o→TVRel h w o sz es .r v
inductive TVRels (h:B9) (w:World) (o:E G) (sz:G) (es:F (F D)):F TV→F Value→Prop
 | nil:TVRels h w o sz es [] []
 | cons {x v xs vs}:TVRel h w o sz es x v→TVRels h w o sz es xs vs→TVRels h w o sz es (x::xs) (v::vs)
theorem TVRels.len{h:B9}{w:World}{o:E G}{sz:G}{es:F (F D)}:∀{xs vs},TVRels h w o sz es xs vs→xs.length=vs.length
 | _,_,.nil=>rfl
 | _,_,.cons _ b=>by simp[b.len]
theorem TVRels.get{h:B9}{w:World}{o:E G}{sz:G}{es:F (F D)}:∀{xs:F TV} {vs:F Value} (i:G) {x:TV} {v:Value},TVRels h w o sz es xs vs→xs[i]?=T x→vs[i]?=T v→TVRel h w o sz es x v
 | _,_,_,_,_,.nil,hd,_=>by simp at hd
 | _,_,0,_,_,.cons a _,hd,hv=>by simp at hd hv; subst hd hv; exact a
 | _,_,i+1,_,_,.cons _ b,hd,hv=>TVRels.get i b (by simpa using hd) (by simpa using hv)
def B38(w:World)(o:E G):Base:=⟨w,fun _=>none,fun b=>o=T b∧b<w.heap.size,fun _ h=>h.2,fun _=>False,fun _ h=>h.elim⟩
theorem D04{w:World}{o:E G}{b:G}(h:(B38 w o).M b):o=T b:=h.elim (fun⟨_,_,e⟩=>by cases e) fun h=>h.1
def FCt(P:Program)(f:FuncId)(xs:F TV)(sz:G)(es0 es1:F (F D)):Prop:=
 ∀(w:World) (A:Reg) (vs:F Value) (o:E G),(∀b,o=T b→b<w.heap.size∧∀fr,¬A b fr)→(∀w2,BelowX w.heap.size (B38 w o) w2→GoodW w2)→TVRels (D5 A w) w o sz es0 xs vs→Calls P f vs.toArray w fun e w'=>
  ∃(v:Value) (o':E G),e= .returned v∧(∀b,o'=T b→(w.heap.size≤b∨o=T b)∧b<w'.heap.size)∧BelowX w.heap.size (B38 w o) w'∧
   RCRel (D5 (fun b fr=>o'≠T b∧((w.heap.size≤b∧fr=(0,0))∨A b fr∨(o=T b∧fr=(0,0)))) w') w' (.o sz es1) v o'
def E06(id:G):AV→E TV
 | .v (.sc (.own k))=>bif k==id then T .r else none
 | x=>(C7q x).map .d
def B70(id:G):F AV→E (F TV)
 | []=>T []
 | x::xs=>match E06 id x,B70 id xs with
  | some y,T ys=>T (y::ys)
  | _,_=>none
section
variable {P : Program} {A : Ar} {B : G} {w0 : Base} {w : World} {nm : C5} {σ : St} {tmps : Array Value}
theorem F06{X:Cx}{id sz:G}{es:F (F D)}{v:Value}(H:CRel X (.own id) v)(hf:A3 X.rs id=T (sz,es)):RCRel X.h X.w (.o sz es) v (X.nm (2*id+1)):=by
 rcases H.inv_own hf with ⟨rfl,k1,a0,rfl⟩|⟨b,cap,k1,k2,rfl⟩
 ·rw[k1]; exact .nil
 ·rw[k1]; exact .o k2 rfl
theorem E0l{id sz:G}{es:F (F D)}(hf:A3 σ.rows id=T (sz,es)){av:AV}{v:Value}{x:TV}(H:VRel (cx A nm σ w) av v)(h:E06 id av=T x):TVRel (B6 A nm w) w (nm (2*id+1)) sz es x v:=by
 unfold E06 at h
 split at h
 ·rename_i k
  by_cases hk:k=id
  ·subst hk
   simp at h
   subst h
   exact .r (F06 (X:=cx A nm σ w) H.inv_sc hf)
  ·have:(k==id)=false:=by simpa using hk
   simp[this] at h
 ·simp only[Option.map_eq_some_iff] at h
  obtain⟨d,h1,rfl⟩:=h
  exact .d (B35 (X:=cx A nm σ w) H h1)
theorem C3b{id sz:G}{es:F (F D)}(hf:A3 σ.rows id=T (sz,es)):∀{avs:F AV} {vs:F Value} {xs:F TV},B7m (cx A nm σ w) avs vs→B70 id avs=T xs→TVRels (B6 A nm w) w (nm (2*id+1)) sz es xs vs
 | [],vs,xs,H,h=>by
  simp[B70] at h
  subst h
  obtain rfl:vs= []:=List.length_eq_zero_iff.1 H.1.symm
  exact .nil
 | a::avs,vs,xs,H,h=>by
  unfold B70 at h
  split at h
  ·rename_i x xs' h1 h2
   cases h
   cases vs with
   | nil=>have:=H.1; simp at this
   | cons v vs=>
    exact .cons (E0l hf (H.2 0 a v rfl rfl) h1) (C3b hf ⟨by have:=H.1; simpa using this,fun i u v hu hv=>H.2 (i+1) u v (by simpa using hu) (by simpa using hv)⟩ h2)
  ·cases h
def St.behindT(σ:St)(id d sz:G)(es1:F (F D)):St:={σ.map (AC.kill id) with rows:=put (erase σ.rows [id]) (d*64) (sz,es1)}
theorem FCt.callC{f:FuncId}{xs:F TV}{sz:G}{es0 es1:F (F D)}(H:FCt P f xs sz es0 es1){id d:G}{avs:F AV}(hx:B70 id avs=T xs)(hf:A3 σ.rows id=T (sz,es0))(hfr:σ.fresh d=true)(hid:id<99999999999)(hne:id≠d*64) :
  B0y P f avs σ (σ.behindT id d sz es1) (.v (.sc (.own (d*64)))):=by
 intro A B w0 w nm tmps vs R hvs
 have hM:∀b,(B38 w (nm (2*id+1))).M b→nm (2*id+1)=T b:=fun b h=>D04 h
 refine(H w (fun b fr=>(∀i,nm i≠T b)∧A b fr) vs (nm (2*id+1)) (fun b e=>⟨(R.names _ _ e).2,fun _ h=>h.1 _ e⟩) (fun w2 hb2=>R.good w2 (R.below.afterZ rfl hb2 R.size R.there (fun b hm=>(R.names _ _ (hM b hm)).1) fun b hv=>hv.elim)) (by rw[A43]; exact C3b hf hvs hx)).mono fun e w' h=> ?_
 obtain⟨v,o',rfl,hn,hb,hr⟩:=h
 have hfew:=St.fresh_few hfr
 have hsame:∀b,b<w.heap.size→nm (2*id+1)≠T b→w'.heap[b]?=w.heap[b]?:=fun b hlt h=>hb.block b hlt (fun hm=>h (hM b hm)) fun hv=>hv.elim
 let nm':C5:=fun n=>if n=2*id+1 then none else if n=2*(d*64)+1 then o' else nm n
 have hcas:∀n b,nm' n=T b→(n=2*(d*64)+1∧o'=T b)∨(n≠2*id+1∧n≠2*(d*64)+1∧nm n=T b):=fun n b h=>by
  simp only[nm'] at h
  split at h
  ·cases h
  ·rename_i h1
   split at h
   ·rename_i h2; exact .inl ⟨h2,h⟩
   ·rename_i h2; exact .inr ⟨h1,h2,h⟩
 have hbel:BelowX B w0 w':=R.below.afterZ rfl hb R.size R.there (fun b hm=>(R.names _ _ (hM b hm)).1) fun b hv=>hv.elim
 have hview:∀b C,B6 A nm w b C→B6 A nm' w' b C:=Y4 fun b hlt hnb=>⟨fun i e=>by
  rcases hcas i b e with ⟨_,e2⟩|⟨_,_,e2⟩
  ·rcases(hn b e2).1 with h|h
   ·omega
   ·exact hnb _ h
  ·exact hnb i e2,hsame b hlt (hnb _)⟩
 have RK:=R.killed id
 have hrow:∀k,k≠id→k / 64≠d→A3 (σ.behindT id d sz es1).rows k=A3 σ.rows k:=fun k h1 h2=>by
  show A3 (put (erase σ.rows [id]) (d*64) (sz,es1)) k=_
  rw[F7 _ _ (by omega),A56]
  have: [id].contains k=false:=by simpa using h1
  rw[this]
  rfl
 have hcell:∀c v,(σ.map (AC.kill id)).Uses c→CRel (cx A nm (σ.map (AC.kill id)) w) c v→CRel (cx A nm' (σ.behindT id d sz es1) w') c v:=fun c v hu H=>by
  obtain⟨c0,hu0,rfl⟩:=C73 hu
  have hfd:∀k,(AC.kill id c0).has k=true→k≠id∧k / 64≠d:=fun k hk=>by
   obtain⟨q1,q2⟩:=C7x hk
   refine⟨q2,fun e=> ?_⟩
   have:=B8u q1
   rw[e,St.fresh_uses hfr hu0] at this
   cases this
  refine H.move hview (fun k hk=> .inr ?_) (fun k hk b hb2=> ?_)
  ·obtain⟨q1,q2⟩:=hfd k hk
   refine⟨hrow k q1 q2,?_,fun b hbn=>hsame b (R.names _ b hbn).2 fun e=> ?_⟩
   ·show nm' (2*k+1)=nm (2*k+1)
    simp only[nm']
    rw[if_neg (by omega),if_neg (by omega)]
   ·have:=R.inj _ _ _ hbn e
    omega
  ·show nm' (2*k)=T b
   simp only[nm']
   rw[if_neg (by omega),if_neg (by omega)]
   exact hb2
 have hv':∀b C,D5 (fun b fr=>o'≠T b∧((w.heap.size≤b∧fr=(0,0))∨((∀i,nm i≠T b)∧A b fr)∨(nm (2*id+1)=T b∧fr=(0,0)))) w' b C→B6 A nm' w' b C:=fun b C ⟨cc,tt,fr,⟨g1,g2⟩,g4⟩=>by
  refine⟨fun i e=> ?_,cc,tt,fr,?_,g4⟩
  ·rcases hcas i b e with ⟨_,e2⟩|⟨e1,_,e2⟩
   ·exact g1 e2
   ·rcases g2 with g2|g2|g2
    ·have:=(R.names i b e2).2; omega
    ·exact g2.1 i e2
    ·exact e1 (R.inj _ _ _ e2 g2.1)
  ·rcases g2 with ⟨g2,rfl⟩|g2|⟨g2,rfl⟩
   ·exact R.all.all b (.inl (Nat.le_trans R.size g2))
   ·exact g2.2
   ·exact R.all.all b (R.mine (by unfold Q6; omega) g2)
 refine⟨v,nm',rfl,⟨hbel,Nat.le_trans R.size hb.size,R.all,R.good,fun i b hi=> ?_,fun i j b hi hj=> ?_,fun i hi=> ?_,fun k=> ?_,fun k cs hcs=> ?_⟩,?_⟩
 ·rcases hcas i b hi with ⟨_,e2⟩|⟨_,_,e2⟩
  ·obtain⟨g1,g2⟩:=hn b e2
   exact⟨g1.elim (fun h=> .inl (Nat.le_trans R.size h)) fun h=>(R.names _ _ h).1,g2⟩
  ·obtain⟨h1,h2⟩:=R.names i b e2
   exact⟨h1,Nat.lt_of_lt_of_le h2 hb.size⟩
 ·have old:∀k,k≠2*id+1→nm k=T b→o'=T b→False:=fun k hk e e2=>by
   rcases(hn b e2).1 with h|h
   ·have:=(R.names k b e).2; omega
   ·exact hk (R.inj _ _ _ e h)
  rcases hcas i b hi with ⟨i1,i2⟩|⟨i1,i3,i2⟩
  ·rcases hcas j b hj with ⟨j1,j2⟩|⟨j1,_,j2⟩
   ·omega
   ·exact(old j j1 j2 i2).elim
  ·rcases hcas j b hj with ⟨j1,j2⟩|⟨j1,_,j2⟩
   ·exact(old i i1 i2 j2).elim
   ·exact R.inj i j b i2 j2
 ·have:nm' i=nm i:=by
   simp only[nm']
   unfold Q6 at hi
   rw[if_neg (by omega),if_neg (by omega)]
  exact this.trans (R.pin i hi)
 ·exact(RK.env k).to fun c v hc H=>hcell c v (.inl ⟨k,hc⟩) H
 ·obtain⟨b,C,t,h1,h2,h3⟩:=RK.bxs k cs hcs
  have h1':nm (2*k)=T b:=h1
  refine⟨b,C,t,?_,(hsame b (R.names _ _ h1').2 fun e=> ?_).trans h2,h3.to fun c v hc H=>hcell c v (.inr ⟨k,cs,hcs,hc⟩) H⟩
  ·show nm' (2*k)=T b
   simp only[nm']
   rw[if_neg (by omega),if_neg (by omega)]
   exact h1'
  ·have:=R.inj _ _ _ h1' e
   omega
 ·have hfd:A3 (cx A nm' (σ.behindT id d sz es1) w').rs (d*64)=T (sz,es1):=D8 _ _ _
  have hnd:(cx A nm' (σ.behindT id d sz es1) w').nm (2*(d*64)+1)=o':=by
   show nm' (2*(d*64)+1)=o'
   simp only[nm']
   rw[if_neg (by omega)]
   simp
  cases hr with
  | nil=>exact .v (.sc (.ownNil hfd hnd))
  | o own hl=>exact .v (.sc (.own hfd hnd (A8g own hv') hl))
end
def TV.av:TV→AV
 | .d x=>x.av
 | .r=> .v (.sc (.own 90000))
def A9b:G→F TV→F (G × AV)
 | _,[]=> []
 | k,x::xs=>(k,x.av)::A9b (k+1) xs
def St.initT(xs:F TV)(sz:G)(es0:F (F D)):St:=⟨A9b 0 xs,[],[(90000,sz,es0)]⟩
theorem C0d:∀(ds:F TV) (k i:G),A3 (A9b k ds) i=if k≤i then(ds[i - k]?).map TV.av else none
 | [],k,i=>by simp[A9b,A3]
 | d::ds,k,i=>by
  simp only[A9b,A3]
  by_cases hk:k=i
  ·subst hk; simp
  ·have h':=A1m hk
   rw[h',cond_false,C0d ds (k+1) i]
   by_cases h1:k≤i
   ·rw[if_pos (by omega),if_pos h1,show i - k=(i - (k+1))+1 by omega]; simp
   ·rw[if_neg (by omega),if_neg h1]
def B0d(o:E G):C5:=fun i=>if i=180001 then o else none
theorem B2x{o:E G}{i b:G}(h:B0d o i=T b):i=180001∧o=T b:=by
 unfold B0d at h
 split at h
 ·exact⟨by assumption,h⟩
 ·cases h
theorem D6e{w:World}{A0:Reg}{o:E G}{xs:F TV}{sz:G}{es0:F (F D)}{vs:F Value}(nt:G)(ho:∀b,o=T b→b<w.heap.size∧∀fr,¬A0 b fr)(hG:∀w2,BelowX w.heap.size (B38 w o) w2→GoodW w2)(h:TVRels (D5 A0 w) w o sz es0 xs vs) :
  Rel (.of fun b fr=>(w.heap.size≤b∧fr=(0,0))∨A0 b fr∨(o=T b∧fr=(0,0))) w.heap.size (B38 w o) (B0d o) (St.initT xs sz es0) (vs.toArray++Array.replicate (nt - vs.toArray.size) undef) w:=by
 have hv:∀b C,D5 A0 w b C→B6 (fun b fr=>(w.heap.size≤b∧fr=(0,0))∨A0 b fr∨(o=T b∧fr=(0,0))) (B0d o) w b C:=fun b C ⟨cc,tt,fr,h0,h1⟩=>⟨fun i e=>by
  obtain⟨_,e2⟩:=B2x e
  exact(ho b e2).2 _ h0,cc,tt,fr,.inr (.inl h0),h1⟩
 refine⟨BelowX.start _ _ (fun _ h=>h.elim),Nat.le_refl _,⟨fun b hb=>hb.elim (fun h=> .inl ⟨h,rfl⟩) fun h=> .inr (.inr ⟨h.1,rfl⟩),fun _ _ h=>h.elim,fun _ _ h=>h.elim,fun _ _ h=>h.elim,fun h=>by cases h⟩,hG,fun i b hi=> ?_,fun i j b hi hj=> ?_,fun i hi=> ?_,fun k=> ?_,fun id cs hcs=> ?_⟩
 ·obtain⟨_,e2⟩:=B2x hi
  have:=(ho b e2).1
  exact⟨.inr (.inr ⟨e2,this⟩),this⟩
 ·rw[(B2x hi).1,(B2x hj).1]
 ·show B0d o i=none
  unfold B0d
  have hi:199999999998≤i:=hi
  rw[if_neg (by omega)]
 ·unfold St.get
  rw[show(St.initT xs sz es0).env=A9b 0 xs from rfl,C0d xs 0 k]
  simp only[Nat.zero_le,if_true,Nat.sub_zero]
  cases hd:xs[k]? with
  | none=>exact .undef
  | some x=>
   have hk:k<vs.length:=by rw[← h.len]; exact(List.getElem?_eq_some_iff.1 hd).1
   have hvk:vs[k]?=T (vs[k]'hk):=List.getElem?_eq_getElem hk
   have e:(vs.toArray++Array.replicate (nt - vs.toArray.size) undef).getD k undef=vs[k]'hk:=by
    rw[Array.getD_eq_getD_getElem?,Array.getElem?_append_left (by simpa using hk)]
    simp[hk]
   rw[e]
   have hr:=TVRels.get k h hd hvk
   revert hr
   generalize vs[k]'hk=z
   intro hr
   have hfd:A3 (cx (.of fun b fr=>(w.heap.size≤b∧fr=(0,0))∨A0 b fr∨(o=T b∧fr=(0,0))) (B0d o) (St.initT xs sz es0) w).rs 90000=T (sz,es0):=by simp[cx,St.initT,A3]
   have hnd:(cx (.of fun b fr=>(w.heap.size≤b∧fr=(0,0))∨A0 b fr∨(o=T b∧fr=(0,0))) (B0d o) (St.initT xs sz es0) w).nm (2*90000+1)=o:=by
    show B0d o (2*90000+1)=o
    simp[B0d]
   cases hr with
   | d hr=>exact DVRel.vrel (X:=cx (.of fun b fr=>(w.heap.size≤b∧fr=(0,0))∨A0 b fr∨(o=T b∧fr=(0,0))) (B0d o) (St.initT xs sz es0) w) (hr.mono hv)
   | r hr=>
    cases hr with
    | nil=>exact .v (.sc (.ownNil hfd hnd))
    | o own hl=>exact .v (.sc (.own hfd hnd (A8g own hv) hl))
 ·cases hcs
def C62(ts:F RV)(sz:G)(es1:F (F D))(e:Xm)(σ:St):Prop:=
 match e with
 | .exit _=>False
 | .pan _=>False
 | _=>OutVs σ ts [.sc (.o sz es1)]
section
variable {P : Program}
theorem E9u(hm:P.follows .mixedOrders=true){f:FuncId}{c:X2}{ts:F RV}{nt:G}{xs:F TV}{sz:G}{es0 es1:F (F D)}(he:A5 P f=T (c.strip,ts,nt))(hl:xs.length≤nt)(h:AWP P c (C62 ts sz es1) (St.initT xs sz es0)):FCt P f xs sz es0 es1:=by
 unfold A5 at he
 split at he
 ·rename_i fn hf
  split at he
  ·rename_i C ts' hb hr
   simp only[Option.map_eq_some_iff] at he
   obtain⟨c',hc,e⟩:=he
   cases e
   intro w A0 vs o ho hG hvs
   refine calls_of_wp hf hb ?_
   have hlv:=hvs.len
   refine wp_mono (A7d (df:= []) hm c C _ (B0d o) (St.initT xs sz es0) _ w hc h (D6e fn.ntmps ho hG hvs) (by simp; omega) rfl) fun e a w' hq=> ?_
   obtain⟨e',nm,σ,he,hq,R,hnt,hdf⟩:=hq
   have key:OutVs σ ts [.sc (.o sz es1)]→a.defers= []∧∃v,(results fn a.tmps).run P w'= .ok v w'∧∃(v':Value) (o':E G),Ending.returned v= .returned v'∧(∀b,o'=T b→(w.heap.size≤b∨o=T b)∧b<w'.heap.size)∧BelowX w.heap.size (B38 w o) w'∧
     RCRel (D5 (fun b fr=>o'≠T b∧((w.heap.size≤b∧fr=(0,0))∨A0 b fr∨(o=T b∧fr=(0,0)))) w') w' (.o sz es1) v' o':=by
    intro hout
    let bs:=(A2q σ ts [.sc (.o sz es1)]).map (bOf nm)
    have hbs:∀b,T b∈bs→∃id,nm (2*id+1)=T b:=by
     intro b hb
     obtain⟨q,_,hb⟩:=List.mem_map.1 hb
     cases q with
     | none=>simp[bOf] at hb
     | some id=>exact⟨id,hb⟩
    have hview:∀b C,B6 (fun b fr=>(w.heap.size≤b∧fr=(0,0))∨A0 b fr∨(o=T b∧fr=(0,0))) nm w' b C→D5 (fun b fr=>T b∉bs∧((w.heap.size≤b∧fr=(0,0))∨A0 b fr∨(o=T b∧fr=(0,0)))) w' b C:=fun b C ⟨g1,cc,tt,fr,g2,g3⟩=>⟨cc,tt,fr,⟨fun hm2=>by
     obtain⟨id,e⟩:=hbs b hm2
     exact g1 _ e,g2⟩,g3⟩
    obtain⟨vs',hrun,hvl,hrel⟩:=A8c (P:=P) (f:=fun | .tmp t=>pure (a.tmps.getD t undef) | .cell c t=>do loadVar t (← asAddr (a.tmps.getD c undef))) R hview (fun _=>rfl) (fun _ _=>rfl) hr hout
    have h1:vs'.length=1:=by rw[hvl,← hout.len]; rfl
    obtain⟨v1,rfl⟩:=List.length_eq_one_iff.1 h1
    have hrc:∃o',bs= [o']∧RCRel (D5 (fun b fr=>T b∉bs∧((w.heap.size≤b∧fr=(0,0))∨A0 b fr∨(o=T b∧fr=(0,0)))) w') w' (.o sz es1) v1 o':=by
     revert hrel
     show R1Rels _ _ _ [v1] bs→_
     generalize hgen:(D5 (fun b fr=>T b∉bs∧((w.heap.size≤b∧fr=(0,0))∨A0 b fr∨(o=T b∧fr=(0,0)))) w')=V
     clear hgen hview hbs
     generalize bs=q
     intro hrel
     cases hrel with | cons x y=>
     cases y
     cases x with | sc x=>exact⟨_,by simp,x⟩
    obtain⟨o',hb1,hrc⟩:=hrc
    rw[hb1] at hrc hbs
    refine⟨hdf,v1,?_,v1,o',rfl,fun b hb=> ?_,R.below,?_⟩
    ·unfold results
     rw[← Array.toArray_toList (xs:=fn.results)]
     simp only[List.mapM_toArray,Sem.run_bind,map_eq_pure_bind]
     erw [hrun]
     simp only[Result.andThen_ok,Sem.run_pure]
     simp
    ·obtain⟨id,e⟩:=hbs b (by simp[hb])
     obtain⟨q1,q2⟩:=R.names _ _ e
     exact⟨q1.imp (fun h=>h) fun h=>D04 h,q2⟩
    ·have hvv:∀b C,D5 (fun b fr=>T b∉ [o']∧((w.heap.size≤b∧fr=(0,0))∨A0 b fr∨(o=T b∧fr=(0,0)))) w' b C→D5 (fun b fr=>o'≠T b∧((w.heap.size≤b∧fr=(0,0))∨A0 b fr∨(o=T b∧fr=(0,0)))) w' b C:=fun b C ⟨cc,tt,fr,⟨g1,g2⟩,g3⟩=>⟨cc,tt,fr,⟨fun e=>g1 (by simp[e]),g2⟩,g3⟩
     cases hrc with
     | nil=>exact .nil
     | o own hl=>exact .o (A8g own hvv) hl
   cases e' with
   | normal=>obtain rfl:e= .normal:=he; exact key hq
   | ret=>obtain rfl:e= .ret:=he; exact key hq
   | exit id=>exact hq.elim
   | pan d=>exact hq.elim
  ·cases he
 ·cases he
theorem E9h(hm:P.follows .mixedOrders=true){f nt:G}{c:X2}{ts:F RV}{xs:F TV}{sz:G}{es0 es1:F (F D)}{σ:St}(he:A5 P f=T (c.strip,ts,nt))(hl:Nat.ble xs.length nt=true)(hσ:St.initT xs sz es0=σ)(h:go P [.code c] (C62 ts sz es1) .normal (T σ)):FCt P f xs sz es0 es1:=
 E9u hm he (Nat.le_of_ble_eq_true hl) (hσ▸A9g h)
theorem D86{k:F Fr}{Q:Xm→St→Prop}{σ:St}{its:F AItem}{d f:G}{args:F Opd}{xs:F TV}{sz:G}{es0 es1:F (F D)}(hf:FCt P f xs sz es0 es1)(id:G)(hx:B70 id (args.map σ.val)=T xs)(hr:A3 σ.rows id=T (sz,es0))(hfr:σ.fresh d=true)(hid:Nat.blt id 99999999999=true)(hne:(id==d*64)=false)
  (h:go P (.ops its::k) Q .normal (T ((σ.behindT id d sz es1).set d (.v (.sc (.own (d*64))))))):go P (.ops ((none,.call d f args)::its)::k) Q .normal (T σ):=
 B1p (hf.callC hx hr hfr (by simpa[Nat.blt_eq] using hid) (by simpa using hne)) h
theorem E1t{k:F Fr}{Q:Xm→St→Prop}{σ:St}{its:F AItem}{α:Type}{row:α→F D}{d sz:G} [Row row sz]{lo:Opd}{xs:F α}{zx:α}{zs:F D}{id:G}{l:Int}{p:G × G}(h2:A3 σ.rows id=T (sz,List.map row xs))(h3:asI (σ.val lo)=T l)
  (hb:bnd (xs.length:Int) (xs.length:Int) l xs.length=T p) (hz:row zx=zs) (H:go P (.ops its::k) Q .normal (T {(σ.set d (.v (.sc (.osub id p.1 p.2)))) with rows:=put σ.rows id (sz,List.map row (xs.take p.1++List.replicate (p.2 - p.1) zx)) })) :
  go P (.ops ((none,.clr (.t d) sz zs)::its)::k) Q .normal (I8 σ d (A8s σ sz (.v (.sc (.own id))) (T lo) none none)):=by
 subst hz
 have hp:p.1≤p.2∧p.2=xs.length:=by
  unfold bnd at hb
  split at hb
  ·cases hb; exact⟨by simp; omega,by simp⟩
  ·cases hb
 have hs:A8s σ sz (.v (.sc (.own id))) (T lo) none none=T (.v (.sc (.osub id p.1 p.2))):=by
  simp only[A8s,h2,Option.isNone_none,and_self,if_true,B76,List.length_map,B1n,h3,B5z,hb,Option.map_some]
 rw[hs,B6g,N9 rfl]
 have e:(σ.set d (.v (.sc (.osub id p.1 p.2)))).step (.clr (.t d) sz (row zx))=T {(σ.set d (.v (.sc (.osub id p.1 p.2)))) with rows:=put σ.rows id (sz,List.map row (xs.take p.1++List.replicate (p.2 - p.1) zx))}:=by
  have h2':A3 (σ.set d (.v (.sc (.osub id p.1 p.2)))).rows id=T (sz,List.map row xs):=h2
  have hv:(σ.set d (.v (.sc (.osub id p.1 p.2)))).val (.t d)= .v (.sc (.osub id p.1 p.2)):=by simp[St.val,St.get_set_same]
  have hl:(row zx).length=sz:=Row.len (row:=row) zx
  simp only[St.step,hv,St.clrV,h2',List.length_map]
  rw[if_pos ⟨trivial,hl,hp.1,hp.2⟩]
  simp only[List.map_append,List.map_take,List.map_replicate]
  rfl
 rw[e]
 exact H
theorem D2l{σ:St}{id d sz:G}{es1:F (F D)}:σ.behindT id d sz es1=⟨(σ.map (AC.kill id)).env,(σ.map (AC.kill id)).bx,put (erase σ.rows [id]) (d*64) (sz,es1)⟩:=rfl
end
end Go.Vi
