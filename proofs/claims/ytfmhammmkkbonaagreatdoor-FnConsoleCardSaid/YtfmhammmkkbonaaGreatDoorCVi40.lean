/-
The value level. No condition.
-/
import Derived.Test.YtfmhammmkkbonaaGreatDoorCVi39
import Derived.KernelRfl
namespace Go.Vi
set_option linter.all false
open Bool renaming true → T
open Option renaming some → F
open _root_ renaming List → E, Option → G, Nat → L
inductive TV where
 | d (x:DV)
 | r
inductive TVRel (h:A3) (w:World) (o:G L) (sz:L) (es:E (E D)):TV→Value→Prop
 | d {x v}:DVRel h x v→TVRel h w o sz es (.d x) v
 | r {v}:RCRel h w (.o sz es) v o→TVRel h w o sz es .r v
inductive TVRels (h:A3) (w:World) (o:G L) (sz:L) (es:E (E D)):E TV→E Value→Prop
 | nil:TVRels h w o sz es [] []
 | cons {x v xs vs}:TVRel h w o sz es x v→TVRels h w o sz es xs vs→TVRels h w o sz es (x::xs) (v::vs)
theorem TVRels.len{h:A3}{w:World}{o:G L}{sz:L}{es:E (E D)}:∀{xs vs},TVRels h w o sz es xs vs→xs.length=vs.length
 | _,_,.nil=>rfl
 | _,_,.cons _ b=>by simp[b.len]
theorem TVRels.get{h:A3}{w:World}{o:G L}{sz:L}{es:E (E D)}:∀{xs:E TV} {vs:E Value} (i:L) {x:TV} {v:Value},TVRels h w o sz es xs vs→xs[i]?=F x→vs[i]?=F v→TVRel h w o sz es x v
 | _,_,_,_,_,.nil,hd,_=>by simp at hd
 | _,_,0,_,_,.cons a _,hd,hv=>by simp at hd hv; subst hd hv; exact a
 | _,_,i+1,_,_,.cons _ b,hd,hv=>TVRels.get i b (by simpa using hd) (by simpa using hv)
def ND(w:World)(o:G L):Base:=⟨w,fun _=>none,fun b=>o=F b∧b<w.heap.size,fun _ h=>h.2,fun _=>False,fun _ h=>h.elim⟩
theorem eK{w:World}{o:G L}{b:L}(h:(ND w o).M b):o=F b:=h.elim (fun⟨_,_,e⟩=>by cases e) fun h=>h.1
def FCt(P:Program)(f:FuncId)(xs:E TV)(sz:L)(es0 es1:E (E D)):Prop:=
 ∀(w:World) (A:B5) (vs:E Value) (o:G L),(∀b,o=F b→b<w.heap.size∧∀fr,¬A b fr)→(∀w2,BelowX w.heap.size (ND w o) w2→GoodW w2)→TVRels (Al A w) w o sz es0 xs vs→Calls P f vs.toArray w fun e w'=>
  ∃(v:Value) (o':G L),e= .returned v∧(∀b,o'=F b→(w.heap.size≤b∨o=F b)∧b<w'.heap.size)∧BelowX w.heap.size (ND w o) w'∧
   RCRel (Al (fun b fr=>o'≠F b∧((w.heap.size≤b∧fr=(0,0))∨A b fr∨(o=F b∧fr=(0,0)))) w') w' (.o sz es1) v o'
def So(id:L):AV→G TV
 | .v (.sc (.own k))=>bif k==id then F .r else none
 | x=>(Ko x).map .d
def N5(id:L):E AV→G (E TV)
 | []=>F []
 | x::xs=>match So id x,N5 id xs with
  | some y,F ys=>F (y::ys)
  | _,_=>none
section
variable {P : Program} {A : Ar} {B : L} {w0 : Base} {w : World} {nm : Ab} {σ : St} {tmps : Array Value}
theorem RY{X:Cx}{id sz:L}{es:E (E D)}{v:Value}(H:CRel X (.own id) v)(hf:A1 X.rs id=F (sz,es)):RCRel X.h X.w (.o sz es) v (X.nm (2*id+1)):=by
 rcases H.inv_own hf with ⟨rfl,k1,a0,rfl⟩|⟨b,cap,k1,k2,rfl⟩
 ·rw[k1]; exact .nil
 ·rw[k1]; exact .o k2 rfl
theorem xE{id sz:L}{es:E (E D)}(hf:A1 σ.rows id=F (sz,es)){av:AV}{v:Value}{x:TV}(H:VRel (cx A nm σ w) av v)(h:So id av=F x):TVRel (Ad A nm w) w (nm (2*id+1)) sz es x v:=by
 unfold So at h;split at h
 ·rename_i k
  by_cases hk:k=id
  ·subst hk;simp at h;subst h;exact .r (RY (X:=cx A nm σ w) H.inv_sc hf)
  ·have:(k==id)=false:=by simpa using hk
   simp[this] at h
 ·simp only[Option.map_eq_some_iff] at h;obtain⟨d,h1,rfl⟩:=h;exact .d (N4 (X:=cx A nm σ w) H h1)
theorem YO{id sz:L}{es:E (E D)}(hf:A1 σ.rows id=F (sz,es)):∀{avs:E AV} {vs:E Value} {xs:E TV},VsRel (cx A nm σ w) avs vs→N5 id avs=F xs→TVRels (Ad A nm w) w (nm (2*id+1)) sz es xs vs
 | [],vs,xs,H,h=>by
  simp[N5] at h;subst h;obtain rfl:vs= []:=List.length_eq_zero_iff.1 H.1.symm;exact .nil
 | a::avs,vs,xs,H,h=>by
  unfold N5 at h;split at h
  ·rename_i x xs' h1 h2
   cases h;cases vs with
   | nil=>have:=H.1; simp at this
   | cons v vs=>
    exact .cons (xE hf (H.2 0 a v rfl rfl) h1) (YO hf ⟨by have:=H.1; simpa using this,fun i u v hu hv=>H.2 (i+1) u v (by simpa using hu) (by simpa using hv)⟩ h2)
  ·cases h
def St.behindT(σ:St)(id d sz:L)(es1:E (E D)):St:={σ.map (AC.kill id) with rows:=put (erase σ.rows [id]) (d*64) (sz,es1)}
theorem FCt.callC{f:FuncId}{xs:E TV}{sz:L}{es0 es1:E (E D)}(H:FCt P f xs sz es0 es1){id d:L}{avs:E AV}(hx:N5 id avs=F xs)(hf:A1 σ.rows id=F (sz,es0))(hfr:σ.fresh d=T)(hid:id<99999999999)(hne:id≠d*64) :
  DX P f avs σ (σ.behindT id d sz es1) (.v (.sc (.own (d*64)))):=by
 intro A B w0 w nm tmps vs R hvs;have hM:∀b,(ND w (nm (2*id+1))).M b→nm (2*id+1)=F b:=fun b h=>eK h
 refine(H w (fun b fr=>(∀i,nm i≠F b)∧A b fr) vs (nm (2*id+1)) (fun b e=>⟨(R.names _ _ e).2,fun _ h=>h.1 _ e⟩) (fun w2 hb2=>R.good w2 (R.below.afterZ rfl hb2 R.size R.there (fun b hm=>(R.names _ _ (hM b hm)).1) fun b hv=>hv.elim)) (by rw[Ek]; exact YO hf hvs hx)).mono fun e w' h=> ?_
 obtain⟨v,o',rfl,hn,hb,hr⟩:=h;have hfew:=St.fresh_few hfr;have hsame:∀b,b<w.heap.size→nm (2*id+1)≠F b→w'.heap[b]?=w.heap[b]?:=fun b hlt h=>hb.block b hlt (fun hm=>h (hM b hm)) fun hv=>hv.elim
 let nm':Ab:=fun n=>if n=2*id+1 then none else if n=2*(d*64)+1 then o' else nm n
 have hcas:∀n b,nm' n=F b→(n=2*(d*64)+1∧o'=F b)∨(n≠2*id+1∧n≠2*(d*64)+1∧nm n=F b):=fun n b h=>by
  simp only[nm'] at h;split at h
  ·cases h
  ·rename_i h1
   split at h
   ·rename_i h2; exact .inl ⟨h2,h⟩
   ·rename_i h2; exact .inr ⟨h1,h2,h⟩
 have hbel:BelowX B w0 w':=R.below.afterZ rfl hb R.size R.there (fun b hm=>(R.names _ _ (hM b hm)).1) fun b hv=>hv.elim
 have hview:∀b C,Ad A nm w b C→Ad A nm' w' b C:=CY fun b hlt hnb=>⟨fun i e=>by
  rcases hcas i b e with ⟨_,e2⟩|⟨_,_,e2⟩
  ·rcases(hn b e2).1 with h|h
   ·omega
   ·exact hnb _ h
  ·exact hnb i e2,hsame b hlt (hnb _)⟩
 have RK:=R.killed id
 have hrow:∀k,k≠id→k / 64≠d→A1 (σ.behindT id d sz es1).rows k=A1 σ.rows k:=fun k h1 h2=>by
  show A1 (put (erase σ.rows [id]) (d*64) (sz,es1)) k=_
  rw[Bt _ _ (by omega),I6];have: [id].contains k=false:=by simpa using h1
  rw[this];rfl
 have hcell:∀c v,(σ.map (AC.kill id)).Uses c→CRel (cx A nm (σ.map (AC.kill id)) w) c v→CRel (cx A nm' (σ.behindT id d sz es1) w') c v:=fun c v hu H=>by
  obtain⟨c0,hu0,rfl⟩:=Z2 hu
  have hfd:∀k,(AC.kill id c0).has k=T→k≠id∧k / 64≠d:=fun k hk=>by
   obtain⟨q1,q2⟩:=UE hk;refine⟨q2,fun e=> ?_⟩;have:=Z3 q1;rw[e,St.fresh_uses hfr hu0] at this
   cases this
  refine H.move hview (fun k hk=> .inr ?_) (fun k hk b hb2=> ?_)
  ·obtain⟨q1,q2⟩:=hfd k hk;refine⟨hrow k q1 q2,?_,fun b hbn=>hsame b (R.names _ b hbn).2 fun e=> ?_⟩
   ·show nm' (2*k+1)=nm (2*k+1)
    simp only[nm'];rw[if_neg (by omega),if_neg (by omega)]
   ·have:=R.inj _ _ _ hbn e;omega
  ·show nm' (2*k)=F b
   simp only[nm'];rw[if_neg (by omega),if_neg (by omega)];exact hb2
 have hv':∀b C,Al (fun b fr=>o'≠F b∧((w.heap.size≤b∧fr=(0,0))∨((∀i,nm i≠F b)∧A b fr)∨(nm (2*id+1)=F b∧fr=(0,0)))) w' b C→Ad A nm' w' b C:=fun b C ⟨cc,tt,fr,⟨g1,g2⟩,g4⟩=>by
  refine⟨fun i e=> ?_,cc,tt,fr,?_,g4⟩
  ·rcases hcas i b e with ⟨_,e2⟩|⟨e1,_,e2⟩
   ·exact g1 e2
   ·rcases g2 with g2|g2|g2
    ·have:=(R.names i b e2).2; omega
    ·exact g2.1 i e2
    ·exact e1 (R.inj _ _ _ e2 g2.1)
  ·rcases g2 with ⟨g2,rfl⟩|g2|⟨g2,rfl⟩
   ·exact R.all.all b (.inl (Nat.le_trans R.size g2))
   ·exact g2.2
   ·exact R.all.all b (R.mine (by unfold AK; omega) g2)
 refine⟨v,nm',rfl,⟨hbel,Nat.le_trans R.size hb.size,R.all,R.good,fun i b hi=> ?_,fun i j b hi hj=> ?_,fun i hi=> ?_,fun k=> ?_,fun k cs hcs=> ?_⟩,?_⟩
 ·rcases hcas i b hi with ⟨_,e2⟩|⟨_,_,e2⟩
  ·obtain⟨g1,g2⟩:=hn b e2;exact⟨g1.elim (fun h=> .inl (Nat.le_trans R.size h)) fun h=>(R.names _ _ h).1,g2⟩
  ·obtain⟨h1,h2⟩:=R.names i b e2;exact⟨h1,Nat.lt_of_lt_of_le h2 hb.size⟩
 ·have old:∀k,k≠2*id+1→nm k=F b→o'=F b→False:=fun k hk e e2=>by
   rcases(hn b e2).1 with h|h
   ·have:=(R.names k b e).2; omega
   ·exact hk (R.inj _ _ _ e h)
  rcases hcas i b hi with ⟨i1,i2⟩|⟨i1,i3,i2⟩
  ·rcases hcas j b hj with ⟨j1,j2⟩|⟨j1,_,j2⟩
   ·omega
   ·exact(old j j1 j2 i2).elim
  ·rcases hcas j b hj with ⟨j1,j2⟩|⟨j1,_,j2⟩
   ·exact(old i i1 i2 j2).elim
   ·exact R.inj i j b i2 j2
 ·have:nm' i=nm i:=by
   simp only[nm'];unfold AK at hi
   rw[if_neg (by omega),if_neg (by omega)]
  exact this.trans (R.pin i hi)
 ·exact(RK.env k).to fun c v hc H=>hcell c v (.inl ⟨k,hc⟩) H
 ·obtain⟨b,C,t,h1,h2,h3⟩:=RK.bxs k cs hcs;have h1':nm (2*k)=F b:=h1;refine⟨b,C,t,?_,(hsame b (R.names _ _ h1').2 fun e=> ?_).trans h2,h3.to fun c v hc H=>hcell c v (.inr ⟨k,cs,hcs,hc⟩) H⟩
  ·show nm' (2*k)=F b
   simp only[nm'];rw[if_neg (by omega),if_neg (by omega)];exact h1'
  ·have:=R.inj _ _ _ h1' e;omega
 ·have hfd:A1 (cx A nm' (σ.behindT id d sz es1) w').rs (d*64)=F (sz,es1):=Bg _ _ _
  have hnd:(cx A nm' (σ.behindT id d sz es1) w').nm (2*(d*64)+1)=o':=by
   show nm' (2*(d*64)+1)=o'
   simp only[nm'];rw[if_neg (by omega)];simp
  cases hr with
  | nil=>exact .v (.sc (.ownNil hfd hnd))
  | o own hl=>exact .v (.sc (.own hfd hnd (Kg own hv') hl))
end
def TV.av:TV→AV
 | .d x=>x.av
 | .r=> .v (.sc (.own 90000))
section
variable {P : Program}
variable {k : E Fr} {Q : Xn → St → Prop} {σ : St} {its : E AItem} {d f : L} {args : E Opd}
theorem Ao{xs:E DV}{rs:E R1}(hf:FC P f xs rs)(h:go P (.ops its::k) Q .normal (F (σ.inst d rs)))(h1:σ.toIVs args=F xs:=by exact rfl)(h3:σ.fresh d=T:=by exact rfl)(h4:Nat.ble (rs.flatMap R1.cells).length 64=T:=by exact rfl) :
  go P (.ops ((none,.call d f args)::its)::k) Q .normal (F σ):=JQ hf h1 h3 (Nat.le_of_ble_eq_true h4) h
theorem AX{N:E L}{ds:E AT}{xs:E DV}{rs:E R1}(hf:FC P f xs rs)(h:go P (.dops ds::k) Q .normal (F (σ.inst d rs)))(h1:(σ.less N).toIVs args=F xs:=by exact rfl)(h3:σ.fresh d=T:=by exact rfl)(h4:Nat.ble (rs.flatMap R1.cells).length 64=T:=by exact rfl) :
  go P (.dops ((F N,none,.call d f args)::ds)::k) Q .normal (F σ):=nj hf h1 h3 (Nat.le_of_ble_eq_true h4) h
theorem AW{xs:E YV}{cs0 cs1:E D}{rs:E R1}(hf:FCy P f xs cs0 cs1 rs)(id:L)(h:go P (.ops its::k) Q .normal (F (({σ with bx:=put σ.bx id (cs1.map .dat)}:St).set d (By 0 rs))))(hv:F3 rs=T:=by exact rfl)(hx:CH id (args.map σ.val)=F xs:=by exact rfl)(hb:A1 σ.bx id=F (cs0.map .dat):=by exact rfl) :
  go P (.ops ((none,.call d f args)::its)::k) Q .normal (F σ):=nf hf id hv hx hb h
theorem BZ{X:Opd}{y:V1}(H:go P (.ops its::k) Q .normal (F {(σ.set d (.v (.sc (.pb d 0)))) with bx:=put σ.bx d y.cells }))(hX:σ.val X= .v y:=by exact rfl)(hf:σ.fresh d=T:=by exact rfl)(hu:y.cells.all (fun c=> !c.uses d)=T:=by exact rfl) :
  go P (.ops ((none,.box d X)::its)::k) Q .normal (F σ):=nZ hX hf hu H
theorem B0{cs:E AC}(H:go P (.ops its::k) Q .normal (F {(σ.set d (.v (.sc (.pb d 0)))) with bx:=put σ.bx d cs }))(hf:σ.fresh d=T:=by exact rfl)(hu:cs.all (fun c=> !c.uses d)=T:=by exact rfl) :
  go P (.ops ((none,.alloc d cs)::its)::k) Q .normal (F σ):=nN hf hu H
theorem AS{sz:L}{zs:E D}{len:L}{ps:E (L × Opd)}{es:E (E D)}(H:go P (.ops its::k) Q .normal (F {(σ.set d (.v (.sc (.own (d*64))))) with rows:=put σ.rows (d*64) (sz,es) }))(hm:σ.made (.bslice d sz zs len ps)=F (.row d sz es):=by exact rfl)(hf:σ.fresh d=T:=by exact rfl) :
  go P (.ops ((none,.bslice d sz zs len ps)::its)::k) Q .normal (F σ):=DL hm hf H
theorem Ai{b:Bool}(h:go P k Q .normal (F σ))(hb:b=T:=by exact rfl):go P (.fr b::k) Q .normal (F σ):=oA hb h
theorem Ae{id sz:L}{es:E (E D)}(H:go P (.ops its::k) Q .normal (F {(σ.map (AC.frz id es)) with rows:=erase σ.rows [id] }))(hf:A1 σ.rows id=F (sz,es):=by exact rfl)(h0:(id / 99999999999==0)=T:=by exact rfl) :
  go P (.ops ((none,.frz id)::its)::k) Q .normal (F σ):=oC hf H h0
end
theorem t0{α β:Sort _}{a:α}{b:β}:(a=a∧True)∧b=b:=⟨⟨rfl,⟨⟩⟩,rfl⟩
theorem ZV{P:Program}(hm:P.follows .mixedOrders=T)(c:Xg)(ts:E RV)(nt:L){f:FuncId}{ds:E DV}{rs:E R1}(h:go P [.code c] (A6 ts rs) .normal (F (St.init ds)))(he:AG P f=F (c.strip,ts,nt):=by kernel_rfl)(hl:Nat.ble ds.length nt=T:=by exact rfl):FC P f ds rs:=SO hm he hl h
abbrev Kp(P:Program)(A B C:E L)(τ:St)(k:E Fr)(Q:Xn→St→Prop):Prop:=∀{σ:St},σ.kept A B C=τ→go P k Q .normal (F σ)
abbrev aM{α:Type}(r:α→E D)(l:E α):AC:=aL (List.map r l)
abbrev pB(n:L):L × AV:=(n,vc (.pb n 0))
abbrev pI(n:L)(x:Int):L × AV:=(n,vc (aI x))
abbrev pL{α:Type}(n:L)(r:α→E D)(l:E α):L × AV:=(n,vc (aL (List.map r l)))
abbrev pW(n m:L):L × AV:=(n,vc (.own m))
end Go.Vi
