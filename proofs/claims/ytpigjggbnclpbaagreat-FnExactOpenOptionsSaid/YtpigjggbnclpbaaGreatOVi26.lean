/-
The value level. No condition.
-/
import Derived.Test.YtpigjggbnclpbaaGreatOVi25
namespace Go.Vi
set_option linter.all false
open Bool renaming and_eq_true → W, true → T, false → F
open Option renaming some → E, none → G
open _root_ renaming List → L, Option → O, Bool → U, Nat → V
inductive Fr where
 | code (c:Xd)
 | ops (its:L AItem)
 | dops (its:L AO)
 | blk (id:V)
 | pick (v:AV) (x y:Xd)
 | gd (v:AV) (want:U) (o:AOp) (its:L AItem)
 | gdd (v:AV) (want:U) (N:O (L V)) (o:AOp) (its:L AO)
 | fr (b:U)
 | frs (its:L AO)
 | panF (x:Opd)
 | calF (d:V) (f:FuncId) (args:L Opd)
def BN{α:Type}(o:O α)(f:α→Prop):Prop:=
 match o with
 | some a=>f a
 | none=>False
def Bs(v:AV)(X Y Z:Prop):Prop:=
 match v with
 | .v (.sc (.dat (.bool b)))=>if b=T then X else Y
 | .no=>Z
 | _=>False
def Aq(σ:St)(d:V):O AV→O St
 | some v=>E (σ.set d v)
 | none=>G
def Ce(σ:St):O V→O St
 | some d=>E (σ.set d .no)
 | none=>G
def mk1(σ:St):O Mk→O St
 | some m=>σ.make m
 | none=>G
def AD(P:Program):L Fr→(Xg→St→Prop)→Xg→St→Prop
 | [],Q,e,σ=>Q e σ
 | .code c::k,Q,.normal,σ=>AT P c (AD P k Q) σ
 | .ops its::k,Q,.normal,σ=>B8 P its (AD P k Q .normal) σ
 | .dops its::k,Q,.normal,σ=>BR P its (AD P k Q .normal) σ
 | .pick v x y::k,Q,.normal,σ=>Bs v (AT P x (AD P k Q) σ) (AT P y (AD P k Q) σ) False
 | .gd v want o its::k,Q,.normal,σ=>Bs v (bif want then AN P o (B8 P its (AD P k Q .normal)) σ else BN o.dst fun d=>B8 P its (AD P k Q .normal) (σ.set d .no))
   (bif want then BN o.dst fun d=>B8 P its (AD P k Q .normal) (σ.set d .no) else AN P o (B8 P its (AD P k Q .normal)) σ)
   (BN o.dst fun d=>B8 P its (AD P k Q .normal) (σ.set d .no))
 | .gdd v want N o its::k,Q,.normal,σ=>Bs v (bif want then BR P ((N,G,o)::its) (AD P k Q .normal) σ else BN o.dst fun d=>BR P its (AD P k Q .normal) (σ.set d .no))
   (bif want then BN o.dst fun d=>BR P its (AD P k Q .normal) (σ.set d .no) else BR P ((N,G,o)::its) (AD P k Q .normal) σ)
   (BN o.dst fun d=>BR P its (AD P k Q .normal) (σ.set d .no))
 | .fr b::k,Q,.normal,σ=>b=T∧AD P k Q .normal σ
 | .frs its::k,Q,.normal,σ=>Cj its σ=T∧BR P its (AD P k Q .normal) σ
 | .panF x::k,Q,.normal,σ=>∃d,σ.val x= .v (.sc (.dat d))∧d.flat=T∧Pe d=T∧AD P k Q (.pan d) σ
 | .calF d f args::k,Q,.normal,σ=>AN P (.call d f args) (AD P k Q .normal) σ∨∃ds pd,σ.toDVs args=E ds∧J5 P f ds pd∧AD P k Q (.pan pd) σ
 | .blk id::k,Q,.exit i,σ=>if i=id then AD P k Q .normal σ else AD P k Q (.exit i) σ
 | _::k,Q,e,σ=>AD P k Q e σ
def go(P:Program)(k:L Fr)(Q:Xg→St→Prop)(e:Xg):O St→Prop
 | some σ=>AD P k Q e σ
 | none=>False
def AOp.isPure:AOp→U
 | .mv .. | .pick .. | .build .. | .load .. | .nilc .. | .bin .. | .beq .. | .geq .. | .un .. | .conv .. | .slc .. | .sslc .. | .faddr .. | .field .. | .iaddr .. | .aaddr .. | .idx .. | .extr .. | .len .. | .slen .. | .sconv .. | .mm .. | .mkf .. | .zsl _ | .mkif .. | .tass .. =>T
 | _=>F
def AOp.isMade:AOp→U
 | .box .. | .alloc .. | .bslice .. | .mksl .. | .zap .. =>T
 | _=>F
def AOp.isCall:AOp→U
 | .call .. | .callv .. =>T
 | .mv .. | .pick .. | .box .. | .alloc .. | .build .. | .bslice .. | .load .. | .store .. | .clr .. | .nilc .. | .bin .. | .beq .. | .geq .. | .un .. | .conv .. | .mksl .. | .slc .. | .sslc .. | .faddr .. | .field .. | .iaddr .. | .aaddr .. | .idx .. | .extr .. | .len .. | .slen .. | .sconv .. | .app .. | .mm .. | .mkf .. | .zsl _ | .zap .. | .mkif .. | .tass .. =>F
 | .drop _ | .own .. | .ownb .. | .ren .. | .frz _ | .frzb _ | .forget _ | .keep .. | .cut _=>F
section
variable {P : Program} {k : L Fr} {Q : Xg → St → Prop} {σ : St} {its : L AItem} {ds : L AO} {o : AOp} {N : L V}
theorem H2{c:Xd}(h:go P [.code c] Q .normal (E σ)):AT P c Q σ:=R6 c (fun _ _ h=>h) h
theorem gF{e}:go P k Q e G=False:=rfl
theorem gD{e}:go P [] Q e (E σ)=Q e σ:=rfl
theorem gV:go P (.code .skip::k) Q .normal (E σ)=go P k Q .normal (E σ):=rfl
theorem gP:go P (.code (.reg its)::k) Q .normal (E σ)=go P (.ops its::k) Q .normal (E σ):=rfl
theorem fU:go P (.code (.drw ds)::k) Q .normal (E σ)=go P (.fr (Cj ds σ):: .dops ds::k) Q .normal (E σ):=rfl
theorem fZ:go P (.fr T::k) Q .normal (E σ)=go P k Q .normal (E σ):=by simp[go,AD]
theorem gU{x y:Xd}:go P (.code (.seq x y)::k) Q .normal (E σ)=go P (.code x:: .code y::k) Q .normal (E σ):=by
 simp only[go,AD,AT];congr 1
 funext e σ'
 cases e<;>simp only[AD]
theorem fE{id:V}{c:Xd}:go P (.code (.block id c)::k) Q .normal (E σ)=go P (.code c:: .blk id::k) Q .normal (E σ):=by
 simp only[go,AD,AT];congr 1
 funext e σ'
 cases e<;>simp only[AD]
theorem fV{id:V}:go P (.code (.exit id)::k) Q .normal (E σ)=go P k Q (.exit id) (E σ):=rfl
theorem gS:go P (.code .ret::k) Q .normal (E σ)=go P k Q .ret (E σ):=rfl
theorem fO{c:Opd}{x y:Xd}:go P (.code (.cond c x y)::k) Q .normal (E σ)=go P (.pick (σ.val c) x y::k) Q .normal (E σ):=by
 show(match σ.val c with | .v (.sc (.dat (.bool b)))=>if b=T then AT P x (AD P k Q) σ else AT P y (AD P k Q) σ | _=>False)=Bs (σ.val c) _ _ _
 unfold Bs;generalize σ.val c=v
 cases v with
 | v x=>cases x with
  | sc c=>cases c with
   | dat d=>cases d<;>rfl
   | _=>rfl
  | ag=>rfl
 | _=>rfl
theorem gO{x y:Xd}:go P (.pick (.v (.sc (.dat (.bool T)))) x y::k) Q .normal (E σ)=go P (.code x::k) Q .normal (E σ):=by simp[go,AD,Bs]
theorem gN{x y:Xd}:go P (.pick (.v (.sc (.dat (.bool F)))) x y::k) Q .normal (E σ)=go P (.code y::k) Q .normal (E σ):=by simp[go,AD,Bs]
theorem gJ{x:Opd}:go P (.code (.pan its x)::k) Q .normal (E σ)=go P (.ops its:: .panF x::k) Q .normal (E σ):=rfl
theorem fH{d f args}:go P (.code (.cal its d f args)::k) Q .normal (E σ)=go P (.ops its:: .calF d f args::k) Q .normal (E σ):=rfl
theorem fI{d f args}(H:go P (.ops [(G,.call d f args)]::k) Q .normal (E σ)):go P (.calF d f args::k) Q .normal (E σ):= .inl H
theorem gL{c:Xd}{d:D}:go P (.code c::k) Q (.pan d) (E σ)=go P k Q (.pan d) (E σ):=rfl
theorem fC{id:V}{d:D}:go P (.blk id::k) Q (.pan d) (E σ)=go P k Q (.pan d) (E σ):=rfl
theorem L6{its:L (L V × AItem)}{τ σ2:St}{ks bs rs:L V}(h0:(σ.kept ks bs rs).pad (its.filterMap fun i=>i.2.2.dst)=σ2)(h1:An P its τ its.length (its.map fun _=>F) σ2)(h2:go P k Q .normal (E τ)):go P (.code (.any its)::k) Q .normal (E σ):=
 ⟨ks,bs,rs,τ,h0▸h1,h2⟩
def PR(P:Program)(its:L (L V × AItem))(τ:St)(f:V)(ms:L U)(σ:St):L (L V × AItem)→V→Prop
 | [],_=>True
 | it::r,i=>(ms[i]?=E F→(∀j∈it.1,ms[j]?=E T)→∃pre post:L AItem,pre.all (fun i=>i.2.idle)=T∧post.all (fun i=>i.2.idle)=T∧go P [.ops (pre++it.2::post)] (fun _=>An P its τ f (ms.set i T)) .normal (E σ))∧PR P its τ f ms σ r (i+1)
theorem UH{its:L (L V × AItem)}{τ:St}{f:V}{ms:L U}:∀{r:L (L V × AItem)} {n:V},PR P its τ f ms σ r n→∀(i:V) (it:L V × AItem),r[i]?=E it→ms[n+i]?=E F→(∀j∈it.1,ms[j]?=E T)→∃pre post:L AItem,pre.all (fun i=>i.2.idle)=T∧post.all (fun i=>i.2.idle)=T∧go P [.ops (pre++it.2::post)] (fun _=>An P its τ f (ms.set (n+i) T)) .normal (E σ)
 | [],_,_,i,it,hi,_,_=>by simp at hi
 | x::r,n,h,0,it,hi,h1,h2=>by
  simp at hi
  subst hi;exact h.1 h1 h2
 | x::r,n,h,i+1,it,hi,h1,h2=>by
  have:=UH h.2 i it (by simpa using hi) (by rw[show n+1+i=n+(i+1) by omega]; exact h1) h2;rw[show n+1+i=n+(i+1) by omega] at this
  exact this
theorem QX{it:AItem}{post:L AItem}{K:St→Prop}:∀(pre:L AItem) (σ:St),pre.all (fun i=>i.2.idle)=T→B8 P (pre++it::post) K σ→B8 P pre (fun σ=>AA it.1 σ (AN P it.2 (B8 P post K) σ) (match it.2.dst with | some d=>B8 P post K (σ.set d .no) | none=>False)) σ
 | [],_,_,h=>h
 | (g,o)::pre,σ,hp,h=>by
  have hi:o.idle=T:=by simp only[List.all_cons,W] at hp; exact hp.1
  have hp':pre.all (fun i=>i.2.idle)=T:=by simp only[List.all_cons,W] at hp; exact hp.2
  have h':AA g σ (AN P o (B8 P (pre++it::post) K) σ) (match o.dst with | some d=>B8 P (pre++it::post) K (σ.set d .no) | none=>False):=h;show AA g σ (AN P o (B8 P pre _) σ) _
  have hno:o.dst=G:=by cases o<;>first | rfl | (simp[AOp.idle] at hi; done)
  simp only[hno] at h' ⊢
  have key:∀X Y:St→Prop,(∀σ,X σ→Y σ)→AN P o X σ→AN P o Y σ:=fun X Y hXY hx=>by
   cases o<;>first
    | (simp[AOp.idle] at hi; done)
    | (simp only[AN] at hx ⊢; split at hx<;>simp_all)
  have mono:∀{X Y:Prop},(X→Y)→AA g σ X False→AA g σ Y False:=fun hXY hx=>by
   unfold AA at hx ⊢
   cases g with
   | none=>exact hXY hx
   | some g=>
    simp only at hx ⊢
    split
    ·rename_i b hb
     rw[hb] at hx
     simp only at hx
     split at hx
     ·rename_i e
      rw[if_pos e];exact hXY hx
     ·exact hx.elim
    ·rename_i hb
     rw[hb] at hx
     exact hx
    ·rename_i h1 h2
     split at hx
     ·rename_i b hb
      exact h1 b hb
     ·rename_i hb
      exact h2 hb
     ·exact hx
  exact mono (key _ _ fun σ h=>QX pre σ hp' h) h'
theorem Aw{its:L (L V × AItem)}{τ:St}{f:V}{ms:L U}(h:PR P its τ f ms σ its 0):An P its τ (f+1) ms σ:=by
 intro i it hi h1 h2;obtain⟨pre,post,hp,hq,this⟩:=UH h i it hi (by simpa using h1) h2;rw[Nat.zero_add] at this
 exact⟨pre,post,hp,hq,QX pre _ hp this⟩
theorem np{it:AItem}{Q:Xg→St→Prop}(h:go P [.ops [it]] Q .normal (E σ)):∃pre post:L AItem,pre.all (fun i=>i.2.idle)=T∧post.all (fun i=>i.2.idle)=T∧go P [.ops (pre++it::post)] Q .normal (E σ):=⟨[],[],rfl,rfl,h⟩
theorem A8{α:Type}{a b:α}:(bif T then a else b)=a:=rfl
theorem Aa{α:Type}{a b:α}:(bif F then a else b)=b:=rfl
theorem hq{ms:L U}{N:L V}{a:U}(hw:∀j∈N,ms[j]?=E T)(j:V)(h:N.elem j=T)(e:ms[j]?=E a):a=T:=by
 have:=hw j (List.elem_iff.1 h);rw[e] at this
 exact Option.some.inj this
theorem hz{ms:L U}{i:V}{a:U}(h:ms[i]?=E F)(e:ms[i]?=E a):a=F:=Option.some.inj (e.symm.trans h)
theorem gK{c:Xd}{i:V}:go P (.code c::k) Q (.exit i) (E σ)=go P k Q (.exit i) (E σ):=rfl
theorem gM{c:Xd}:go P (.code c::k) Q .ret (E σ)=go P k Q .ret (E σ):=rfl
theorem fA{id:V}:go P (.blk id::k) Q .normal (E σ)=go P k Q .normal (E σ):=rfl
theorem fD{id:V}:go P (.blk id::k) Q .ret (E σ)=go P k Q .ret (E σ):=rfl
theorem fB{id i:V}:go P (.blk id::k) Q (.exit i) (E σ)=go P k Q (bif i==id then .normal else .exit i) (E σ):=by
 by_cases h:i=id
 ·simp[go,AD,h]
 ·have h':(i==id)=F:=by simpa using h
  simp[go,AD,h,h']
theorem gH:go P (.ops []::k) Q .normal (E σ)=go P k Q .normal (E σ):=rfl
theorem fT:go P (.dops []::k) Q .normal (E σ)=go P k Q .normal (E σ):=rfl
theorem QW{K:St→Prop}(h1:∀d f args,o≠ .call d f args)(h2:∀d x args,o≠ .callv d x args):AN P o K σ=BN (σ.step o) K:=by
 cases o<;>first
  | rfl
  | (show(match St.step σ _ with | some σ'=>K σ' | none=>False)=BN (St.step σ _) K; generalize St.step σ _=x; cases x<;>rfl)
  | exact absurd rfl (h1 _ _ _)
  | exact absurd rfl (h2 _ _ _)
theorem V0(h:o.isPure=T):σ.step o=(σ.pure o).map fun p=>σ.set p.1 p.2:=by
 cases o<;>first
  | (simp[AOp.isPure] at h; done)
  | skip
 all_goals
  simp only[St.step,St.made];generalize σ.pure _=x
  cases x<;>rfl
theorem oX(h:o.isMade=T):σ.step o=(σ.made o).bind σ.make:=by
 cases o<;>first
  | (simp[AOp.isMade] at h; done)
  | skip
 all_goals
  simp only[St.step,St.pure];generalize σ.made _=x
  cases x<;>rfl
theorem AX(h:o.isCall=F):go P (.ops ((G,o)::its)::k) Q .normal (E σ)=go P (.ops its::k) Q .normal (σ.step o):=by
 show AN P o (B8 P its (AD P k Q .normal)) σ=_
 rw[QW (by rintro _ _ _ rfl; simp[AOp.isCall] at h) (by rintro _ _ _ rfl; simp[AOp.isCall] at h)];cases σ.step o<;>rfl
def NB:L V→U
 | []=>T
 | x::r=> !r.contains x&&NB r
theorem TY:∀{l:L V},NB l=T→l.Nodup
 | [],_=>List.nodup_nil
 | x::r,h=>by
  simp only[NB,W,Bool.not_eq_true',List.contains_eq_mem,decide_eq_false_iff_not] at h;exact List.nodup_cons.2 ⟨h.1,TY h.2⟩
theorem Bm{d f args}{xs:L DV}{rs:L R1}(hf:FC P f xs rs)(h1:σ.toDVs args=E xs)(h2:C7 rs)(h3:σ.fresh d=T)(h4:(rs.flatMap R1.cells).length≤64)(h5:go P (.ops its::k) Q .normal (E (σ.inst d rs))) :
  go P (.ops ((G,.call d f args)::its)::k) Q .normal (E σ):= .inl ⟨xs,rs,.inl ⟨h1,.inl h2⟩,hf,h3,h4,h5⟩
theorem N0{d f args}{xs:L DV}{rs:L R1}(hf:FC P f xs rs)(h1:σ.toIVs args=E xs)(h3:σ.fresh d=T)(h4:(rs.flatMap R1.cells).length≤64)(h5:go P (.ops its::k) Q .normal (E (σ.inst d rs))) :
  go P (.ops ((G,.call d f args)::its)::k) Q .normal (E σ):= .inl ⟨xs,rs,.inr h1,hf,h3,h4,h5⟩
theorem CN{d f args}{ids:L V}{xs:L XV}{R0 R1:Ai}{r:D}(hf:FCx P f xs R0 R1 r)(h0:NB ids=T)(h1:σ.toXVs ids args=E xs)(h2:BZ σ.rows ids=E R0)(h3:CM R0)(h4:CX R0 R1=T)(h5:go P (.ops its::k) Q .normal (E (σ.instX d ids R1 r))) :
  go P (.ops ((G,.call d f args)::its)::k) Q .normal (E σ):= .inr (.inl ⟨ids,xs,R0,R1,r,⟨TY h0,h1,h2,h3,h4⟩,hf,h5⟩)
theorem It{d f args}{σ':St}{r:AV}(hf:CallC P f (args.map σ.val) σ σ' r)(h5:go P (.ops its::k) Q .normal (E (σ'.set d r))):go P (.ops ((G,.call d f args)::its)::k) Q .normal (E σ):= .inr (.inr ⟨_,hf.s,fun _ _ ⟨e1,e2⟩=>by subst e1 e2; exact h5⟩)
theorem L7{d x args f caps}{xs:L DV}{rs:L R1}(hf:FC P f (xs++caps.map .sc) rs)(h0:Bi P f=T)(hx:σ.toDV (σ.val x)=E (.sc (.clo f caps)))(h1:σ.toDVs args=E xs)(h2:C7 rs)(h3:σ.fresh d=T)(h4:(rs.flatMap R1.cells).length≤64)
  (h5:go P (.ops its::k) Q .normal (E (σ.inst d rs))):go P (.ops ((G,.callv d x args)::its)::k) Q .normal (E σ):= .inl ⟨f,caps,xs,rs,.inl ⟨hx,h1,h2⟩,h0,hf,h3,h4,h5⟩
theorem Br(h:o.isPure=T):σ.step o=(σ.pure o).bind fun p=>Aq σ p.1 (E p.2):=by
 rw[V0 h];cases σ.pure o<;>rfl
theorem tag{d:V}{x:O AV}:((x.map (Prod.mk d)).bind fun p=>Aq σ p.1 (E p.2))=Aq σ d x:=by cases x<;>rfl
theorem UX{d x}:σ.step (.mv d x)=E (σ.set d (σ.val x)):=rfl
theorem UZ{d c a b}:σ.step (.pick d c a b)=Aq σ d (IQ (σ.val c) (σ.val a) (σ.val b)):=(Br rfl).trans tag
theorem UK{d zs ps}:σ.step (.build d zs ps)=Aq σ d ((Co zs (ps.map fun p=>(p.1,p.2.1,σ.val p.2.2))).map fun cs=> .v (.ag cs)):=by
 rw[Br rfl];simp only[St.pure];cases Co zs (ps.map fun p=>(p.1,p.2.1,σ.val p.2.2))<;>rfl
theorem UT{d x g n}:σ.step (.load d x g n)=Aq σ d (Ca σ g n (σ.val x)):=(Br rfl).trans tag
theorem UY{d x}:σ.step (.nilc d x)=Aq σ d (Eo (σ.val x)):=(Br rfl).trans tag
theorem UJ{d op x y}:σ.step (.bin d op x y)=Aq σ d (Dj op (σ.val x) (σ.val y)):=(Br rfl).trans tag
theorem UP{d g ks x y}:σ.step (.geq d g ks x y)=Aq σ d (Ir g ks (σ.val x) (σ.val y)):=(Br rfl).trans tag
theorem UI{d g x y}:σ.step (.beq d g x y)=Aq σ d (HB g (σ.val x) (σ.val y)):=(Br rfl).trans tag
theorem V7{d op x}:σ.step (.un d op x)=Aq σ d (Ho op (σ.val x)):=(Br rfl).trans tag
def Oz(k:IntKind):AV→O AV
 | .v (.sc (.dat (.int _ n)))=>E (.v (.sc (.dat (.int k (k.wrap n)))))
 | _=>G
theorem UL{d kd x}:σ.step (.conv d kd x)=Aq σ d (Oz kd (σ.val x)):=by
 rw[Br rfl];simp only[St.pure];generalize σ.val x=v
 cases v with
 | v x=>cases x with
  | sc c=>cases c with
   | dat d=>cases d<;>rfl
   | _=>rfl
  | ag=>rfl
 | _=>rfl
theorem V3{d sz x lo hi mx}:σ.step (.slc d sz x lo hi mx)=Aq σ d (Cs σ sz (σ.val x) lo hi mx):=(Br rfl).trans tag
theorem V5{d x lo hi}:σ.step (.sslc d x lo hi)=Aq σ d (FB σ (σ.val x) lo hi):=(Br rfl).trans tag
theorem UN{d x off}:σ.step (.faddr d x off)=Aq σ d (BX σ.rows off (σ.val x)):=(Br rfl).trans tag
theorem UO{d x off g n}:σ.step (.field d x off g n)=Aq σ d (Fg off g n (σ.val x)):=(Br rfl).trans tag
theorem UQ{d x i sz}:σ.step (.iaddr d x i sz)=Aq σ d (Cq σ.rows sz (σ.val x) (σ.val i)):=(Br rfl).trans tag
theorem UR{d x i}:σ.step (.idx d x i)=Aq σ d (Iv (σ.val x) (σ.val i)):=(Br rfl).trans tag
theorem UV{d t x}:σ.step (.mkif d t x)=Aq σ d (Ft t (σ.val x)):=(Br rfl).trans tag
theorem V6{d x t zc}:σ.step (.tass d x t zc)=Aq σ d (IU t zc (σ.val x)):=(Br rfl).trans tag
theorem UM{d x i}:σ.step (.extr d x i)=Aq σ d (HO i (σ.val x)):=(Br rfl).trans tag
theorem US{d x}:σ.step (.len d x)=Aq σ d (Db σ.rows (σ.val x)):=(Br rfl).trans tag
theorem V2{d x}:σ.step (.sconv d x)=Aq σ d (FA σ.rows (σ.val x)):=(Br rfl).trans tag
theorem V4{d x}:σ.step (.slen d x)=Aq σ d (IS (σ.val x)):=(Br rfl).trans tag
theorem UW{d m x y}:σ.step (.mm d m x y)=Aq σ d (H8 m (σ.val x) (σ.val y)):=(Br rfl).trans tag
theorem UU{d f caps}:σ.step (.mkf d f caps)=Aq σ d ((El f (caps.map σ.val)).map fun c=> .v (.sc c)):=by
 rw[Br rfl];simp only[St.pure];cases El f (caps.map σ.val)<;>rfl
theorem oY(h:o.isMade=T):σ.step o=mk1 σ (σ.made o):=by
 rw[oX h];cases σ.made o<;>rfl
theorem oc{x y n}:σ.step (.store x y n)=σ.storeV n (σ.val x) (σ.val y):=rfl
theorem oV{d sz b x y}:σ.step (.app d sz b x y)=σ.appV d sz b (σ.val x) (σ.val y):=rfl
theorem PK{d v}:Aq σ d (E v)=E (σ.set d v):=rfl
theorem QQ{t:V}{yes no:Prop}:AA (E (t,T)) σ yes no=Bs (σ.get t) yes no no:=by
 simp only[AA,Bs];generalize σ.get t=v
 cases v with
 | v x=>cases x with
  | sc c=>cases c with
   | dat d=>cases d<;>rfl
   | _=>rfl
  | ag=>rfl
 | _=>rfl
theorem QP{t:V}{yes no:Prop}:AA (E (t,F)) σ yes no=Bs (σ.get t) no yes no:=by
 simp only[AA,Bs];generalize σ.get t=v
 cases v with
 | v x=>cases x with
  | sc c=>cases c with
   | dat d=>cases d with
    | bool b=>cases b<;>simp
    | _=>rfl
   | _=>rfl
  | ag=>rfl
 | _=>rfl
theorem fp{t}:go P (.ops ((E (t,T),o)::its)::k) Q .normal (E σ)=go P (.gd (σ.get t) T o its::k) Q .normal (E σ):=by
 show AA (E (t,T)) σ _ _=_
 rw[QQ];show _=Bs _ _ _ _
 simp only[cond_true];congr 1<;>(cases o.dst<;>rfl)
theorem fo{t}:go P (.ops ((E (t,F),o)::its)::k) Q .normal (E σ)=go P (.gd (σ.get t) F o its::k) Q .normal (E σ):=by
 show AA (E (t,F)) σ _ _=_
 rw[QP];show _=Bs _ _ _ _
 simp only[cond_false];congr 1<;>(cases o.dst<;>rfl)
theorem fk{b:U}:go P (.gd (.v (.sc (.dat (.bool b)))) b o its::k) Q .normal (E σ)=go P (.ops ((G,o)::its)::k) Q .normal (E σ):=by
 cases b<;>(simp only[go,AD,Bs,cond_true,cond_false]; simp[B8,AA])
theorem fj:go P (.gd (.v (.sc (.dat (.bool F)))) T o its::k) Q .normal (E σ)=go P (.ops its::k) Q .normal (Ce σ o.dst):=by
 simp only[go,AD,Bs,cond_true];cases o.dst<;>simp[BN,Ce]
theorem fi:go P (.gd (.v (.sc (.dat (.bool T)))) F o its::k) Q .normal (E σ)=go P (.ops its::k) Q .normal (Ce σ o.dst):=by
 simp only[go,AD,Bs,cond_false];cases o.dst<;>simp[BN,Ce]
theorem gC{d x}:go P (.ops ((G,.mv d x)::its)::k) Q .normal (E σ)=go P (.ops its::k) Q .normal (E (σ.set d (σ.val x))):=by
 rw[AX rfl,UX]
theorem gG{d c a b}:go P (.ops ((G,.pick d c a b)::its)::k) Q .normal (E σ)=go P (.ops its::k) Q .normal (Aq σ d (IQ (σ.val c) (σ.val a) (σ.val b))):=by
 rw[AX rfl,UZ]
theorem fF{d zs ps}:go P (.ops ((G,.build d zs ps)::its)::k) Q .normal (E σ)=go P (.ops its::k) Q .normal (Aq σ d ((Co zs (ps.map fun p=>(p.1,p.2.1,σ.val p.2.2))).map fun cs=> .v (.ag cs))):=by
 rw[AX rfl,UK]
theorem fw{d x g n}:go P (.ops ((G,.load d x g n)::its)::k) Q .normal (E σ)=go P (.ops its::k) Q .normal (Aq σ d (Ca σ g n (σ.val x))):=by
 rw[AX rfl,UT]
theorem gE{d x}:go P (.ops ((G,.nilc d x)::its)::k) Q .normal (E σ)=go P (.ops its::k) Q .normal (Aq σ d (Eo (σ.val x))):=by
 rw[AX rfl,UY]
theorem ey{d op x y}:go P (.ops ((G,.bin d op x y)::its)::k) Q .normal (E σ)=go P (.ops its::k) Q .normal (Aq σ d (Dj op (σ.val x) (σ.val y))):=by
 rw[AX rfl,UJ]
theorem fm{d g ks x y}:go P (.ops ((G,.geq d g ks x y)::its)::k) Q .normal (E σ)=go P (.ops its::k) Q .normal (Aq σ d (Ir g ks (σ.val x) (σ.val y))):=by
 rw[AX rfl,UP]
theorem ex{d g x y}:go P (.ops ((G,.beq d g x y)::its)::k) Q .normal (E σ)=go P (.ops its::k) Q .normal (Aq σ d (HB g (σ.val x) (σ.val y))):=by
 rw[AX rfl,UI]
theorem gf{d op x}:go P (.ops ((G,.un d op x)::its)::k) Q .normal (E σ)=go P (.ops its::k) Q .normal (Aq σ d (Ho op (σ.val x))):=by
 rw[AX rfl,V7]
theorem fP{d kd x}:go P (.ops ((G,.conv d kd x)::its)::k) Q .normal (E σ)=go P (.ops its::k) Q .normal (Aq σ d (Oz kd (σ.val x))):=by
 rw[AX rfl,UL]
theorem gW{d sz x lo hi mx}:go P (.ops ((G,.slc d sz x lo hi mx)::its)::k) Q .normal (E σ)=go P (.ops its::k) Q .normal (Aq σ d (Cs σ sz (σ.val x) lo hi mx)):=by
 rw[AX rfl,V3]
theorem ga{d x lo hi}:go P (.ops ((G,.sslc d x lo hi)::its)::k) Q .normal (E σ)=go P (.ops its::k) Q .normal (Aq σ d (FB σ (σ.val x) lo hi)):=by
 rw[AX rfl,V5]
theorem fX{d x off}:go P (.ops ((G,.faddr d x off)::its)::k) Q .normal (E σ)=go P (.ops its::k) Q .normal (Aq σ d (BX σ.rows off (σ.val x))):=by
 rw[AX rfl,UN]
theorem fY{d x off g n}:go P (.ops ((G,.field d x off g n)::its)::k) Q .normal (E σ)=go P (.ops its::k) Q .normal (Aq σ d (Fg off g n (σ.val x))):=by
 rw[AX rfl,UO]
theorem fq{d x i sz}:go P (.ops ((G,.iaddr d x i sz)::its)::k) Q .normal (E σ)=go P (.ops its::k) Q .normal (Aq σ d (Cq σ.rows sz (σ.val x) (σ.val i))):=by
 rw[AX rfl,UQ]
theorem en{d x i len sz}:go P (.ops ((G,.aaddr d x i len sz)::its)::k) Q .normal (E σ)=go P (.ops its::k) Q .normal (Aq σ d (J7 len sz (σ.val x) (σ.val i))):=by
 rw[AX rfl,(Br (o:= .aaddr d x i len sz) rfl).trans tag]
theorem ft{d x i}:go P (.ops ((G,.idx d x i)::its)::k) Q .normal (E σ)=go P (.ops its::k) Q .normal (Aq σ d (Iv (σ.val x) (σ.val i))):=by
 rw[AX rfl,UR]
theorem fz{d t x}:go P (.ops ((G,.mkif d t x)::its)::k) Q .normal (E σ)=go P (.ops its::k) Q .normal (Aq σ d (Ft t (σ.val x))):=by
 rw[AX rfl,UV]
theorem ge{d x t zc}:go P (.ops ((G,.tass d x t zc)::its)::k) Q .normal (E σ)=go P (.ops its::k) Q .normal (Aq σ d (IU t zc (σ.val x))):=by
 rw[AX rfl,V6]
theorem fW{d x i}:go P (.ops ((G,.extr d x i)::its)::k) Q .normal (E σ)=go P (.ops its::k) Q .normal (Aq σ d (HO i (σ.val x))):=by
 rw[AX rfl,UM]
theorem fv{d x}:go P (.ops ((G,.len d x)::its)::k) Q .normal (E σ)=go P (.ops its::k) Q .normal (Aq σ d (Db σ.rows (σ.val x))):=by
 rw[AX rfl,US]
theorem gT{d x}:go P (.ops ((G,.sconv d x)::its)::k) Q .normal (E σ)=go P (.ops its::k) Q .normal (Aq σ d (FA σ.rows (σ.val x))):=by
 rw[AX rfl,V2]
theorem gZ{d x}:go P (.ops ((G,.slen d x)::its)::k) Q .normal (E σ)=go P (.ops its::k) Q .normal (Aq σ d (IS (σ.val x))):=by
 rw[AX rfl,V4]
theorem gB{d m x y}:go P (.ops ((G,.mm d m x y)::its)::k) Q .normal (E σ)=go P (.ops its::k) Q .normal (Aq σ d (H8 m (σ.val x) (σ.val y))):=by
 rw[AX rfl,UW]
theorem fy{d f caps}:go P (.ops ((G,.mkf d f caps)::its)::k) Q .normal (E σ)=go P (.ops its::k) Q .normal (Aq σ d ((El f (caps.map σ.val)).map fun c=> .v (.sc c))):=by
 rw[AX rfl,UU]
theorem gb{x y n}:go P (.ops ((G,.store x y n)::its)::k) Q .normal (E σ)=go P (.ops its::k) Q .normal (σ.storeV n (σ.val x) (σ.val y)):=by
 rw[AX rfl,oc]
theorem er{d sz b x y}:go P (.ops ((G,.app d sz b x y)::its)::k) Q .normal (E σ)=go P (.ops its::k) Q .normal (σ.appV d sz b (σ.val x) (σ.val y)):=by
 rw[AX rfl,oV]
theorem gI{d j id sz}:go P (.ops ((G,.ownb d j id sz)::its)::k) Q .normal (E σ)=go P (.ops its::k) Q .normal (σ.step (.ownb d j id sz)):=AX rfl
theorem gQ{a b}:go P (.ops ((G,.ren a b)::its)::k) Q .normal (E σ)=go P (.ops its::k) Q .normal (σ.step (.ren a b)):=AX rfl
theorem ff{id}:go P (.ops ((G,.frz id)::its)::k) Q .normal (E σ)=go P (.ops its::k) Q .normal (σ.step (.frz id)):=AX rfl
theorem fe{its:L AO}:go P (.frs its::k) Q .normal (E σ)=go P (.fr (Cj its σ):: .dops its::k) Q .normal (E σ):=rfl
theorem fb{b:U}(hb:b=T)(h:go P k Q .normal (E σ)):go P (.fr b::k) Q .normal (E σ):=⟨hb,h⟩
theorem eu{its:L AO}:go P (.dops ((G,G,o)::its)::k) Q .normal (E σ)=go P (.ops [(G,o)]:: .frs its::k) Q .normal (E σ):=rfl
theorem QS{α:Type}{l:L α}{f:α→U}(h:∀x,f x=T):l.all f=T:=List.all_eq_true.2 fun x _=>h x
def MZ(τ σ:St)(N:L V)(o:AOp)(K:St→Prop):Prop:=
 match τ.pure o with
 | some (d,v)=>v.avoids N=T∧K (σ.set d v)
 | none=>match τ.made o with
  | some m=>(match m with | .box _ cs=>cs.all (·.avoids N) | _=>T)=T∧(match σ.make m with
   | some σ'=>K σ'
   | none=>False)
  | none=>False
theorem O8{K:St→Prop}(hc:o.isCall=F):ED P N o K σ=MZ (σ.less N) σ N o K:=by
 cases o<;>first
  | rfl
  | (simp[AOp.isCall] at hc; done)
theorem oW(hc:o.isCall=F)(hg:o.gentle=T):σ.step o=(match σ.pure o with
  | some (d,v)=>E (σ.set d v)
  | none=>match σ.made o with
   | some m=>σ.make m
   | none=>G):=by
 cases o<;>first
  | rfl
  | (simp[AOp.isCall] at hc; done)
  | (simp[AOp.gentle] at hg; done)
theorem YK{K:St→Prop}(hg:o.gentle=T)(hc:o.isCall=F):ED P [] o K σ=AN P o K σ:=by
 cases hc:o.isCall with
 | true=>simp_all
 | false=>
  rw[O8 hc,QW (by rintro _ _ _ rfl; simp[AOp.isCall] at hc) (by rintro _ _ _ rfl; simp[AOp.isCall] at hc),oW hc hg];unfold MZ;show(match σ.pure o with | some (d,v)=>v.avoids []=T∧K (σ.set d v) | none=>_)=_
  cases hp:σ.pure o with
  | some p=>
   have hav:p.2.avoids []=T:=QS fun c=>rfl
   simp only[BN,hav,true_and]
  | none=>
   show(match σ.made o with | some m=>_ | none=>False)=_
   cases hm:σ.made o with
   | none=>rfl
   | some m=>
    cases m with
    | box d cs=>
     have hav:cs.all (·.avoids [])=T:=QS fun c=>rfl
     show(cs.all (·.avoids [])=T∧(match σ.make (.box d cs) with | some σ'=>K σ' | none=>False))=BN (σ.make (.box d cs)) K
     rw[hav];cases σ.make (.box d cs)<;>simp[BN]
    | row d sz es=>
     show(T=T∧(match σ.make (.row d sz es) with | some σ'=>K σ' | none=>False))=BN (σ.make (.row d sz es)) K
     cases σ.make (.row d sz es)<;>simp[BN]
theorem Bc{its:L AO}(hg:o.gentle=T)(hc:o.isCall=F):go P (.dops ((E [],G,o)::its)::k) Q .normal (E σ)=go P (.ops [(G,o)]:: .dops its::k) Q .normal (E σ):=
 YK hg hc
def Bj(σ:St)(N:L V):O V→O St→O St
 | some d,E τ=>bif (τ.get d).avoids N then E (σ.set d (τ.get d)) else G
 | _,_=>G
theorem Bn{its:L AO}(hp:o.isPure=T):go P (.dops ((E N,G,o)::its)::k) Q .normal (E σ)=go P (.dops its::k) Q .normal (Bj σ N o.dst ((σ.less N).step o)):=by
 have hc:o.isCall=F:=by cases o<;>first | rfl | (simp[AOp.isPure] at hp; done)
 show ED P N o _ σ=_
 rw[O8 hc,V0 hp];unfold MZ;cases h:(σ.less N).pure o with
 | some p=>
  obtain⟨d,v⟩:=p;rw[(PJ h).1];show(v.avoids N=T∧_)=go P (.dops its::k) Q .normal (bif (((σ.less N).set d v).get d).avoids N then E (σ.set d (((σ.less N).set d v).get d)) else G)
  rw[St.get_set_same];cases v.avoids N with
  | true=>simp[go,AD]
  | false=>simp[go]
 | none=>
  have hm:(σ.less N).made o=G:=by cases o<;>first | rfl | (simp[AOp.isPure] at hp; done)
  show(match (σ.less N).made o with | some m=>_ | none=>False)=_
  rw[hm];cases o.dst<;>rfl
def TO(N:L V):Mk→U
 | .box _ cs=>cs.all (·.avoids N)
 | _=>T
theorem fS{its:L AO}{m:Mk}(hm:(σ.less N).made o=E m)(hv:TO N m=T){σ':St}(hmk:σ.make m=E σ')(h:go P (.dops its::k) Q .normal (E σ')) :
  go P (.dops ((E N,G,o)::its)::k) Q .normal (E σ):=by
 have hc:o.isCall=F:=by cases o<;>first | rfl | (simp[St.made] at hm; done)
 show ED P N o _ σ
 rw[O8 hc];unfold MZ;rw[TG hm];simp only[hm,hmk];cases m with
 | box d cs=>exact⟨hv,h⟩
 | row d sz es=>exact⟨rfl,h⟩
theorem Iu{its:L AO}{d f args}{xs:L DV}{rs:L R1}(hf:FC P f xs rs)(h1:(σ.less N).toDVs args=E xs)(h2:C7 rs)(h3:σ.fresh d=T)(h4:(rs.flatMap R1.cells).length≤64)(h5:go P (.dops its::k) Q .normal (E (σ.inst d rs))) :
  go P (.dops ((E N,G,.call d f args)::its)::k) Q .normal (E σ):=⟨xs,rs,.inl ⟨h1,.inl h2⟩,hf,h3,h4,h5⟩
theorem fQ{its:L AO}{d f args}{xs:L DV}{rs:L R1}(hf:FC P f xs rs)(h1:(σ.less N).toIVs args=E xs)(h3:σ.fresh d=T)(h4:(rs.flatMap R1.cells).length≤64)(h5:go P (.dops its::k) Q .normal (E (σ.inst d rs))) :
  go P (.dops ((E N,G,.call d f args)::its)::k) Q .normal (E σ):=⟨xs,rs,.inr h1,hf,h3,h4,h5⟩
end
end Go.Vi
