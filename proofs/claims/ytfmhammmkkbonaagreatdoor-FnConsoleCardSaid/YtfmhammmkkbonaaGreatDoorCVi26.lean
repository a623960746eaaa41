/-
The value level. No condition.
-/
import Derived.Test.YtfmhammmkkbonaaGreatDoorCVi25
namespace Go.Vi
set_option linter.all false
open Bool renaming and_eq_true → W, true → T, false → F
open Option renaming some → E, none → G
open _root_ renaming List → L, Option → O, Bool → U, Nat → V
inductive Fr where
 | code (c:Xg)
 | ops (its:L AItem)
 | dops (its:L AT)
 | blk (id:V)
 | pick (v:AV) (x y:Xg)
 | gd (v:AV) (want:U) (o:AOp) (its:L AItem)
 | gdd (v:AV) (want:U) (N:O (L V)) (o:AOp) (its:L AT)
 | fr (b:U)
 | frs (its:L AT)
 | panF (x:Opd)
 | calF (d:V) (f:FuncId) (args:L Opd)
def C7{α:Type}(o:O α)(f:α→Prop):Prop:=
 match o with
 | some a=>f a
 | none=>False
def BG(v:AV)(X Y Z:Prop):Prop:=
 match v with
 | .v (.sc (.dat (.bool b)))=>if b=T then X else Y
 | .no=>Z
 | _=>False
def Ax(σ:St)(d:V):O AV→O St
 | some v=>E (σ.set d v)
 | none=>G
def CI(σ:St):O V→O St
 | some d=>E (σ.set d .no)
 | none=>G
def mk1(σ:St):O Mk→O St
 | some m=>σ.make m
 | none=>G
def AH(P:Program):L Fr→(Xn→St→Prop)→Xn→St→Prop
 | [],Q,e,σ=>Q e σ
 | .code c::k,Q,.normal,σ=>B4 P c (AH P k Q) σ
 | .ops its::k,Q,.normal,σ=>B6 P its (AH P k Q .normal) σ
 | .dops its::k,Q,.normal,σ=>Cb P its (AH P k Q .normal) σ
 | .pick v x y::k,Q,.normal,σ=>BG v (B4 P x (AH P k Q) σ) (B4 P y (AH P k Q) σ) False
 | .gd v want o its::k,Q,.normal,σ=>BG v (bif want then AO P o (B6 P its (AH P k Q .normal)) σ else C7 o.dst fun d=>B6 P its (AH P k Q .normal) (σ.set d .no))
   (bif want then C7 o.dst fun d=>B6 P its (AH P k Q .normal) (σ.set d .no) else AO P o (B6 P its (AH P k Q .normal)) σ)
   (C7 o.dst fun d=>B6 P its (AH P k Q .normal) (σ.set d .no))
 | .gdd v want N o its::k,Q,.normal,σ=>BG v (bif want then Cb P ((N,G,o)::its) (AH P k Q .normal) σ else C7 o.dst fun d=>Cb P its (AH P k Q .normal) (σ.set d .no))
   (bif want then C7 o.dst fun d=>Cb P its (AH P k Q .normal) (σ.set d .no) else Cb P ((N,G,o)::its) (AH P k Q .normal) σ)
   (C7 o.dst fun d=>Cb P its (AH P k Q .normal) (σ.set d .no))
 | .fr b::k,Q,.normal,σ=>b=T∧AH P k Q .normal σ
 | .frs its::k,Q,.normal,σ=>D4 its σ=T∧Cb P its (AH P k Q .normal) σ
 | .panF x::k,Q,.normal,σ=>∃d,σ.val x= .v (.sc (.dat d))∧d.flat=T∧Rr d=T∧AH P k Q (.pan d) σ
 | .calF d f args::k,Q,.normal,σ=>AO P (.call d f args) (AH P k Q .normal) σ∨∃ds pd,σ.toDVs args=E ds∧Kv P f ds pd∧AH P k Q (.pan pd) σ
 | .blk id::k,Q,.exit i,σ=>if i=id then AH P k Q .normal σ else AH P k Q (.exit i) σ
 | _::k,Q,e,σ=>AH P k Q e σ
def go(P:Program)(k:L Fr)(Q:Xn→St→Prop)(e:Xn):O St→Prop
 | some σ=>AH P k Q e σ
 | none=>False
def AOp.isPure:AOp→U
 | .mv .. | .pick .. | .build .. | .load .. | .nilc .. | .bin .. | .beq .. | .geq .. | .un .. | .conv .. | .slc .. | .sslc .. | .faddr .. | .field .. | .iaddr .. | .aaddr .. | .idx .. | .extr .. | .len .. | .slen .. | .sconv .. | .mm .. | .mkf .. | .zsl _ | .mkif .. | .tass .. =>T
 | _=>F
def AOp.isMade:AOp→U
 | .box .. | .alloc .. | .bslice .. | .mksl .. | .zap .. =>T
 | _=>F
def AOp.isCall:AOp→U
 | .call .. | .callv .. =>T
 | .mv .. | .pick .. | .box .. | .alloc .. | .build .. | .bslice .. | .load .. | .store .. | .clr .. | .nilc .. | .bin .. | .beq .. | .geq .. | .un .. | .conv .. | .mksl .. | .slc .. | .sslc .. | .faddr .. | .field .. | .iaddr .. | .aaddr .. | .idx .. | .extr .. | .len .. | .slen .. | .sconv .. | .app .. | .mm .. | .mkf .. | .zsl _ | .zap .. | .mkif .. | .tass .. =>F
 | .drop _ | .own .. | .ownb .. | .ren .. | .frz _ | .frzb _ | .forget _ | .keep .. | .cut _=>F
section
variable {P : Program} {k : L Fr} {Q : Xn → St → Prop} {σ : St} {its : L AItem} {ds : L AT} {o : AOp} {N : L V}
theorem JS{c:Xg}(h:go P [.code c] Q .normal (E σ)):B4 P c Q σ:=Tz c (fun _ _ h=>h) h
theorem oV{e}:go P k Q e G=False:=rfl
theorem oT{e}:go P [] Q e (E σ)=Q e σ:=rfl
theorem oq:go P (.code .skip::k) Q .normal (E σ)=go P k Q .normal (E σ):=rfl
theorem UB{nt:V}{C:Code}{τ:St}(h:GY P nt C σ τ)(H:go P k Q .normal (E τ)):go P (.code (.hook nt C)::k) Q .normal (E σ):=⟨τ,h,H⟩
theorem oj:go P (.code (.reg its)::k) Q .normal (E σ)=go P (.ops its::k) Q .normal (E σ):=rfl
theorem nr:go P (.code (.drw ds)::k) Q .normal (E σ)=go P (.fr (D4 ds σ):: .dops ds::k) Q .normal (E σ):=rfl
theorem ny:go P (.fr T::k) Q .normal (E σ)=go P k Q .normal (E σ):=by simp[go,AH]
theorem oo{x y:Xg}:go P (.code (.seq x y)::k) Q .normal (E σ)=go P (.code x:: .code y::k) Q .normal (E σ):=by
 simp only[go,AH,B4];congr 1
 funext e σ'
 cases e<;>simp only[AH]
theorem nX{id:V}{c:Xg}:go P (.code (.block id c)::k) Q .normal (E σ)=go P (.code c:: .blk id::k) Q .normal (E σ):=by
 simp only[go,AH,B4];congr 1
 funext e σ'
 cases e<;>simp only[AH]
theorem nu{id:V}:go P (.code (.exit id)::k) Q .normal (E σ)=go P k Q (.exit id) (E σ):=rfl
theorem ol:go P (.code .ret::k) Q .normal (E σ)=go P k Q .ret (E σ):=rfl
theorem ng{c:Opd}{x y:Xg}:go P (.code (.cond c x y)::k) Q .normal (E σ)=go P (.pick (σ.val c) x y::k) Q .normal (E σ):=by
 show(match σ.val c with | .v (.sc (.dat (.bool b)))=>if b=T then B4 P x (AH P k Q) σ else B4 P y (AH P k Q) σ | _=>False)=BG (σ.val c) _ _ _
 unfold BG;generalize σ.val c=v
 cases v with
 | v x=>cases x with
  | sc c=>cases c with
   | dat d=>cases d<;>rfl
   | _=>rfl
  | ag=>rfl
 | _=>rfl
theorem oi{x y:Xg}:go P (.pick (.v (.sc (.dat (.bool T)))) x y::k) Q .normal (E σ)=go P (.code x::k) Q .normal (E σ):=by simp[go,AH,BG]
theorem oh{x y:Xg}:go P (.pick (.v (.sc (.dat (.bool F)))) x y::k) Q .normal (E σ)=go P (.code y::k) Q .normal (E σ):=by simp[go,AH,BG]
theorem oZ{x:Opd}:go P (.code (.pan its x)::k) Q .normal (E σ)=go P (.ops its:: .panF x::k) Q .normal (E σ):=rfl
theorem na{d f args}:go P (.code (.cal its d f args)::k) Q .normal (E σ)=go P (.ops its:: .calF d f args::k) Q .normal (E σ):=rfl
theorem Mj{d f args}(H:go P (.ops [(G,.call d f args)]::k) Q .normal (E σ)):go P (.calF d f args::k) Q .normal (E σ):= .inl H
theorem od{c:Xg}{d:D}:go P (.code c::k) Q (.pan d) (E σ)=go P k Q (.pan d) (E σ):=rfl
theorem nV{id:V}{d:D}:go P (.blk id::k) Q (.pan d) (E σ)=go P k Q (.pan d) (E σ):=rfl
theorem EJ{its:L (L V × AItem)}{τ σ2:St}{ks bs rs:L V}(h0:(σ.kept ks bs rs).pad (its.filterMap fun i=>i.2.2.dst)=σ2)(h1:Av P its τ its.length (its.map fun _=>F) σ2)(h2:go P k Q .normal (E τ)):go P (.code (.any its)::k) Q .normal (E σ):=
 ⟨ks,bs,rs,τ,h0▸h1,h2⟩
def Si(P:Program)(its:L (L V × AItem))(τ:St)(f:V)(ms:L U)(σ:St):L (L V × AItem)→V→Prop
 | [],_=>True
 | it::r,i=>(ms[i]?=E F→(∀j∈it.1,ms[j]?=E T)→∃pre post:L AItem,pre.all (fun i=>i.2.idle)=T∧post.all (fun i=>i.2.idle)=T∧go P [.ops (pre++it.2::post)] (fun _=>Av P its τ f (ms.set i T)) .normal (E σ))∧Si P its τ f ms σ r (i+1)
theorem Yb{its:L (L V × AItem)}{τ:St}{f:V}{ms:L U}:∀{r:L (L V × AItem)} {n:V},Si P its τ f ms σ r n→∀(i:V) (it:L V × AItem),r[i]?=E it→ms[n+i]?=E F→(∀j∈it.1,ms[j]?=E T)→∃pre post:L AItem,pre.all (fun i=>i.2.idle)=T∧post.all (fun i=>i.2.idle)=T∧go P [.ops (pre++it.2::post)] (fun _=>Av P its τ f (ms.set (n+i) T)) .normal (E σ)
 | [],_,_,i,it,hi,_,_=>by simp at hi
 | x::r,n,h,0,it,hi,h1,h2=>by
  simp at hi
  subst hi;exact h.1 h1 h2
 | x::r,n,h,i+1,it,hi,h1,h2=>by
  have:=Yb h.2 i it (by simpa using hi) (by rw[show n+1+i=n+(i+1) by omega]; exact h1) h2;rw[show n+1+i=n+(i+1) by omega] at this
  exact this
theorem Tr{it:AItem}{post:L AItem}{K:St→Prop}:∀(pre:L AItem) (σ:St),pre.all (fun i=>i.2.idle)=T→B6 P (pre++it::post) K σ→B6 P pre (fun σ=>AB it.1 σ (AO P it.2 (B6 P post K) σ) (match it.2.dst with | some d=>B6 P post K (σ.set d .no) | none=>False)) σ
 | [],_,_,h=>h
 | (g,o)::pre,σ,hp,h=>by
  have hi:o.idle=T:=by simp only[List.all_cons,W] at hp; exact hp.1
  have hp':pre.all (fun i=>i.2.idle)=T:=by simp only[List.all_cons,W] at hp; exact hp.2
  have h':AB g σ (AO P o (B6 P (pre++it::post) K) σ) (match o.dst with | some d=>B6 P (pre++it::post) K (σ.set d .no) | none=>False):=h;show AB g σ (AO P o (B6 P pre _) σ) _
  have hno:o.dst=G:=by cases o<;>first | rfl | (simp[AOp.idle] at hi; done)
  simp only[hno] at h' ⊢
  have key:∀X Y:St→Prop,(∀σ,X σ→Y σ)→AO P o X σ→AO P o Y σ:=fun X Y hXY hx=>by
   cases o<;>first
    | (simp[AOp.idle] at hi; done)
    | (simp only[AO] at hx ⊢; split at hx<;>simp_all)
  have mono:∀{X Y:Prop},(X→Y)→AB g σ X False→AB g σ Y False:=fun hXY hx=>by
   unfold AB at hx ⊢
   cases g with
   | none=>exact hXY hx
   | some g=>
    simp only at hx ⊢
    split
    ·rename_i b hb
     rw[hb] at hx
     simp only at hx
     split at hx
     ·rename_i e
      rw[if_pos e];exact hXY hx
     ·exact hx.elim
    ·rename_i hb
     rw[hb] at hx
     exact hx
    ·rename_i h1 h2
     split at hx
     ·rename_i b hb
      exact h1 b hb
     ·rename_i hb
      exact h2 hb
     ·exact hx
  exact mono (key _ _ fun σ h=>Tr pre σ hp' h) h'
theorem AF{its:L (L V × AItem)}{τ:St}{f:V}{ms:L U}(h:Si P its τ f ms σ its 0):Av P its τ (f+1) ms σ:=by
 intro i it hi h1 h2;obtain⟨pre,post,hp,hq,this⟩:=Yb h i it hi (by simpa using h1) h2;rw[Nat.zero_add] at this
 exact⟨pre,post,hp,hq,Tr pre _ hp this⟩
theorem np{it:AItem}{Q:Xn→St→Prop}(h:go P [.ops [it]] Q .normal (E σ)):∃pre post:L AItem,pre.all (fun i=>i.2.idle)=T∧post.all (fun i=>i.2.idle)=T∧go P [.ops (pre++it::post)] Q .normal (E σ):=⟨[],[],rfl,rfl,h⟩
theorem Ac{α:Type}{a b:α}:(bif T then a else b)=a:=rfl
theorem Af{α:Type}{a b:α}:(bif F then a else b)=b:=rfl
theorem hq{ms:L U}{N:L V}{a:U}(hw:∀j∈N,ms[j]?=E T)(j:V)(h:N.elem j=T)(e:ms[j]?=E a):a=T:=by
 have:=hw j (List.elem_iff.1 h);rw[e] at this
 exact Option.some.inj this
theorem hz{ms:L U}{i:V}{a:U}(h:ms[i]?=E F)(e:ms[i]?=E a):a=F:=Option.some.inj (e.symm.trans h)
theorem oc{c:Xg}{i:V}:go P (.code c::k) Q (.exit i) (E σ)=go P k Q (.exit i) (E σ):=rfl
theorem oe{c:Xg}:go P (.code c::k) Q .ret (E σ)=go P k Q .ret (E σ):=rfl
theorem nT{id:V}:go P (.blk id::k) Q .normal (E σ)=go P k Q .normal (E σ):=rfl
theorem nW{id:V}:go P (.blk id::k) Q .ret (E σ)=go P k Q .ret (E σ):=rfl
theorem nU{id i:V}:go P (.blk id::k) Q (.exit i) (E σ)=go P k Q (bif i==id then .normal else .exit i) (E σ):=by
 by_cases h:i=id
 ·simp[go,AH,h]
 ·have h':(i==id)=F:=by simpa using h
  simp[go,AH,h,h']
theorem oX:go P (.ops []::k) Q .normal (E σ)=go P k Q .normal (E σ):=rfl
theorem nq:go P (.dops []::k) Q .normal (E σ)=go P k Q .normal (E σ):=rfl
theorem Tq{K:St→Prop}(h1:∀d f args,o≠ .call d f args)(h2:∀d x args,o≠ .callv d x args):AO P o K σ=C7 (σ.step o) K:=by
 cases o<;>first
  | rfl
  | (show(match St.step σ _ with | some σ'=>K σ' | none=>False)=C7 (St.step σ _) K; generalize St.step σ _=x; cases x<;>rfl)
  | exact absurd rfl (h1 _ _ _)
  | exact absurd rfl (h2 _ _ _)
theorem Yu(h:o.isPure=T):σ.step o=(σ.pure o).map fun p=>σ.set p.1 p.2:=by
 cases o<;>first
  | (simp[AOp.isPure] at h; done)
  | skip
 all_goals
  simp only[St.step,St.made];generalize σ.pure _=x
  cases x<;>rfl
theorem wP(h:o.isMade=T):σ.step o=(σ.made o).bind σ.make:=by
 cases o<;>first
  | (simp[AOp.isMade] at h; done)
  | skip
 all_goals
  simp only[St.step,St.pure];generalize σ.made _=x
  cases x<;>rfl
theorem B1(h:o.isCall=F):go P (.ops ((G,o)::its)::k) Q .normal (E σ)=go P (.ops its::k) Q .normal (σ.step o):=by
 show AO P o (B6 P its (AH P k Q .normal)) σ=_
 rw[Tq (by rintro _ _ _ rfl; simp[AOp.isCall] at h) (by rintro _ _ _ rfl; simp[AOp.isCall] at h)];cases σ.step o<;>rfl
def MO:L V→U
 | []=>T
 | x::r=> !r.contains x&&MO r
theorem RI:∀{l:L V},MO l=T→l.Nodup
 | [],_=>List.nodup_nil
 | x::r,h=>by
  simp only[MO,W,Bool.not_eq_true',List.contains_eq_mem,decide_eq_false_iff_not] at h;exact List.nodup_cons.2 ⟨h.1,RI h.2⟩
theorem Ec{d f args}{xs:L DV}{rs:L R1}(hf:FC P f xs rs)(h1:σ.toDVs args=E xs)(h2:CD rs)(h3:σ.fresh d=T)(h4:(rs.flatMap R1.cells).length≤64)(h5:go P (.ops its::k) Q .normal (E (σ.inst d rs))) :
  go P (.ops ((G,.call d f args)::its)::k) Q .normal (E σ):= .inl ⟨xs,rs,.inl ⟨h1,.inl h2⟩,hf,h3,h4,h5⟩
theorem JQ{d f args}{xs:L DV}{rs:L R1}(hf:FC P f xs rs)(h1:σ.toIVs args=E xs)(h3:σ.fresh d=T)(h4:(rs.flatMap R1.cells).length≤64)(h5:go P (.ops its::k) Q .normal (E (σ.inst d rs))) :
  go P (.ops ((G,.call d f args)::its)::k) Q .normal (E σ):= .inl ⟨xs,rs,.inr h1,hf,h3,h4,h5⟩
theorem Ml{d f args}{σ':St}{r:AV}(hf:DX P f (args.map σ.val) σ σ' r)(h5:go P (.ops its::k) Q .normal (E (σ'.set d r))):go P (.ops ((G,.call d f args)::its)::k) Q .normal (E σ):= .inr (.inr ⟨σ',r,hf,h5⟩)
theorem nd{d x args f caps}{xs:L DV}{rs:L R1}(hf:FC P f (xs++caps.map .sc) rs)(h0:BA P f=T)(hx:σ.toDV (σ.val x)=E (.sc (.clo f caps)))(h1:σ.toDVs args=E xs)(h2:CD rs)(h3:σ.fresh d=T)(h4:(rs.flatMap R1.cells).length≤64)
  (h5:go P (.ops its::k) Q .normal (E (σ.inst d rs))):go P (.ops ((G,.callv d x args)::its)::k) Q .normal (E σ):= .inl ⟨f,caps,xs,rs,.inl ⟨hx,h1,h2⟩,h0,hf,h3,h4,h5⟩
theorem BB(h:o.isPure=T):σ.step o=(σ.pure o).bind fun p=>Ax σ p.1 (E p.2):=by
 rw[Yu h];cases σ.pure o<;>rfl
theorem BV{d:V}{x:O AV}:((x.map (Prod.mk d)).bind fun p=>Ax σ p.1 (E p.2))=Ax σ d x:=by cases x<;>rfl
theorem Yr{d x}:σ.step (.mv d x)=E (σ.set d (σ.val x)):=rfl
theorem Yt{d c a b}:σ.step (.pick d c a b)=Ax σ d (GJ (σ.val c) (σ.val a) (σ.val b)):=(BB rfl).trans BV
theorem Ye{d zs ps}:σ.step (.build d zs ps)=Ax σ d ((Dp zs (ps.map fun p=>(p.1,p.2.1,σ.val p.2.2))).map fun cs=> .v (.ag cs)):=by
 rw[BB rfl];simp only[St.pure];cases Dp zs (ps.map fun p=>(p.1,p.2.1,σ.val p.2.2))<;>rfl
theorem Yn{d x g n}:σ.step (.load d x g n)=Ax σ d (Cq σ g n (σ.val x)):=(BB rfl).trans BV
theorem Ys{d x}:σ.step (.nilc d x)=Ax σ d (FL (σ.val x)):=(BB rfl).trans BV
theorem Yd{d op x y}:σ.step (.bin d op x y)=Ax σ d (BY op (σ.val x) (σ.val y)):=(BB rfl).trans BV
theorem Yj{d g ks x y}:σ.step (.geq d g ks x y)=Ax σ d (JP g ks (σ.val x) (σ.val y)):=(BB rfl).trans BV
theorem Yc{d g x y}:σ.step (.beq d g x y)=Ax σ d (IS g (σ.val x) (σ.val y)):=(BB rfl).trans BV
theorem YA{d op x}:σ.step (.un d op x)=Ax σ d (GU op (σ.val x)):=(BB rfl).trans BV
def Qt(k:IntKind):AV→O AV
 | .v (.sc (.dat (.int _ n)))=>E (.v (.sc (.dat (.int k (k.wrap n)))))
 | _=>G
theorem Yf{d kd x}:σ.step (.conv d kd x)=Ax σ d (Qt kd (σ.val x)):=by
 rw[BB rfl];simp only[St.pure];generalize σ.val x=v
 cases v with
 | v x=>cases x with
  | sc c=>cases c with
   | dat d=>cases d<;>rfl
   | _=>rfl
  | ag=>rfl
 | _=>rfl
theorem Yw{d sz x lo hi mx}:σ.step (.slc d sz x lo hi mx)=Ax σ d (Eh σ sz (σ.val x) lo hi mx):=(BB rfl).trans BV
theorem Yy{d x lo hi}:σ.step (.sslc d x lo hi)=Ax σ d (GO σ (σ.val x) lo hi):=(BB rfl).trans BV
theorem Yh{d x off}:σ.step (.faddr d x off)=Ax σ d (Cl σ.rows off (σ.val x)):=(BB rfl).trans BV
theorem Yi{d x off g n}:σ.step (.field d x off g n)=Ax σ d (Gx off g n (σ.val x)):=(BB rfl).trans BV
theorem Yk{d x i sz}:σ.step (.iaddr d x i sz)=Ax σ d (CQ σ.rows sz (σ.val x) (σ.val i)):=(BB rfl).trans BV
theorem Yl{d x i}:σ.step (.idx d x i)=Ax σ d (JT (σ.val x) (σ.val i)):=(BB rfl).trans BV
theorem Yp{d t x}:σ.step (.mkif d t x)=Ax σ d (GG t (σ.val x)):=(BB rfl).trans BV
theorem Yz{d x t zc}:σ.step (.tass d x t zc)=Ax σ d (GR t zc (σ.val x)):=(BB rfl).trans BV
theorem Yg{d x i}:σ.step (.extr d x i)=Ax σ d (J7 i (σ.val x)):=(BB rfl).trans BV
theorem Ym{d x}:σ.step (.len d x)=Ax σ d (Cp σ.rows (σ.val x)):=(BB rfl).trans BV
theorem Yv{d x}:σ.step (.sconv d x)=Ax σ d (GM σ.rows (σ.val x)):=(BB rfl).trans BV
theorem Yx{d x}:σ.step (.slen d x)=Ax σ d (Kk (σ.val x)):=(BB rfl).trans BV
theorem Yq{d m x y}:σ.step (.mm d m x y)=Ax σ d (Il m (σ.val x) (σ.val y)):=(BB rfl).trans BV
theorem Yo{d f caps}:σ.step (.mkf d f caps)=Ax σ d ((FH f (caps.map σ.val)).map fun c=> .v (.sc c)):=by
 rw[BB rfl];simp only[St.pure];cases FH f (caps.map σ.val)<;>rfl
theorem wQ(h:o.isMade=T):σ.step o=mk1 σ (σ.made o):=by
 rw[wP h];cases σ.made o<;>rfl
theorem wS{x y n}:σ.step (.store x y n)=σ.storeV n (σ.val x) (σ.val y):=rfl
theorem wN{d sz b x y}:σ.step (.app d sz b x y)=σ.appV d sz b (σ.val x) (σ.val y):=rfl
theorem Xz{d v}:Ax σ d (E v)=E (σ.set d v):=rfl
theorem Ti{t:V}{yes no:Prop}:AB (E (t,T)) σ yes no=BG (σ.get t) yes no no:=by
 simp only[AB,BG];generalize σ.get t=v
 cases v with
 | v x=>cases x with
  | sc c=>cases c with
   | dat d=>cases d<;>rfl
   | _=>rfl
  | ag=>rfl
 | _=>rfl
theorem Th{t:V}{yes no:Prop}:AB (E (t,F)) σ yes no=BG (σ.get t) no yes no:=by
 simp only[AB,BG];generalize σ.get t=v
 cases v with
 | v x=>cases x with
  | sc c=>cases c with
   | dat d=>cases d with
    | bool b=>cases b<;>simp
    | _=>rfl
   | _=>rfl
  | ag=>rfl
 | _=>rfl
theorem oJ{t}:go P (.ops ((E (t,T),o)::its)::k) Q .normal (E σ)=go P (.gd (σ.get t) T o its::k) Q .normal (E σ):=by
 show AB (E (t,T)) σ _ _=_
 rw[Ti];show _=BG _ _ _ _
 simp only[cond_true];congr 1<;>(cases o.dst<;>rfl)
theorem oI{t}:go P (.ops ((E (t,F),o)::its)::k) Q .normal (E σ)=go P (.gd (σ.get t) F o its::k) Q .normal (E σ):=by
 show AB (E (t,F)) σ _ _=_
 rw[Th];show _=BG _ _ _ _
 simp only[cond_false];congr 1<;>(cases o.dst<;>rfl)
theorem oG{b:U}:go P (.gd (.v (.sc (.dat (.bool b)))) b o its::k) Q .normal (E σ)=go P (.ops ((G,o)::its)::k) Q .normal (E σ):=by
 cases b<;>(simp only[go,AH,BG,cond_true,cond_false]; simp[B6,AB])
theorem oF:go P (.gd (.v (.sc (.dat (.bool F)))) T o its::k) Q .normal (E σ)=go P (.ops its::k) Q .normal (CI σ o.dst):=by
 simp only[go,AH,BG,cond_true];cases o.dst<;>simp[C7,CI]
theorem oE:go P (.gd (.v (.sc (.dat (.bool T)))) F o its::k) Q .normal (E σ)=go P (.ops its::k) Q .normal (CI σ o.dst):=by
 simp only[go,AH,BG,cond_false];cases o.dst<;>simp[C7,CI]
theorem oS{d x}:go P (.ops ((G,.mv d x)::its)::k) Q .normal (E σ)=go P (.ops its::k) Q .normal (E (σ.set d (σ.val x))):=by
 rw[B1 rfl,Yr]
theorem oW{d c a b}:go P (.ops ((G,.pick d c a b)::its)::k) Q .normal (E σ)=go P (.ops its::k) Q .normal (Ax σ d (GJ (σ.val c) (σ.val a) (σ.val b))):=by
 rw[B1 rfl,Yt]
theorem nY{d zs ps}:go P (.ops ((G,.build d zs ps)::its)::k) Q .normal (E σ)=go P (.ops its::k) Q .normal (Ax σ d ((Dp zs (ps.map fun p=>(p.1,p.2.1,σ.val p.2.2))).map fun cs=> .v (.ag cs))):=by
 rw[B1 rfl,Ye]
theorem oO{d x g n}:go P (.ops ((G,.load d x g n)::its)::k) Q .normal (E σ)=go P (.ops its::k) Q .normal (Ax σ d (Cq σ g n (σ.val x))):=by
 rw[B1 rfl,Yn]
theorem oU{d x}:go P (.ops ((G,.nilc d x)::its)::k) Q .normal (E σ)=go P (.ops its::k) Q .normal (Ax σ d (FL (σ.val x))):=by
 rw[B1 rfl,Ys]
theorem nR{d op x y}:go P (.ops ((G,.bin d op x y)::its)::k) Q .normal (E σ)=go P (.ops its::k) Q .normal (Ax σ d (BY op (σ.val x) (σ.val y))):=by
 rw[B1 rfl,Yd]
theorem oH{d g ks x y}:go P (.ops ((G,.geq d g ks x y)::its)::k) Q .normal (E σ)=go P (.ops its::k) Q .normal (Ax σ d (JP g ks (σ.val x) (σ.val y))):=by
 rw[B1 rfl,Yj]
theorem nQ{d g x y}:go P (.ops ((G,.beq d g x y)::its)::k) Q .normal (E σ)=go P (.ops its::k) Q .normal (Ax σ d (IS g (σ.val x) (σ.val y))):=by
 rw[B1 rfl,Yc]
theorem oy{d op x}:go P (.ops ((G,.un d op x)::its)::k) Q .normal (E σ)=go P (.ops its::k) Q .normal (Ax σ d (GU op (σ.val x))):=by
 rw[B1 rfl,YA]
theorem nh{d kd x}:go P (.ops ((G,.conv d kd x)::its)::k) Q .normal (E σ)=go P (.ops its::k) Q .normal (Ax σ d (Qt kd (σ.val x))):=by
 rw[B1 rfl,Yf]
theorem ot{d sz x lo hi mx}:go P (.ops ((G,.slc d sz x lo hi mx)::its)::k) Q .normal (E σ)=go P (.ops its::k) Q .normal (Ax σ d (Eh σ sz (σ.val x) lo hi mx)):=by
 rw[B1 rfl,Yw]
theorem ov{d x lo hi}:go P (.ops ((G,.sslc d x lo hi)::its)::k) Q .normal (E σ)=go P (.ops its::k) Q .normal (Ax σ d (GO σ (σ.val x) lo hi)):=by
 rw[B1 rfl,Yy]
theorem nw{d x off}:go P (.ops ((G,.faddr d x off)::its)::k) Q .normal (E σ)=go P (.ops its::k) Q .normal (Ax σ d (Cl σ.rows off (σ.val x))):=by
 rw[B1 rfl,Yh]
theorem nx{d x off g n}:go P (.ops ((G,.field d x off g n)::its)::k) Q .normal (E σ)=go P (.ops its::k) Q .normal (Ax σ d (Gx off g n (σ.val x))):=by
 rw[B1 rfl,Yi]
theorem oK{d x i sz}:go P (.ops ((G,.iaddr d x i sz)::its)::k) Q .normal (E σ)=go P (.ops its::k) Q .normal (Ax σ d (CQ σ.rows sz (σ.val x) (σ.val i))):=by
 rw[B1 rfl,Yk]
theorem nM{d x i len sz}:go P (.ops ((G,.aaddr d x i len sz)::its)::k) Q .normal (E σ)=go P (.ops its::k) Q .normal (Ax σ d (Kz len sz (σ.val x) (σ.val i))):=by
 rw[B1 rfl,(BB (o:= .aaddr d x i len sz) rfl).trans BV]
theorem oL{d x i}:go P (.ops ((G,.idx d x i)::its)::k) Q .normal (E σ)=go P (.ops its::k) Q .normal (Ax σ d (JT (σ.val x) (σ.val i))):=by
 rw[B1 rfl,Yl]
theorem oQ{d t x}:go P (.ops ((G,.mkif d t x)::its)::k) Q .normal (E σ)=go P (.ops its::k) Q .normal (Ax σ d (GG t (σ.val x))):=by
 rw[B1 rfl,Yp]
theorem ox{d x t zc}:go P (.ops ((G,.tass d x t zc)::its)::k) Q .normal (E σ)=go P (.ops its::k) Q .normal (Ax σ d (GR t zc (σ.val x))):=by
 rw[B1 rfl,Yz]
theorem nv{d x i}:go P (.ops ((G,.extr d x i)::its)::k) Q .normal (E σ)=go P (.ops its::k) Q .normal (Ax σ d (J7 i (σ.val x))):=by
 rw[B1 rfl,Yg]
theorem oN{d x}:go P (.ops ((G,.len d x)::its)::k) Q .normal (E σ)=go P (.ops its::k) Q .normal (Ax σ d (Cp σ.rows (σ.val x))):=by
 rw[B1 rfl,Ym]
theorem om{d x}:go P (.ops ((G,.sconv d x)::its)::k) Q .normal (E σ)=go P (.ops its::k) Q .normal (Ax σ d (GM σ.rows (σ.val x))):=by
 rw[B1 rfl,Yv]
theorem ou{d x}:go P (.ops ((G,.slen d x)::its)::k) Q .normal (E σ)=go P (.ops its::k) Q .normal (Ax σ d (Kk (σ.val x))):=by
 rw[B1 rfl,Yx]
theorem oR{d m x y}:go P (.ops ((G,.mm d m x y)::its)::k) Q .normal (E σ)=go P (.ops its::k) Q .normal (Ax σ d (Il m (σ.val x) (σ.val y))):=by
 rw[B1 rfl,Yq]
theorem oP{d f caps}:go P (.ops ((G,.mkf d f caps)::its)::k) Q .normal (E σ)=go P (.ops its::k) Q .normal (Ax σ d ((FH f (caps.map σ.val)).map fun c=> .v (.sc c))):=by
 rw[B1 rfl,Yo]
theorem ow{x y n}:go P (.ops ((G,.store x y n)::its)::k) Q .normal (E σ)=go P (.ops its::k) Q .normal (σ.storeV n (σ.val x) (σ.val y)):=by
 rw[B1 rfl,wS]
theorem nO{d sz b x y}:go P (.ops ((G,.app d sz b x y)::its)::k) Q .normal (E σ)=go P (.ops its::k) Q .normal (σ.appV d sz b (σ.val x) (σ.val y)):=by
 rw[B1 rfl,wN]
theorem oY{d j id sz}:go P (.ops ((G,.ownb d j id sz)::its)::k) Q .normal (E σ)=go P (.ops its::k) Q .normal (σ.step (.ownb d j id sz)):=B1 rfl
theorem UA{id}:go P (.ops ((G,.frz id)::its)::k) Q .normal (E σ)=go P (.ops its::k) Q .normal (σ.step (.frz id)):=B1 rfl
theorem oB{its:L AT}:go P (.frs its::k) Q .normal (E σ)=go P (.fr (D4 its σ):: .dops its::k) Q .normal (E σ):=rfl
theorem oA{b:U}(hb:b=T)(h:go P k Q .normal (E σ)):go P (.fr b::k) Q .normal (E σ):=⟨hb,h⟩
theorem nP{its:L AT}:go P (.dops ((G,G,o)::its)::k) Q .normal (E σ)=go P (.ops [(G,o)]:: .frs its::k) Q .normal (E σ):=rfl
theorem Tk{α:Type}{l:L α}{f:α→U}(h:∀x,f x=T):l.all f=T:=List.all_eq_true.2 fun x _=>h x
def OE(τ σ:St)(N:L V)(o:AOp)(K:St→Prop):Prop:=
 match τ.pure o with
 | some (d,v)=>v.avoids N=T∧K (σ.set d v)
 | none=>match τ.made o with
  | some m=>(match m with | .box _ cs=>cs.all (·.avoids N) | _=>T)=T∧(match σ.make m with
   | some σ'=>K σ'
   | none=>False)
  | none=>False
theorem Q2{K:St→Prop}(hc:o.isCall=F):FY P N o K σ=OE (σ.less N) σ N o K:=by
 cases o<;>first
  | rfl
  | (simp[AOp.isCall] at hc; done)
theorem wO(hc:o.isCall=F)(hg:o.gentle=T):σ.step o=(match σ.pure o with
  | some (d,v)=>E (σ.set d v)
  | none=>match σ.made o with
   | some m=>σ.make m
   | none=>G):=by
 cases o<;>first
  | rfl
  | (simp[AOp.isCall] at hc; done)
  | (simp[AOp.gentle] at hg; done)
theorem dK{K:St→Prop}(hg:o.gentle=T)(hc:o.isCall=F):FY P [] o K σ=AO P o K σ:=by
 cases hc:o.isCall with
 | true=>simp_all
 | false=>
  rw[Q2 hc,Tq (by rintro _ _ _ rfl; simp[AOp.isCall] at hc) (by rintro _ _ _ rfl; simp[AOp.isCall] at hc),wO hc hg];unfold OE;show(match σ.pure o with | some (d,v)=>v.avoids []=T∧K (σ.set d v) | none=>_)=_
  cases hp:σ.pure o with
  | some p=>
   have hav:p.2.avoids []=T:=Tk fun c=>rfl
   simp only[C7,hav,true_and]
  | none=>
   show(match σ.made o with | some m=>_ | none=>False)=_
   cases hm:σ.made o with
   | none=>rfl
   | some m=>
    cases m with
    | box d cs=>
     have hav:cs.all (·.avoids [])=T:=Tk fun c=>rfl
     show(cs.all (·.avoids [])=T∧(match σ.make (.box d cs) with | some σ'=>K σ' | none=>False))=C7 (σ.make (.box d cs)) K
     rw[hav];cases σ.make (.box d cs)<;>simp[C7]
    | row d sz es=>
     show(T=T∧(match σ.make (.row d sz es) with | some σ'=>K σ' | none=>False))=C7 (σ.make (.row d sz es)) K
     cases σ.make (.row d sz es)<;>simp[C7]
theorem Bd{its:L AT}(hg:o.gentle=T)(hc:o.isCall=F):go P (.dops ((E [],G,o)::its)::k) Q .normal (E σ)=go P (.ops [(G,o)]:: .dops its::k) Q .normal (E σ):=
 dK hg hc
def Bp(σ:St)(N:L V):O V→O St→O St
 | some d,E τ=>bif (τ.get d).avoids N then E (σ.set d (τ.get d)) else G
 | _,_=>G
theorem Bu{its:L AT}(hp:o.isPure=T):go P (.dops ((E N,G,o)::its)::k) Q .normal (E σ)=go P (.dops its::k) Q .normal (Bp σ N o.dst ((σ.less N).step o)):=by
 have hc:o.isCall=F:=by cases o<;>first | rfl | (simp[AOp.isPure] at hp; done)
 show FY P N o _ σ=_
 rw[Q2 hc,Yu hp];unfold OE;cases h:(σ.less N).pure o with
 | some p=>
  obtain⟨d,v⟩:=p;rw[(S5 h).1];show(v.avoids N=T∧_)=go P (.dops its::k) Q .normal (bif (((σ.less N).set d v).get d).avoids N then E (σ.set d (((σ.less N).set d v).get d)) else G)
  rw[St.get_set_same];cases v.avoids N with
  | true=>simp[go,AH]
  | false=>simp[go]
 | none=>
  have hm:(σ.less N).made o=G:=by cases o<;>first | rfl | (simp[AOp.isPure] at hp; done)
  show(match (σ.less N).made o with | some m=>_ | none=>False)=_
  rw[hm];cases o.dst<;>rfl
def Wx(N:L V):Mk→U
 | .box _ cs=>cs.all (·.avoids N)
 | _=>T
theorem nl{its:L AT}{m:Mk}(hm:(σ.less N).made o=E m)(hv:Wx N m=T){σ':St}(hmk:σ.make m=E σ')(h:go P (.dops its::k) Q .normal (E σ')) :
  go P (.dops ((E N,G,o)::its)::k) Q .normal (E σ):=by
 have hc:o.isCall=F:=by cases o<;>first | rfl | (simp[St.made] at hm; done)
 show FY P N o _ σ
 rw[Q2 hc];unfold OE;rw[Wo hm];simp only[hm,hmk];cases m with
 | box d cs=>exact⟨hv,h⟩
 | row d sz es=>exact⟨rfl,h⟩
theorem FB{its:L AT}{d f args}{xs:L DV}{rs:L R1}(hf:FC P f xs rs)(h1:(σ.less N).toDVs args=E xs)(h2:CD rs)(h3:σ.fresh d=T)(h4:(rs.flatMap R1.cells).length≤64)(h5:go P (.dops its::k) Q .normal (E (σ.inst d rs))) :
  go P (.dops ((E N,G,.call d f args)::its)::k) Q .normal (E σ):=⟨xs,rs,.inl ⟨h1,.inl h2⟩,hf,h3,h4,h5⟩
theorem nk{its:L AT}{d x args f caps}{xs:L DV}{rs:L R1}(hf:FC P f (xs++caps.map .sc) rs)(h0:BA P f=T)(hx:(σ.less N).toDV ((σ.less N).val x)=E (.sc (.clo f caps)))(h1:(σ.less N).toDVs args=E xs)(h2:CD rs)(h3:σ.fresh d=T)(h4:(rs.flatMap R1.cells).length≤64)
  (h5:go P (.dops its::k) Q .normal (E (σ.inst d rs))):go P (.dops ((E N,G,.callv d x args)::its)::k) Q .normal (E σ):=⟨f,caps,xs,rs,.inl ⟨hx,h1,h2⟩,h0,hf,h3,h4,h5⟩
theorem nj{its:L AT}{d f args}{xs:L DV}{rs:L R1}(hf:FC P f xs rs)(h1:(σ.less N).toIVs args=E xs)(h3:σ.fresh d=T)(h4:(rs.flatMap R1.cells).length≤64)(h5:go P (.dops its::k) Q .normal (E (σ.inst d rs))) :
  go P (.dops ((E N,G,.call d f args)::its)::k) Q .normal (E σ):=⟨xs,rs,.inr h1,hf,h3,h4,h5⟩
end
end Go.Vi
