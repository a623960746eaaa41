/-
The value level. No condition.
-/
import Derived.Test.YthcejlnjploddaaGreatDoorBVi25
namespace Go.Vi
set_option linter.all false
open Bool renaming and_eq_true → W, true → T, false → F
open Option renaming some → E, none → G
open _root_ renaming List → L, Option → O, Bool → U, Nat → V
inductive Fr where
 | code (c:Xi)
 | ops (its:L AItem)
 | dops (its:L AZ)
 | blk (id:V)
 | pick (v:AV) (x y:Xi)
 | gd (v:AV) (want:U) (o:AOp) (its:L AItem)
 | gdd (v:AV) (want:U) (N:O (L V)) (o:AOp) (its:L AZ)
 | fr (b:U)
 | frs (its:L AZ)
 | panF (x:Opd)
 | calF (d:V) (f:FuncId) (args:L Opd)
def C9{α:Type}(o:O α)(f:α→Prop):Prop:=
 match o with
 | some a=>f a
 | none=>False
def BG(v:AV)(X Y Z:Prop):Prop:=
 match v with
 | .v (.sc (.dat (.bool b)))=>if b=T then X else Y
 | .no=>Z
 | _=>False
def Ax(σ:St)(d:V):O AV→O St
 | some v=>E (σ.set d v)
 | none=>G
def CL(σ:St):O V→O St
 | some d=>E (σ.set d .no)
 | none=>G
def mk1(σ:St):O Mk→O St
 | some m=>σ.make m
 | none=>G
def AG(P:Program):L Fr→(Xn→St→Prop)→Xn→St→Prop
 | [],Q,e,σ=>Q e σ
 | .code c::k,Q,.normal,σ=>Ba P c (AG P k Q) σ
 | .ops its::k,Q,.normal,σ=>B7 P its (AG P k Q .normal) σ
 | .dops its::k,Q,.normal,σ=>Ce P its (AG P k Q .normal) σ
 | .pick v x y::k,Q,.normal,σ=>BG v (Ba P x (AG P k Q) σ) (Ba P y (AG P k Q) σ) False
 | .gd v want o its::k,Q,.normal,σ=>BG v (bif want then AS P o (B7 P its (AG P k Q .normal)) σ else C9 o.dst fun d=>B7 P its (AG P k Q .normal) (σ.set d .no))
   (bif want then C9 o.dst fun d=>B7 P its (AG P k Q .normal) (σ.set d .no) else AS P o (B7 P its (AG P k Q .normal)) σ)
   (C9 o.dst fun d=>B7 P its (AG P k Q .normal) (σ.set d .no))
 | .gdd v want N o its::k,Q,.normal,σ=>BG v (bif want then Ce P ((N,G,o)::its) (AG P k Q .normal) σ else C9 o.dst fun d=>Ce P its (AG P k Q .normal) (σ.set d .no))
   (bif want then C9 o.dst fun d=>Ce P its (AG P k Q .normal) (σ.set d .no) else Ce P ((N,G,o)::its) (AG P k Q .normal) σ)
   (C9 o.dst fun d=>Ce P its (AG P k Q .normal) (σ.set d .no))
 | .fr b::k,Q,.normal,σ=>b=T∧AG P k Q .normal σ
 | .frs its::k,Q,.normal,σ=>CV its σ=T∧Ce P its (AG P k Q .normal) σ
 | .panF x::k,Q,.normal,σ=>∃d,σ.val x= .v (.sc (.dat d))∧d.flat=T∧Ti d=T∧AG P k Q (.pan d) σ
 | .calF d f args::k,Q,.normal,σ=>AS P (.call d f args) (AG P k Q .normal) σ∨∃ds pd,σ.toDVs args=E ds∧Lt P f ds pd∧AG P k Q (.pan pd) σ
 | .blk id::k,Q,.exit i,σ=>if i=id then AG P k Q .normal σ else AG P k Q (.exit i) σ
 | _::k,Q,e,σ=>AG P k Q e σ
def go(P:Program)(k:L Fr)(Q:Xn→St→Prop)(e:Xn):O St→Prop
 | some σ=>AG P k Q e σ
 | none=>False
def AOp.isPure:AOp→U
 | .mv .. | .pick .. | .build .. | .load .. | .nilc .. | .bin .. | .beq .. | .geq .. | .un .. | .conv .. | .slc .. | .sslc .. | .faddr .. | .field .. | .iaddr .. | .aaddr .. | .idx .. | .extr .. | .len .. | .slen .. | .sconv .. | .mm .. | .mkf .. | .zsl _ | .mkif .. | .tass .. =>T
 | _=>F
def AOp.isMade:AOp→U
 | .box .. | .alloc .. | .bslice .. | .mksl .. | .zap .. =>T
 | _=>F
def AOp.isCall:AOp→U
 | .call .. | .callv .. =>T
 | .mv .. | .pick .. | .box .. | .alloc .. | .build .. | .bslice .. | .load .. | .store .. | .clr .. | .nilc .. | .bin .. | .beq .. | .geq .. | .un .. | .conv .. | .mksl .. | .slc .. | .sslc .. | .faddr .. | .field .. | .iaddr .. | .aaddr .. | .idx .. | .extr .. | .len .. | .slen .. | .sconv .. | .app .. | .mm .. | .mkf .. | .zsl _ | .zap .. | .mkif .. | .tass .. =>F
 | .drop _ | .own .. | .ownb .. | .ren .. | .frz _ | .frzb _ | .forget _ | .keep .. | .cut _=>F
section
variable {P : Program} {k : L Fr} {Q : Xn → St → Prop} {σ : St} {its : L AItem} {ds : L AZ} {o : AOp} {N : L V}
theorem QC{c:Xi}(h:go P [.code c] Q .normal (E σ)):Ba P c Q σ:=VC c (fun _ _ h=>h) h
theorem qM{e}:go P k Q e G=False:=rfl
theorem qK{e}:go P [] Q e (E σ)=Q e σ:=rfl
theorem qb:go P (.code .skip::k) Q .normal (E σ)=go P k Q .normal (E σ):=rfl
theorem qW:go P (.code (.reg its)::k) Q .normal (E σ)=go P (.ops its::k) Q .normal (E σ):=rfl
theorem pf:go P (.code (.drw ds)::k) Q .normal (E σ)=go P (.fr (CV ds σ):: .dops ds::k) Q .normal (E σ):=rfl
theorem pk:go P (.fr T::k) Q .normal (E σ)=go P k Q .normal (E σ):=by simp[go,AG]
theorem qa{x y:Xi}:go P (.code (.seq x y)::k) Q .normal (E σ)=go P (.code x:: .code y::k) Q .normal (E σ):=by
 simp only[go,AG,Ba];congr 1
 funext e σ'
 cases e<;>simp only[AG]
theorem pN{id:V}{c:Xi}:go P (.code (.block id c)::k) Q .normal (E σ)=go P (.code c:: .blk id::k) Q .normal (E σ):=by
 simp only[go,AG,Ba];congr 1
 funext e σ'
 cases e<;>simp only[AG]
theorem pg{id:V}:go P (.code (.exit id)::k) Q .normal (E σ)=go P k Q (.exit id) (E σ):=rfl
theorem qY:go P (.code .ret::k) Q .normal (E σ)=go P k Q .ret (E σ):=rfl
theorem pS{c:Opd}{x y:Xi}:go P (.code (.cond c x y)::k) Q .normal (E σ)=go P (.pick (σ.val c) x y::k) Q .normal (E σ):=by
 show(match σ.val c with | .v (.sc (.dat (.bool b)))=>if b=T then Ba P x (AG P k Q) σ else Ba P y (AG P k Q) σ | _=>False)=BG (σ.val c) _ _ _
 unfold BG;generalize σ.val c=v
 cases v with
 | v x=>cases x with
  | sc c=>cases c with
   | dat d=>cases d<;>rfl
   | _=>rfl
  | ag=>rfl
 | _=>rfl
theorem qV{x y:Xi}:go P (.pick (.v (.sc (.dat (.bool T)))) x y::k) Q .normal (E σ)=go P (.code x::k) Q .normal (E σ):=by simp[go,AG,BG]
theorem qU{x y:Xi}:go P (.pick (.v (.sc (.dat (.bool F)))) x y::k) Q .normal (E σ)=go P (.code y::k) Q .normal (E σ):=by simp[go,AG,BG]
theorem qQ{x:Opd}:go P (.code (.pan its x)::k) Q .normal (E σ)=go P (.ops its:: .panF x::k) Q .normal (E σ):=rfl
theorem pQ{d f args}:go P (.code (.cal its d f args)::k) Q .normal (E σ)=go P (.ops its:: .calF d f args::k) Q .normal (E σ):=rfl
theorem KX{d f args}(H:go P (.ops [(G,.call d f args)]::k) Q .normal (E σ)):go P (.calF d f args::k) Q .normal (E σ):= .inl H
theorem qS{c:Xi}{d:D}:go P (.code c::k) Q (.pan d) (E σ)=go P k Q (.pan d) (E σ):=rfl
theorem pK{id:V}{d:D}:go P (.blk id::k) Q (.pan d) (E σ)=go P k Q (.pan d) (E σ):=rfl
theorem E3{its:L (L V × AItem)}{τ σ2:St}{ks bs rs:L V}(h0:(σ.kept ks bs rs).pad (its.filterMap fun i=>i.2.2.dst)=σ2)(h1:Ad P its τ its.length (its.map fun _=>F) σ2)(h2:go P k Q .normal (E τ)):go P (.code (.any its)::k) Q .normal (E σ):=
 ⟨ks,bs,rs,τ,h0▸h1,h2⟩
def TT(P:Program)(its:L (L V × AItem))(τ:St)(f:V)(ms:L U)(σ:St):L (L V × AItem)→V→Prop
 | [],_=>True
 | it::r,i=>(ms[i]?=E F→(∀j∈it.1,ms[j]?=E T)→∃pre post:L AItem,pre.all (fun i=>i.2.idle)=T∧post.all (fun i=>i.2.idle)=T∧go P [.ops (pre++it.2::post)] (fun _=>Ad P its τ f (ms.set i T)) .normal (E σ))∧TT P its τ f ms σ r (i+1)
theorem aO{its:L (L V × AItem)}{τ:St}{f:V}{ms:L U}:∀{r:L (L V × AItem)} {n:V},TT P its τ f ms σ r n→∀(i:V) (it:L V × AItem),r[i]?=E it→ms[n+i]?=E F→(∀j∈it.1,ms[j]?=E T)→∃pre post:L AItem,pre.all (fun i=>i.2.idle)=T∧post.all (fun i=>i.2.idle)=T∧go P [.ops (pre++it.2::post)] (fun _=>Ad P its τ f (ms.set (n+i) T)) .normal (E σ)
 | [],_,_,i,it,hi,_,_=>by simp at hi
 | x::r,n,h,0,it,hi,h1,h2=>by
  simp at hi
  subst hi;exact h.1 h1 h2
 | x::r,n,h,i+1,it,hi,h1,h2=>by
  have:=aO h.2 i it (by simpa using hi) (by rw[show n+1+i=n+(i+1) by omega]; exact h1) h2;rw[show n+1+i=n+(i+1) by omega] at this
  exact this
theorem Vv{it:AItem}{post:L AItem}{K:St→Prop}:∀(pre:L AItem) (σ:St),pre.all (fun i=>i.2.idle)=T→B7 P (pre++it::post) K σ→B7 P pre (fun σ=>AK it.1 σ (AS P it.2 (B7 P post K) σ) (match it.2.dst with | some d=>B7 P post K (σ.set d .no) | none=>False)) σ
 | [],_,_,h=>h
 | (g,o)::pre,σ,hp,h=>by
  have hi:o.idle=T:=by simp only[List.all_cons,W] at hp; exact hp.1
  have hp':pre.all (fun i=>i.2.idle)=T:=by simp only[List.all_cons,W] at hp; exact hp.2
  have h':AK g σ (AS P o (B7 P (pre++it::post) K) σ) (match o.dst with | some d=>B7 P (pre++it::post) K (σ.set d .no) | none=>False):=h;show AK g σ (AS P o (B7 P pre _) σ) _
  have hno:o.dst=G:=by cases o<;>first | rfl | (simp[AOp.idle] at hi; done)
  simp only[hno] at h' ⊢
  have key:∀X Y:St→Prop,(∀σ,X σ→Y σ)→AS P o X σ→AS P o Y σ:=fun X Y hXY hx=>by
   cases o<;>first
    | (simp[AOp.idle] at hi; done)
    | (simp only[AS] at hx ⊢; split at hx<;>simp_all)
  have mono:∀{X Y:Prop},(X→Y)→AK g σ X False→AK g σ Y False:=fun hXY hx=>by
   unfold AK at hx ⊢
   cases g with
   | none=>exact hXY hx
   | some g=>
    simp only at hx ⊢
    split
    ·rename_i b hb
     rw[hb] at hx
     simp only at hx
     split at hx
     ·rename_i e
      rw[if_pos e];exact hXY hx
     ·exact hx.elim
    ·rename_i hb
     rw[hb] at hx
     exact hx
    ·rename_i h1 h2
     split at hx
     ·rename_i b hb
      exact h1 b hb
     ·rename_i hb
      exact h2 hb
     ·exact hx
  exact mono (key _ _ fun σ h=>Vv pre σ hp' h) h'
theorem Af{its:L (L V × AItem)}{τ:St}{f:V}{ms:L U}(h:TT P its τ f ms σ its 0):Ad P its τ (f+1) ms σ:=by
 intro i it hi h1 h2;obtain⟨pre,post,hp,hq,this⟩:=aO h i it hi (by simpa using h1) h2;rw[Nat.zero_add] at this
 exact⟨pre,post,hp,hq,Vv pre _ hp this⟩
theorem np{it:AItem}{Q:Xn→St→Prop}(h:go P [.ops [it]] Q .normal (E σ)):∃pre post:L AItem,pre.all (fun i=>i.2.idle)=T∧post.all (fun i=>i.2.idle)=T∧go P [.ops (pre++it::post)] Q .normal (E σ):=⟨[],[],rfl,rfl,h⟩
theorem A5{α:Type}{a b:α}:(bif T then a else b)=a:=rfl
theorem A6{α:Type}{a b:α}:(bif F then a else b)=b:=rfl
theorem hq{ms:L U}{N:L V}{a:U}(hw:∀j∈N,ms[j]?=E T)(j:V)(h:N.elem j=T)(e:ms[j]?=E a):a=T:=by
 have:=hw j (List.elem_iff.1 h);rw[e] at this
 exact Option.some.inj this
theorem hz{ms:L U}{i:V}{a:U}(h:ms[i]?=E F)(e:ms[i]?=E a):a=F:=Option.some.inj (e.symm.trans h)
theorem qR{c:Xi}{i:V}:go P (.code c::k) Q (.exit i) (E σ)=go P k Q (.exit i) (E σ):=rfl
theorem qT{c:Xi}:go P (.code c::k) Q .ret (E σ)=go P k Q .ret (E σ):=rfl
theorem pH{id:V}:go P (.blk id::k) Q .normal (E σ)=go P k Q .normal (E σ):=rfl
theorem pM{id:V}:go P (.blk id::k) Q .ret (E σ)=go P k Q .ret (E σ):=rfl
theorem pJ{id i:V}:go P (.blk id::k) Q (.exit i) (E σ)=go P k Q (bif i==id then .normal else .exit i) (E σ):=by
 by_cases h:i=id
 ·simp[go,AG,h]
 ·have h':(i==id)=F:=by simpa using h
  simp[go,AG,h,h']
theorem qO:go P (.ops []::k) Q .normal (E σ)=go P k Q .normal (E σ):=rfl
theorem pc:go P (.dops []::k) Q .normal (E σ)=go P k Q .normal (E σ):=rfl
theorem Vu{K:St→Prop}(h1:∀d f args,o≠ .call d f args)(h2:∀d x args,o≠ .callv d x args):AS P o K σ=C9 (σ.step o) K:=by
 cases o<;>first
  | rfl
  | (show(match St.step σ _ with | some σ'=>K σ' | none=>False)=C9 (St.step σ _) K; generalize St.step σ _=x; cases x<;>rfl)
  | exact absurd rfl (h1 _ _ _)
  | exact absurd rfl (h2 _ _ _)
theorem am(h:o.isPure=T):σ.step o=(σ.pure o).map fun p=>σ.set p.1 p.2:=by
 cases o<;>first
  | (simp[AOp.isPure] at h; done)
  | skip
 all_goals
  simp only[St.step,St.made];generalize σ.pure _=x
  cases x<;>rfl
theorem xp(h:o.isMade=T):σ.step o=(σ.made o).bind σ.make:=by
 cases o<;>first
  | (simp[AOp.isMade] at h; done)
  | skip
 all_goals
  simp only[St.step,St.pure];generalize σ.made _=x
  cases x<;>rfl
theorem B3(h:o.isCall=F):go P (.ops ((G,o)::its)::k) Q .normal (E σ)=go P (.ops its::k) Q .normal (σ.step o):=by
 show AS P o (B7 P its (AG P k Q .normal)) σ=_
 rw[Vu (by rintro _ _ _ rfl; simp[AOp.isCall] at h) (by rintro _ _ _ rfl; simp[AOp.isCall] at h)];cases σ.step o<;>rfl
def OQ:L V→U
 | []=>T
 | x::r=> !r.contains x&&OQ r
theorem Tu:∀{l:L V},OQ l=T→l.Nodup
 | [],_=>List.nodup_nil
 | x::r,h=>by
  simp only[OQ,W,Bool.not_eq_true',List.contains_eq_mem,decide_eq_false_iff_not] at h;exact List.nodup_cons.2 ⟨h.1,Tu h.2⟩
theorem E4{d f args}{xs:L DV}{rs:L R1}(hf:FC P f xs rs)(h1:σ.toDVs args=E xs)(h2:CC rs)(h3:σ.fresh d=T)(h4:(rs.flatMap R1.cells).length≤64)(h5:go P (.ops its::k) Q .normal (E (σ.inst d rs))) :
  go P (.ops ((G,.call d f args)::its)::k) Q .normal (E σ):= .inl ⟨xs,rs,.inl ⟨h1,.inl h2⟩,hf,h3,h4,h5⟩
theorem KY{d f args}{xs:L DV}{rs:L R1}(hf:FC P f xs rs)(h1:σ.toIVs args=E xs)(h3:σ.fresh d=T)(h4:(rs.flatMap R1.cells).length≤64)(h5:go P (.ops its::k) Q .normal (E (σ.inst d rs))) :
  go P (.ops ((G,.call d f args)::its)::k) Q .normal (E σ):= .inl ⟨xs,rs,.inr h1,hf,h3,h4,h5⟩
theorem QA{d f args}{σ':St}{r:AV}(hf:Dn P f (args.map σ.val) σ σ' r)(h5:go P (.ops its::k) Q .normal (E (σ'.set d r))):go P (.ops ((G,.call d f args)::its)::k) Q .normal (E σ):= .inr (.inr ⟨σ',r,hf,h5⟩)
theorem pR{d x args f caps}{xs:L DV}{rs:L R1}(hf:FC P f (xs++caps.map .sc) rs)(h0:BA P f=T)(hx:σ.toDV (σ.val x)=E (.sc (.clo f caps)))(h1:σ.toDVs args=E xs)(h2:CC rs)(h3:σ.fresh d=T)(h4:(rs.flatMap R1.cells).length≤64)
  (h5:go P (.ops its::k) Q .normal (E (σ.inst d rs))):go P (.ops ((G,.callv d x args)::its)::k) Q .normal (E σ):= .inl ⟨f,caps,xs,rs,.inl ⟨hx,h1,h2⟩,h0,hf,h3,h4,h5⟩
theorem BB(h:o.isPure=T):σ.step o=(σ.pure o).bind fun p=>Ax σ p.1 (E p.2):=by
 rw[am h];cases σ.pure o<;>rfl
theorem BW{d:V}{x:O AV}:((x.map (Prod.mk d)).bind fun p=>Ax σ p.1 (E p.2))=Ax σ d x:=by cases x<;>rfl
theorem aj{d x}:σ.step (.mv d x)=E (σ.set d (σ.val x)):=rfl
theorem al{d c a b}:σ.step (.pick d c a b)=Ax σ d (Lj (σ.val c) (σ.val a) (σ.val b)):=(BB rfl).trans BW
theorem aR{d zs ps}:σ.step (.build d zs ps)=Ax σ d ((Da zs (ps.map fun p=>(p.1,p.2.1,σ.val p.2.2))).map fun cs=> .v (.ag cs)):=by
 rw[BB rfl];simp only[St.pure];cases Da zs (ps.map fun p=>(p.1,p.2.1,σ.val p.2.2))<;>rfl
theorem ab{d x g n}:σ.step (.load d x g n)=Ax σ d (CG σ g n (σ.val x)):=(BB rfl).trans BW
theorem ak{d x}:σ.step (.nilc d x)=Ax σ d (FN (σ.val x)):=(BB rfl).trans BW
theorem aQ{d op x y}:σ.step (.bin d op x y)=Ax σ d (Cw op (σ.val x) (σ.val y)):=(BB rfl).trans BW
theorem aX{d g ks x y}:σ.step (.geq d g ks x y)=Ax σ d (KW g ks (σ.val x) (σ.val y)):=(BB rfl).trans BW
theorem aP{d g x y}:σ.step (.beq d g x y)=Ax σ d (JG g (σ.val x) (σ.val y)):=(BB rfl).trans BW
theorem az{d op x}:σ.step (.un d op x)=Ax σ d (Jx op (σ.val x)):=(BB rfl).trans BW
def Su(k:IntKind):AV→O AV
 | .v (.sc (.dat (.int _ n)))=>E (.v (.sc (.dat (.int k (k.wrap n)))))
 | _=>G
theorem aT{d kd x}:σ.step (.conv d kd x)=Ax σ d (Su kd (σ.val x)):=by
 rw[BB rfl];simp only[St.pure];generalize σ.val x=v
 cases v with
 | v x=>cases x with
  | sc c=>cases c with
   | dat d=>cases d<;>rfl
   | _=>rfl
  | ag=>rfl
 | _=>rfl
theorem ar{d sz x lo hi mx}:σ.step (.slc d sz x lo hi mx)=Ax σ d (Ee σ sz (σ.val x) lo hi mx):=(BB rfl).trans BW
theorem au{d x lo hi}:σ.step (.sslc d x lo hi)=Ax σ d (H5 σ (σ.val x) lo hi):=(BB rfl).trans BW
theorem aV{d x off}:σ.step (.faddr d x off)=Ax σ d (Cm σ.rows off (σ.val x)):=(BB rfl).trans BW
theorem aW{d x off g n}:σ.step (.field d x off g n)=Ax σ d (GO off g n (σ.val x)):=(BB rfl).trans BW
theorem aY{d x i sz}:σ.step (.iaddr d x i sz)=Ax σ d (CW σ.rows sz (σ.val x) (σ.val i)):=(BB rfl).trans BW
theorem aZ{d x i}:σ.step (.idx d x i)=Ax σ d (L0 (σ.val x) (σ.val i)):=(BB rfl).trans BW
theorem af{d t x}:σ.step (.mkif d t x)=Ax σ d (GZ t (σ.val x)):=(BB rfl).trans BW
theorem aw{d x t zc}:σ.step (.tass d x t zc)=Ax σ d (H7 t zc (σ.val x)):=(BB rfl).trans BW
theorem aU{d x i}:σ.step (.extr d x i)=Ax σ d (JS i (σ.val x)):=(BB rfl).trans BW
theorem aa{d x}:σ.step (.len d x)=Ax σ d (E7 σ.rows (σ.val x)):=(BB rfl).trans BW
theorem aq{d x}:σ.step (.sconv d x)=Ax σ d (H4 σ.rows (σ.val x)):=(BB rfl).trans BW
theorem as_{d x}:σ.step (.slen d x)=Ax σ d (Lk (σ.val x)):=(BB rfl).trans BW
theorem ah{d m x y}:σ.step (.mm d m x y)=Ax σ d (Jb m (σ.val x) (σ.val y)):=(BB rfl).trans BW
theorem ae{d f caps}:σ.step (.mkf d f caps)=Ax σ d ((FJ f (caps.map σ.val)).map fun c=> .v (.sc c)):=by
 rw[BB rfl];simp only[St.pure];cases FJ f (caps.map σ.val)<;>rfl
theorem xq(h:o.isMade=T):σ.step o=mk1 σ (σ.made o):=by
 rw[xp h];cases σ.made o<;>rfl
theorem xu{x y n}:σ.step (.store x y n)=σ.storeV n (σ.val x) (σ.val y):=rfl
theorem xl{d sz b x y}:σ.step (.app d sz b x y)=σ.appV d sz b (σ.val x) (σ.val y):=rfl
theorem ZF{d v}:Ax σ d (E v)=E (σ.set d v):=rfl
theorem Vl{t:V}{yes no:Prop}:AK (E (t,T)) σ yes no=BG (σ.get t) yes no no:=by
 simp only[AK,BG];generalize σ.get t=v
 cases v with
 | v x=>cases x with
  | sc c=>cases c with
   | dat d=>cases d<;>rfl
   | _=>rfl
  | ag=>rfl
 | _=>rfl
theorem Vk{t:V}{yes no:Prop}:AK (E (t,F)) σ yes no=BG (σ.get t) no yes no:=by
 simp only[AK,BG];generalize σ.get t=v
 cases v with
 | v x=>cases x with
  | sc c=>cases c with
   | dat d=>cases d with
    | bool b=>cases b<;>simp
    | _=>rfl
   | _=>rfl
  | ag=>rfl
 | _=>rfl
theorem qA{t}:go P (.ops ((E (t,T),o)::its)::k) Q .normal (E σ)=go P (.gd (σ.get t) T o its::k) Q .normal (E σ):=by
 show AK (E (t,T)) σ _ _=_
 rw[Vl];show _=BG _ _ _ _
 simp only[cond_true];congr 1<;>(cases o.dst<;>rfl)
theorem pz{t}:go P (.ops ((E (t,F),o)::its)::k) Q .normal (E σ)=go P (.gd (σ.get t) F o its::k) Q .normal (E σ):=by
 show AK (E (t,F)) σ _ _=_
 rw[Vk];show _=BG _ _ _ _
 simp only[cond_false];congr 1<;>(cases o.dst<;>rfl)
theorem px{b:U}:go P (.gd (.v (.sc (.dat (.bool b)))) b o its::k) Q .normal (E σ)=go P (.ops ((G,o)::its)::k) Q .normal (E σ):=by
 cases b<;>(simp only[go,AG,BG,cond_true,cond_false]; simp[B7,AK])
theorem pw:go P (.gd (.v (.sc (.dat (.bool F)))) T o its::k) Q .normal (E σ)=go P (.ops its::k) Q .normal (CL σ o.dst):=by
 simp only[go,AG,BG,cond_true];cases o.dst<;>simp[C9,CL]
theorem pv:go P (.gd (.v (.sc (.dat (.bool T)))) F o its::k) Q .normal (E σ)=go P (.ops its::k) Q .normal (CL σ o.dst):=by
 simp only[go,AG,BG,cond_false];cases o.dst<;>simp[C9,CL]
theorem qJ{d x}:go P (.ops ((G,.mv d x)::its)::k) Q .normal (E σ)=go P (.ops its::k) Q .normal (E (σ.set d (σ.val x))):=by
 rw[B3 rfl,aj]
theorem qN{d c a b}:go P (.ops ((G,.pick d c a b)::its)::k) Q .normal (E σ)=go P (.ops its::k) Q .normal (Ax σ d (Lj (σ.val c) (σ.val a) (σ.val b))):=by
 rw[B3 rfl,al]
theorem pO{d zs ps}:go P (.ops ((G,.build d zs ps)::its)::k) Q .normal (E σ)=go P (.ops its::k) Q .normal (Ax σ d ((Da zs (ps.map fun p=>(p.1,p.2.1,σ.val p.2.2))).map fun cs=> .v (.ag cs))):=by
 rw[B3 rfl,aR]
theorem qF{d x g n}:go P (.ops ((G,.load d x g n)::its)::k) Q .normal (E σ)=go P (.ops its::k) Q .normal (Ax σ d (CG σ g n (σ.val x))):=by
 rw[B3 rfl,ab]
theorem qL{d x}:go P (.ops ((G,.nilc d x)::its)::k) Q .normal (E σ)=go P (.ops its::k) Q .normal (Ax σ d (FN (σ.val x))):=by
 rw[B3 rfl,ak]
theorem pF{d op x y}:go P (.ops ((G,.bin d op x y)::its)::k) Q .normal (E σ)=go P (.ops its::k) Q .normal (Ax σ d (Cw op (σ.val x) (σ.val y))):=by
 rw[B3 rfl,aQ]
theorem py{d g ks x y}:go P (.ops ((G,.geq d g ks x y)::its)::k) Q .normal (E σ)=go P (.ops its::k) Q .normal (Ax σ d (KW g ks (σ.val x) (σ.val y))):=by
 rw[B3 rfl,aX]
theorem pE{d g x y}:go P (.ops ((G,.beq d g x y)::its)::k) Q .normal (E σ)=go P (.ops its::k) Q .normal (Ax σ d (JG g (σ.val x) (σ.val y))):=by
 rw[B3 rfl,aP]
theorem qh{d op x}:go P (.ops ((G,.un d op x)::its)::k) Q .normal (E σ)=go P (.ops its::k) Q .normal (Ax σ d (Jx op (σ.val x))):=by
 rw[B3 rfl,az]
theorem pT{d kd x}:go P (.ops ((G,.conv d kd x)::its)::k) Q .normal (E σ)=go P (.ops its::k) Q .normal (Ax σ d (Su kd (σ.val x))):=by
 rw[B3 rfl,aT]
theorem qc{d sz x lo hi mx}:go P (.ops ((G,.slc d sz x lo hi mx)::its)::k) Q .normal (E σ)=go P (.ops its::k) Q .normal (Ax σ d (Ee σ sz (σ.val x) lo hi mx)):=by
 rw[B3 rfl,ar]
theorem qe{d x lo hi}:go P (.ops ((G,.sslc d x lo hi)::its)::k) Q .normal (E σ)=go P (.ops its::k) Q .normal (Ax σ d (H5 σ (σ.val x) lo hi)):=by
 rw[B3 rfl,au]
theorem pi{d x off}:go P (.ops ((G,.faddr d x off)::its)::k) Q .normal (E σ)=go P (.ops its::k) Q .normal (Ax σ d (Cm σ.rows off (σ.val x))):=by
 rw[B3 rfl,aV]
theorem pj{d x off g n}:go P (.ops ((G,.field d x off g n)::its)::k) Q .normal (E σ)=go P (.ops its::k) Q .normal (Ax σ d (GO off g n (σ.val x))):=by
 rw[B3 rfl,aW]
theorem qB{d x i sz}:go P (.ops ((G,.iaddr d x i sz)::its)::k) Q .normal (E σ)=go P (.ops its::k) Q .normal (Ax σ d (CW σ.rows sz (σ.val x) (σ.val i))):=by
 rw[B3 rfl,aY]
theorem oz{d x i len sz}:go P (.ops ((G,.aaddr d x i len sz)::its)::k) Q .normal (E σ)=go P (.ops its::k) Q .normal (Ax σ d (Lw len sz (σ.val x) (σ.val i))):=by
 rw[B3 rfl,(BB (o:= .aaddr d x i len sz) rfl).trans BW]
theorem qC{d x i}:go P (.ops ((G,.idx d x i)::its)::k) Q .normal (E σ)=go P (.ops its::k) Q .normal (Ax σ d (L0 (σ.val x) (σ.val i))):=by
 rw[B3 rfl,aZ]
theorem qH{d t x}:go P (.ops ((G,.mkif d t x)::its)::k) Q .normal (E σ)=go P (.ops its::k) Q .normal (Ax σ d (GZ t (σ.val x))):=by
 rw[B3 rfl,af]
theorem qg{d x t zc}:go P (.ops ((G,.tass d x t zc)::its)::k) Q .normal (E σ)=go P (.ops its::k) Q .normal (Ax σ d (H7 t zc (σ.val x))):=by
 rw[B3 rfl,aw]
theorem ph{d x i}:go P (.ops ((G,.extr d x i)::its)::k) Q .normal (E σ)=go P (.ops its::k) Q .normal (Ax σ d (JS i (σ.val x))):=by
 rw[B3 rfl,aU]
theorem qE{d x}:go P (.ops ((G,.len d x)::its)::k) Q .normal (E σ)=go P (.ops its::k) Q .normal (Ax σ d (E7 σ.rows (σ.val x))):=by
 rw[B3 rfl,aa]
theorem qZ{d x}:go P (.ops ((G,.sconv d x)::its)::k) Q .normal (E σ)=go P (.ops its::k) Q .normal (Ax σ d (H4 σ.rows (σ.val x))):=by
 rw[B3 rfl,aq]
theorem qd{d x}:go P (.ops ((G,.slen d x)::its)::k) Q .normal (E σ)=go P (.ops its::k) Q .normal (Ax σ d (Lk (σ.val x))):=by
 rw[B3 rfl,as_]
theorem qI{d m x y}:go P (.ops ((G,.mm d m x y)::its)::k) Q .normal (E σ)=go P (.ops its::k) Q .normal (Ax σ d (Jb m (σ.val x) (σ.val y))):=by
 rw[B3 rfl,ah]
theorem qG{d f caps}:go P (.ops ((G,.mkf d f caps)::its)::k) Q .normal (E σ)=go P (.ops its::k) Q .normal (Ax σ d ((FJ f (caps.map σ.val)).map fun c=> .v (.sc c))):=by
 rw[B3 rfl,ae]
theorem qf{x y n}:go P (.ops ((G,.store x y n)::its)::k) Q .normal (E σ)=go P (.ops its::k) Q .normal (σ.storeV n (σ.val x) (σ.val y)):=by
 rw[B3 rfl,xu]
theorem pC{d sz b x y}:go P (.ops ((G,.app d sz b x y)::its)::k) Q .normal (E σ)=go P (.ops its::k) Q .normal (σ.appV d sz b (σ.val x) (σ.val y)):=by
 rw[B3 rfl,xl]
theorem qP{d j id sz}:go P (.ops ((G,.ownb d j id sz)::its)::k) Q .normal (E σ)=go P (.ops its::k) Q .normal (σ.step (.ownb d j id sz)):=B3 rfl
theorem qX{a b}:go P (.ops ((G,.ren a b)::its)::k) Q .normal (E σ)=go P (.ops its::k) Q .normal (σ.step (.ren a b)):=B3 rfl
theorem pq{id}:go P (.ops ((G,.frz id)::its)::k) Q .normal (E σ)=go P (.ops its::k) Q .normal (σ.step (.frz id)):=B3 rfl
theorem pp{its:L AZ}:go P (.frs its::k) Q .normal (E σ)=go P (.fr (CV its σ):: .dops its::k) Q .normal (E σ):=rfl
theorem pm{b:U}(hb:b=T)(h:go P k Q .normal (E σ)):go P (.fr b::k) Q .normal (E σ):=⟨hb,h⟩
theorem pD{its:L AZ}:go P (.dops ((G,G,o)::its)::k) Q .normal (E σ)=go P (.ops [(G,o)]:: .frs its::k) Q .normal (E σ):=rfl
theorem Vo{α:Type}{l:L α}{f:α→U}(h:∀x,f x=T):l.all f=T:=List.all_eq_true.2 fun x _=>h x
def Qz(τ σ:St)(N:L V)(o:AOp)(K:St→Prop):Prop:=
 match τ.pure o with
 | some (d,v)=>v.avoids N=T∧K (σ.set d v)
 | none=>match τ.made o with
  | some m=>(match m with | .box _ cs=>cs.all (·.avoids N) | _=>T)=T∧(match σ.make m with
   | some σ'=>K σ'
   | none=>False)
  | none=>False
theorem S5{K:St→Prop}(hc:o.isCall=F):G0 P N o K σ=Qz (σ.less N) σ N o K:=by
 cases o<;>first
  | rfl
  | (simp[AOp.isCall] at hc; done)
theorem xo(hc:o.isCall=F)(hg:o.gentle=T):σ.step o=(match σ.pure o with
  | some (d,v)=>E (σ.set d v)
  | none=>match σ.made o with
   | some m=>σ.make m
   | none=>G):=by
 cases o<;>first
  | rfl
  | (simp[AOp.isCall] at hc; done)
  | (simp[AOp.gentle] at hg; done)
theorem ge{K:St→Prop}(hg:o.gentle=T)(hc:o.isCall=F):G0 P [] o K σ=AS P o K σ:=by
 cases hc:o.isCall with
 | true=>simp_all
 | false=>
  rw[S5 hc,Vu (by rintro _ _ _ rfl; simp[AOp.isCall] at hc) (by rintro _ _ _ rfl; simp[AOp.isCall] at hc),xo hc hg];unfold Qz;show(match σ.pure o with | some (d,v)=>v.avoids []=T∧K (σ.set d v) | none=>_)=_
  cases hp:σ.pure o with
  | some p=>
   have hav:p.2.avoids []=T:=Vo fun c=>rfl
   simp only[C9,hav,true_and]
  | none=>
   show(match σ.made o with | some m=>_ | none=>False)=_
   cases hm:σ.made o with
   | none=>rfl
   | some m=>
    cases m with
    | box d cs=>
     have hav:cs.all (·.avoids [])=T:=Vo fun c=>rfl
     show(cs.all (·.avoids [])=T∧(match σ.make (.box d cs) with | some σ'=>K σ' | none=>False))=C9 (σ.make (.box d cs)) K
     rw[hav];cases σ.make (.box d cs)<;>simp[C9]
    | row d sz es=>
     show(T=T∧(match σ.make (.row d sz es) with | some σ'=>K σ' | none=>False))=C9 (σ.make (.row d sz es)) K
     cases σ.make (.row d sz es)<;>simp[C9]
theorem Bc{its:L AZ}(hg:o.gentle=T)(hc:o.isCall=F):go P (.dops ((E [],G,o)::its)::k) Q .normal (E σ)=go P (.ops [(G,o)]:: .dops its::k) Q .normal (E σ):=
 ge hg hc
def Br(σ:St)(N:L V):O V→O St→O St
 | some d,E τ=>bif (τ.get d).avoids N then E (σ.set d (τ.get d)) else G
 | _,_=>G
theorem Bu{its:L AZ}(hp:o.isPure=T):go P (.dops ((E N,G,o)::its)::k) Q .normal (E σ)=go P (.dops its::k) Q .normal (Br σ N o.dst ((σ.less N).step o)):=by
 have hc:o.isCall=F:=by cases o<;>first | rfl | (simp[AOp.isPure] at hp; done)
 show G0 P N o _ σ=_
 rw[S5 hc,am hp];unfold Qz;cases h:(σ.less N).pure o with
 | some p=>
  obtain⟨d,v⟩:=p;rw[(TJ h).1];show(v.avoids N=T∧_)=go P (.dops its::k) Q .normal (bif (((σ.less N).set d v).get d).avoids N then E (σ.set d (((σ.less N).set d v).get d)) else G)
  rw[St.get_set_same];cases v.avoids N with
  | true=>simp[go,AG]
  | false=>simp[go]
 | none=>
  have hm:(σ.less N).made o=G:=by cases o<;>first | rfl | (simp[AOp.isPure] at hp; done)
  show(match (σ.less N).made o with | some m=>_ | none=>False)=_
  rw[hm];cases o.dst<;>rfl
def Z9(N:L V):Mk→U
 | .box _ cs=>cs.all (·.avoids N)
 | _=>T
theorem pZ{its:L AZ}{m:Mk}(hm:(σ.less N).made o=E m)(hv:Z9 N m=T){σ':St}(hmk:σ.make m=E σ')(h:go P (.dops its::k) Q .normal (E σ')) :
  go P (.dops ((E N,G,o)::its)::k) Q .normal (E σ):=by
 have hc:o.isCall=F:=by cases o<;>first | rfl | (simp[St.made] at hm; done)
 show G0 P N o _ σ
 rw[S5 hc];unfold Qz;rw[Z1 hm];simp only[hm,hmk];cases m with
 | box d cs=>exact⟨hv,h⟩
 | row d sz es=>exact⟨rfl,h⟩
theorem O4{its:L AZ}{d f args}{xs:L DV}{rs:L R1}(hf:FC P f xs rs)(h1:(σ.less N).toDVs args=E xs)(h2:CC rs)(h3:σ.fresh d=T)(h4:(rs.flatMap R1.cells).length≤64)(h5:go P (.dops its::k) Q .normal (E (σ.inst d rs))) :
  go P (.dops ((E N,G,.call d f args)::its)::k) Q .normal (E σ):=⟨xs,rs,.inl ⟨h1,.inl h2⟩,hf,h3,h4,h5⟩
theorem pY{its:L AZ}{d x args f caps}{xs:L DV}{rs:L R1}(hf:FC P f (xs++caps.map .sc) rs)(h0:BA P f=T)(hx:(σ.less N).toDV ((σ.less N).val x)=E (.sc (.clo f caps)))(h1:(σ.less N).toDVs args=E xs)(h2:CC rs)(h3:σ.fresh d=T)(h4:(rs.flatMap R1.cells).length≤64)
  (h5:go P (.dops its::k) Q .normal (E (σ.inst d rs))):go P (.dops ((E N,G,.callv d x args)::its)::k) Q .normal (E σ):=⟨f,caps,xs,rs,.inl ⟨hx,h1,h2⟩,h0,hf,h3,h4,h5⟩
theorem pX{its:L AZ}{d f args}{xs:L DV}{rs:L R1}(hf:FC P f xs rs)(h1:(σ.less N).toIVs args=E xs)(h3:σ.fresh d=T)(h4:(rs.flatMap R1.cells).length≤64)(h5:go P (.dops its::k) Q .normal (E (σ.inst d rs))) :
  go P (.dops ((E N,G,.call d f args)::its)::k) Q .normal (E σ):=⟨xs,rs,.inr h1,hf,h3,h4,h5⟩
end
end Go.Vi
