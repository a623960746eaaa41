/-
The value level. No condition.
-/
import Derived.Test.YtmgfndipofbbaaaGreatOVi25
namespace Go.Vi
set_option linter.all false
open Bool renaming and_eq_true → V, true → T, false → F
open Option renaming some → E, none → G
open _root_ renaming List → H, Option → L, Bool → O, Nat → U
inductive Fr where
 | code (c:X0)
 | ops (its:H AItem)
 | dops (its:H Bk)
 | blk (id:U)
 | pick (v:AV) (x y:X0)
 | gd (v:AV) (want:O) (o:AOp) (its:H AItem)
 | gdd (v:AV) (want:O) (N:L (H U)) (o:AOp) (its:H Bk)
 | fr (b:O)
 | frs (its:H Bk)
 | panF (x:Opd)
 | calF (d:U) (f:FuncId) (args:H Opd)
def Cg{α:Type}(o:L α)(f:α→Prop):Prop:=
 match o with
 | some a=>f a
 | none=>False
def BR(v:AV)(X Y Z:Prop):Prop:=
 match v with
 | .v (.sc (.dat (.bool b)))=>if b=T then X else Y
 | .no=>Z
 | _=>False
def AR(σ:St)(d:U):L AV→L St
 | some v=>E (σ.set d v)
 | none=>G
def CS(σ:St):L U→L St
 | some d=>E (σ.set d .no)
 | none=>G
def mk1(σ:St):L Mk→L St
 | some m=>σ.make m
 | none=>G
def B0(P:Program):H Fr→(Xl→St→Prop)→Xl→St→Prop
 | [],Q,e,σ=>Q e σ
 | .code c::k,Q,.normal,σ=>Bo P c (B0 P k Q) σ
 | .ops its::k,Q,.normal,σ=>Bq P its (B0 P k Q .normal) σ
 | .dops its::k,Q,.normal,σ=>Cm P its (B0 P k Q .normal) σ
 | .pick v x y::k,Q,.normal,σ=>BR v (Bo P x (B0 P k Q) σ) (Bo P y (B0 P k Q) σ) False
 | .gd v want o its::k,Q,.normal,σ=>BR v (bif want then Bc P o (Bq P its (B0 P k Q .normal)) σ else Cg o.dst fun d=>Bq P its (B0 P k Q .normal) (σ.set d .no))
   (bif want then Cg o.dst fun d=>Bq P its (B0 P k Q .normal) (σ.set d .no) else Bc P o (Bq P its (B0 P k Q .normal)) σ)
   (Cg o.dst fun d=>Bq P its (B0 P k Q .normal) (σ.set d .no))
 | .gdd v want N o its::k,Q,.normal,σ=>BR v (bif want then Cm P ((N,G,o)::its) (B0 P k Q .normal) σ else Cg o.dst fun d=>Cm P its (B0 P k Q .normal) (σ.set d .no))
   (bif want then Cg o.dst fun d=>Cm P its (B0 P k Q .normal) (σ.set d .no) else Cm P ((N,G,o)::its) (B0 P k Q .normal) σ)
   (Cg o.dst fun d=>Cm P its (B0 P k Q .normal) (σ.set d .no))
 | .fr b::k,Q,.normal,σ=>b=T∧B0 P k Q .normal σ
 | .frs its::k,Q,.normal,σ=>D2 its σ=T∧Cm P its (B0 P k Q .normal) σ
 | .panF x::k,Q,.normal,σ=>∃d,σ.val x= .v (.sc (.dat d))∧d.flat=T∧Wc d=T∧B0 P k Q (.pan d) σ
 | .calF d f args::k,Q,.normal,σ=>Bc P (.call d f args) (B0 P k Q .normal) σ∨∃ds pd,σ.toDVs args=E ds∧KZ P f ds pd∧B0 P k Q (.pan pd) σ
 | .blk id::k,Q,.exit i,σ=>if i=id then B0 P k Q .normal σ else B0 P k Q (.exit i) σ
 | _::k,Q,e,σ=>B0 P k Q e σ
def go(P:Program)(k:H Fr)(Q:Xl→St→Prop)(e:Xl):L St→Prop
 | some σ=>B0 P k Q e σ
 | none=>False
def AOp.isPure:AOp→O
 | .mv .. | .pick .. | .build .. | .load .. | .nilc .. | .bin .. | .beq .. | .geq .. | .un .. | .conv .. | .slc .. | .sslc .. | .faddr .. | .field .. | .iaddr .. | .aaddr .. | .idx .. | .extr .. | .len .. | .slen .. | .sconv .. | .mm .. | .mkf .. | .zsl _ | .mkif .. | .tass .. =>T
 | _=>F
def AOp.isMade:AOp→O
 | .box .. | .alloc .. | .bslice .. | .mksl .. | .zap .. =>T
 | _=>F
def AOp.isCall:AOp→O
 | .call .. | .callv .. =>T
 | .mv .. | .pick .. | .box .. | .alloc .. | .build .. | .bslice .. | .load .. | .store .. | .clr .. | .nilc .. | .bin .. | .beq .. | .geq .. | .un .. | .conv .. | .mksl .. | .slc .. | .sslc .. | .faddr .. | .field .. | .iaddr .. | .aaddr .. | .idx .. | .extr .. | .len .. | .slen .. | .sconv .. | .app .. | .mm .. | .mkf .. | .zsl _ | .zap .. | .mkif .. | .tass .. =>F
 | .drop _ | .own .. | .ownb .. | .ren .. | .frz _ | .frzb _ | .forget _ | .keep .. | .cut _=>F
section
variable {P : Program} {k : H Fr} {Q : Xl → St → Prop} {σ : St} {its : H AItem} {ds : H Bk} {o : AOp} {N : H U}
theorem NZ{c:X0}(h:go P [.code c] Q .normal (E σ)):Bo P c Q σ:=YC c (fun _ _ h=>h) h
theorem vz{e}:go P k Q e G=False:=rfl
theorem vu{e}:go P [] Q e (E σ)=Q e σ:=rfl
theorem wN:go P (.code .skip::k) Q .normal (E σ)=go P k Q .normal (E σ):=rfl
theorem wJ:go P (.code (.reg its)::k) Q .normal (E σ)=go P (.ops its::k) Q .normal (E σ):=rfl
theorem vP:go P (.code (.drw ds)::k) Q .normal (E σ)=go P (.fr (D2 ds σ):: .dops ds::k) Q .normal (E σ):=rfl
theorem vU:go P (.fr T::k) Q .normal (E σ)=go P k Q .normal (E σ):=by simp[go,B0]
theorem wM{x y:X0}:go P (.code (.seq x y)::k) Q .normal (E σ)=go P (.code x:: .code y::k) Q .normal (E σ):=by
 simp only[go,B0,Bo];congr 1
 funext e σ'
 cases e<;>simp only[B0]
theorem vD{id:U}{c:X0}:go P (.code (.block id c)::k) Q .normal (E σ)=go P (.code c:: .blk id::k) Q .normal (E σ):=by
 simp only[go,B0,Bo];congr 1
 funext e σ'
 cases e<;>simp only[B0]
theorem vQ{id:U}:go P (.code (.exit id)::k) Q .normal (E σ)=go P k Q (.exit id) (E σ):=rfl
theorem wK:go P (.code .ret::k) Q .normal (E σ)=go P k Q .ret (E σ):=rfl
theorem vK{c:Opd}{x y:X0}:go P (.code (.cond c x y)::k) Q .normal (E σ)=go P (.pick (σ.val c) x y::k) Q .normal (E σ):=by
 show(match σ.val c with | .v (.sc (.dat (.bool b)))=>if b=T then Bo P x (B0 P k Q) σ else Bo P y (B0 P k Q) σ | _=>False)=BR (σ.val c) _ _ _
 unfold BR;generalize σ.val c=v
 cases v with
 | v x=>cases x with
  | sc c=>cases c with
   | dat d=>cases d<;>rfl
   | _=>rfl
  | ag=>rfl
 | _=>rfl
theorem wI{x y:X0}:go P (.pick (.v (.sc (.dat (.bool T)))) x y::k) Q .normal (E σ)=go P (.code x::k) Q .normal (E σ):=by simp[go,B0,BR]
theorem wH{x y:X0}:go P (.pick (.v (.sc (.dat (.bool F)))) x y::k) Q .normal (E σ)=go P (.code y::k) Q .normal (E σ):=by simp[go,B0,BR]
theorem wD{x:Opd}:go P (.code (.pan its x)::k) Q .normal (E σ)=go P (.ops its:: .panF x::k) Q .normal (E σ):=rfl
theorem vG{d f args}:go P (.code (.cal its d f args)::k) Q .normal (E σ)=go P (.ops its:: .calF d f args::k) Q .normal (E σ):=rfl
theorem wF{c:X0}{d:D}:go P (.code c::k) Q (.pan d) (E σ)=go P k Q (.pan d) (E σ):=rfl
theorem vB{id:U}{d:D}:go P (.blk id::k) Q (.pan d) (E σ)=go P k Q (.pan d) (E σ):=rfl
theorem W1{its:H (H U × AItem)}{τ σ2:St}{ks bs rs:H U}(h0:(σ.kept ks bs rs).pad (its.filterMap fun i=>i.2.2.dst)=σ2)(h1:Ce P its τ its.length (its.map fun _=>F) σ2)(h2:go P k Q .normal (E τ)):go P (.code (.any its)::k) Q .normal (E σ):=
 ⟨ks,bs,rs,τ,h0▸h1,h2⟩
def WU(P:Program)(its:H (H U × AItem))(τ:St)(f:U)(ms:H O)(σ:St):H (H U × AItem)→U→Prop
 | [],_=>True
 | it::r,i=>(ms[i]?=E F→(∀j∈it.1,ms[j]?=E T)→∃pre post:H AItem,pre.all (fun i=>i.2.idle)=T∧post.all (fun i=>i.2.idle)=T∧go P [.ops (pre++it.2::post)] (fun _=>Ce P its τ f (ms.set i T)) .normal (E σ))∧WU P its τ f ms σ r (i+1)
theorem gl{its:H (H U × AItem)}{τ:St}{f:U}{ms:H O}:∀{r:H (H U × AItem)} {n:U},WU P its τ f ms σ r n→∀(i:U) (it:H U × AItem),r[i]?=E it→ms[n+i]?=E F→(∀j∈it.1,ms[j]?=E T)→∃pre post:H AItem,pre.all (fun i=>i.2.idle)=T∧post.all (fun i=>i.2.idle)=T∧go P [.ops (pre++it.2::post)] (fun _=>Ce P its τ f (ms.set (n+i) T)) .normal (E σ)
 | [],_,_,i,it,hi,_,_=>by simp at hi
 | x::r,n,h,0,it,hi,h1,h2=>by
  simp at hi
  subst hi;exact h.1 h1 h2
 | x::r,n,h,i+1,it,hi,h1,h2=>by
  have:=gl h.2 i it (by simpa using hi) (by rw[show n+1+i=n+(i+1) by omega]; exact h1) h2;rw[show n+1+i=n+(i+1) by omega] at this
  exact this
theorem Yw{it:AItem}{post:H AItem}{K:St→Prop}:∀(pre:H AItem) (σ:St),pre.all (fun i=>i.2.idle)=T→Bq P (pre++it::post) K σ→Bq P pre (fun σ=>B5 it.1 σ (Bc P it.2 (Bq P post K) σ) (match it.2.dst with | some d=>Bq P post K (σ.set d .no) | none=>False)) σ
 | [],_,_,h=>h
 | (g,o)::pre,σ,hp,h=>by
  have hi:o.idle=T:=by simp only[List.all_cons,V] at hp; exact hp.1
  have hp':pre.all (fun i=>i.2.idle)=T:=by simp only[List.all_cons,V] at hp; exact hp.2
  have h':B5 g σ (Bc P o (Bq P (pre++it::post) K) σ) (match o.dst with | some d=>Bq P (pre++it::post) K (σ.set d .no) | none=>False):=h;show B5 g σ (Bc P o (Bq P pre _) σ) _
  have hno:o.dst=G:=by cases o<;>first | rfl | (simp[AOp.idle] at hi; done)
  simp only[hno] at h' ⊢
  have key:∀X Y:St→Prop,(∀σ,X σ→Y σ)→Bc P o X σ→Bc P o Y σ:=fun X Y hXY hx=>by
   cases o<;>first
    | (simp[AOp.idle] at hi; done)
    | (simp only[Bc] at hx ⊢; split at hx<;>simp_all)
  have mono:∀{X Y:Prop},(X→Y)→B5 g σ X False→B5 g σ Y False:=fun hXY hx=>by
   unfold B5 at hx ⊢
   cases g with
   | none=>exact hXY hx
   | some g=>
    simp only at hx ⊢
    split
    ·rename_i b hb
     rw[hb] at hx
     simp only at hx
     split at hx
     ·rename_i e
      rw[if_pos e];exact hXY hx
     ·exact hx.elim
    ·rename_i hb
     rw[hb] at hx
     exact hx
    ·rename_i h1 h2
     split at hx
     ·rename_i b hb
      exact h1 b hb
     ·rename_i hb
      exact h2 hb
     ·exact hx
  exact mono (key _ _ fun σ h=>Yw pre σ hp' h) h'
theorem EI{its:H (H U × AItem)}{τ:St}{f:U}{ms:H O}(h:WU P its τ f ms σ its 0):Ce P its τ (f+1) ms σ:=by
 intro i it hi h1 h2;obtain⟨pre,post,hp,hq,this⟩:=gl h i it hi (by simpa using h1) h2;rw[Nat.zero_add] at this
 exact⟨pre,post,hp,hq,Yw pre _ hp this⟩
theorem np{it:AItem}{Q:Xl→St→Prop}(h:go P [.ops [it]] Q .normal (E σ)):∃pre post:H AItem,pre.all (fun i=>i.2.idle)=T∧post.all (fun i=>i.2.idle)=T∧go P [.ops (pre++it::post)] Q .normal (E σ):=⟨[],[],rfl,rfl,h⟩
theorem Cb{α:Type}{a b:α}:(bif T then a else b)=a:=rfl
theorem Cw{α:Type}{a b:α}:(bif F then a else b)=b:=rfl
theorem hq{ms:H O}{N:H U}{a:O}(hw:∀j∈N,ms[j]?=E T)(j:U)(h:N.elem j=T)(e:ms[j]?=E a):a=T:=by
 have:=hw j (List.elem_iff.1 h);rw[e] at this
 exact Option.some.inj this
theorem hz{ms:H O}{i:U}{a:O}(h:ms[i]?=E F)(e:ms[i]?=E a):a=F:=Option.some.inj (e.symm.trans h)
theorem wE{c:X0}{i:U}:go P (.code c::k) Q (.exit i) (E σ)=go P k Q (.exit i) (E σ):=rfl
theorem wG{c:X0}:go P (.code c::k) Q .ret (E σ)=go P k Q .ret (E σ):=rfl
theorem uz{id:U}:go P (.blk id::k) Q .normal (E σ)=go P k Q .normal (E σ):=rfl
theorem vC{id:U}:go P (.blk id::k) Q .ret (E σ)=go P k Q .ret (E σ):=rfl
theorem vA{id i:U}:go P (.blk id::k) Q (.exit i) (E σ)=go P k Q (bif i==id then .normal else .exit i) (E σ):=by
 by_cases h:i=id
 ·simp[go,B0,h]
 ·have h':(i==id)=F:=by simpa using h
  simp[go,B0,h,h']
theorem wB:go P (.ops []::k) Q .normal (E σ)=go P k Q .normal (E σ):=rfl
theorem vO:go P (.dops []::k) Q .normal (E σ)=go P k Q .normal (E σ):=rfl
theorem Yv{K:St→Prop}(h1:∀d f args,o≠ .call d f args)(h2:∀d x args,o≠ .callv d x args):Bc P o K σ=Cg (σ.step o) K:=by
 cases o<;>first
  | rfl
  | (show(match St.step σ _ with | some σ'=>K σ' | none=>False)=Cg (St.step σ _) K; generalize St.step σ _=x; cases x<;>rfl)
  | exact absurd rfl (h1 _ _ _)
  | exact absurd rfl (h2 _ _ _)
theorem iA(h:o.isPure=T):σ.step o=(σ.pure o).map fun p=>σ.set p.1 p.2:=by
 cases o<;>first
  | (simp[AOp.isPure] at h; done)
  | skip
 all_goals
  simp only[St.step,St.made];generalize σ.pure _=x
  cases x<;>rfl
theorem A46(h:o.isMade=T):σ.step o=(σ.made o).bind σ.make:=by
 cases o<;>first
  | (simp[AOp.isMade] at h; done)
  | skip
 all_goals
  simp only[St.step,St.pure];generalize σ.made _=x
  cases x<;>rfl
theorem Bm(h:o.isCall=F):go P (.ops ((G,o)::its)::k) Q .normal (E σ)=go P (.ops its::k) Q .normal (σ.step o):=by
 show Bc P o (Bq P its (B0 P k Q .normal)) σ=_
 rw[Yv (by rintro _ _ _ rfl; simp[AOp.isCall] at h) (by rintro _ _ _ rfl; simp[AOp.isCall] at h)];cases σ.step o<;>rfl
def SW:H U→O
 | []=>T
 | x::r=> !r.contains x&&SW r
theorem fp:∀{l:H U},SW l=T→l.Nodup
 | [],_=>List.nodup_nil
 | x::r,h=>by
  simp only[SW,V,Bool.not_eq_true',List.contains_eq_mem,decide_eq_false_iff_not] at h;exact List.nodup_cons.2 ⟨h.1,fp h.2⟩
theorem B8{d f args}{xs:H DV}{rs:H R1}(hf:FC P f xs rs)(h1:σ.toDVs args=E xs)(h2:De rs)(h3:σ.fresh d=T)(h4:(rs.flatMap R1.cells).length≤64)(h5:go P (.ops its::k) Q .normal (E (σ.inst d rs))) :
  go P (.ops ((G,.call d f args)::its)::k) Q .normal (E σ):= .inl ⟨xs,rs,.inl ⟨h1,.inl h2⟩,hf,h3,h4,h5⟩
theorem W3{d f args}{xs:H DV}{rs:H R1}(hf:FC P f xs rs)(h1:σ.toIVs args=E xs)(h3:σ.fresh d=T)(h4:(rs.flatMap R1.cells).length≤64)(h5:go P (.ops its::k) Q .normal (E (σ.inst d rs))) :
  go P (.ops ((G,.call d f args)::its)::k) Q .normal (E σ):= .inl ⟨xs,rs,.inr h1,hf,h3,h4,h5⟩
theorem CW{d f args}{ids:H U}{xs:H XV}{R0 R1:AB}{r:D}(hf:Cj P f xs R0 R1 r)(h0:SW ids=T)(h1:σ.toXVs ids args=E xs)(h2:CE σ.rows ids=E R0)(h3:Du R0)(h4:DE R0 R1=T)(h5:go P (.ops its::k) Q .normal (E (σ.instX d ids R1 r))) :
  go P (.ops ((G,.call d f args)::its)::k) Q .normal (E σ):= .inr (.inl ⟨ids,xs,R0,R1,r,⟨fp h0,h1,h2,h3,h4⟩,hf,h5⟩)
theorem W4{d f args}{σ':St}{r:AV}(hf:DI P f (args.map σ.val) σ σ' r)(h5:go P (.ops its::k) Q .normal (E (σ'.set d r))):go P (.ops ((G,.call d f args)::its)::k) Q .normal (E σ):= .inr (.inr ⟨σ',r,hf,h5⟩)
theorem vI{d x args f caps}{xs:H DV}{rs:H R1}(hf:FC P f (xs++caps.map .sc) rs)(h0:D5 P f=T)(hx:σ.toDV (σ.val x)=E (.sc (.clo f caps)))(h1:σ.toDVs args=E xs)(h2:De rs)(h3:σ.fresh d=T)(h4:(rs.flatMap R1.cells).length≤64)
  (h5:go P (.ops its::k) Q .normal (E (σ.inst d rs))):go P (.ops ((G,.callv d x args)::its)::k) Q .normal (E σ):=⟨f,caps,xs,rs,.inl ⟨hx,h1,h2⟩,h0,hf,h3,h4,h5⟩
theorem BM(h:o.isPure=T):σ.step o=(σ.pure o).bind fun p=>AR σ p.1 (E p.2):=by
 rw[iA h];cases σ.pure o<;>rfl
theorem Ca{d:U}{x:L AV}:((x.map (Prod.mk d)).bind fun p=>AR σ p.1 (E p.2))=AR σ d x:=by cases x<;>rfl
theorem hP{d x}:σ.step (.mv d x)=E (σ.set d (σ.val x)):=rfl
theorem hZ{d c a b}:σ.step (.pick d c a b)=AR σ d (KQ (σ.val c) (σ.val a) (σ.val b)):=(BM rfl).trans Ca
theorem gp{d zs ps}:σ.step (.build d zs ps)=AR σ d ((Dd zs (ps.map fun p=>(p.1,p.2.1,σ.val p.2.2))).map fun cs=> .v (.ag cs)):=by
 rw[BM rfl];simp only[St.pure];cases Dd zs (ps.map fun p=>(p.1,p.2.1,σ.val p.2.2))<;>rfl
theorem hF{d x g n}:σ.step (.load d x g n)=AR σ d (CO σ g n (σ.val x)):=(BM rfl).trans Ca
theorem hU{d x}:σ.step (.nilc d x)=AR σ d (Fp (σ.val x)):=(BM rfl).trans Ca
theorem gn{d op x y}:σ.step (.bin d op x y)=AR σ d (CK op (σ.val x) (σ.val y)):=(BM rfl).trans Ca
theorem gx{d g ks x y}:σ.step (.geq d g ks x y)=AR σ d (Kr g ks (σ.val x) (σ.val y)):=(BM rfl).trans Ca
theorem gm{d g x y}:σ.step (.beq d g x y)=AR σ d (Jf g (σ.val x) (σ.val y)):=(BM rfl).trans Ca
theorem iG{d op x}:σ.step (.un d op x)=AR σ d (J5 op (σ.val x)):=(BM rfl).trans Ca
def VO(k:IntKind):AV→L AV
 | .v (.sc (.dat (.int _ n)))=>E (.v (.sc (.dat (.int k (k.wrap n)))))
 | _=>G
theorem gr{d kd x}:σ.step (.conv d kd x)=AR σ d (VO kd (σ.val x)):=by
 rw[BM rfl];simp only[St.pure];generalize σ.val x=v
 cases v with
 | v x=>cases x with
  | sc c=>cases c with
   | dat d=>cases d<;>rfl
   | _=>rfl
  | ag=>rfl
 | _=>rfl
theorem iC{d sz x lo hi mx}:σ.step (.slc d sz x lo hi mx)=AR σ d (DZ σ sz (σ.val x) lo hi mx):=(BM rfl).trans Ca
theorem iE{d x lo hi}:σ.step (.sslc d x lo hi)=AR σ d (GA σ (σ.val x) lo hi):=(BM rfl).trans Ca
theorem gu{d x off}:σ.step (.faddr d x off)=AR σ d (CA σ.rows off (σ.val x)):=(BM rfl).trans Ca
theorem gw{d x off g n}:σ.step (.field d x off g n)=AR σ d (Gi off g n (σ.val x)):=(BM rfl).trans Ca
theorem gy{d x i sz}:σ.step (.iaddr d x i sz)=AR σ d (D4 σ.rows sz (σ.val x) (σ.val i)):=(BM rfl).trans Ca
theorem gz{d x i}:σ.step (.idx d x i)=AR σ d (Kt (σ.val x) (σ.val i)):=(BM rfl).trans Ca
theorem hI{d t x}:σ.step (.mkif d t x)=AR σ d (Gs t (σ.val x)):=(BM rfl).trans Ca
theorem iF{d x t zc}:σ.step (.tass d x t zc)=AR σ d (KT t zc (σ.val x)):=(BM rfl).trans Ca
theorem gt{d x i}:σ.step (.extr d x i)=AR σ d (Jx i (σ.val x)):=(BM rfl).trans Ca
theorem hD{d x}:σ.step (.len d x)=AR σ d (DT σ.rows (σ.val x)):=(BM rfl).trans Ca
theorem iB{d x}:σ.step (.sconv d x)=AR σ d (Gy σ.rows (σ.val x)):=(BM rfl).trans Ca
theorem iD{d x}:σ.step (.slen d x)=AR σ d (KR (σ.val x)):=(BM rfl).trans Ca
theorem hO{d m x y}:σ.step (.mm d m x y)=AR σ d (IP m (σ.val x) (σ.val y)):=(BM rfl).trans Ca
theorem hH{d f caps}:σ.step (.mkf d f caps)=AR σ d ((Fl f (caps.map σ.val)).map fun c=> .v (.sc c)):=by
 rw[BM rfl];simp only[St.pure];cases Fl f (caps.map σ.val)<;>rfl
theorem A47(h:o.isMade=T):σ.step o=mk1 σ (σ.made o):=by
 rw[A46 h];cases σ.made o<;>rfl
theorem A49{x y n}:σ.step (.store x y n)=σ.storeV n (σ.val x) (σ.val y):=rfl
theorem A44{d sz b x y}:σ.step (.app d sz b x y)=σ.appV d sz b (σ.val x) (σ.val y):=rfl
theorem gK{d v}:AR σ d (E v)=E (σ.set d v):=rfl
theorem Yn{t:U}{yes no:Prop}:B5 (E (t,T)) σ yes no=BR (σ.get t) yes no no:=by
 simp only[B5,BR];generalize σ.get t=v
 cases v with
 | v x=>cases x with
  | sc c=>cases c with
   | dat d=>cases d<;>rfl
   | _=>rfl
  | ag=>rfl
 | _=>rfl
theorem Ym{t:U}{yes no:Prop}:B5 (E (t,F)) σ yes no=BR (σ.get t) no yes no:=by
 simp only[B5,BR];generalize σ.get t=v
 cases v with
 | v x=>cases x with
  | sc c=>cases c with
   | dat d=>cases d with
    | bool b=>cases b<;>simp
    | _=>rfl
   | _=>rfl
  | ag=>rfl
 | _=>rfl
theorem vh{t}:go P (.ops ((E (t,T),o)::its)::k) Q .normal (E σ)=go P (.gd (σ.get t) T o its::k) Q .normal (E σ):=by
 show B5 (E (t,T)) σ _ _=_
 rw[Yn];show _=BR _ _ _ _
 simp only[cond_true];congr 1<;>(cases o.dst<;>rfl)
theorem vg{t}:go P (.ops ((E (t,F),o)::its)::k) Q .normal (E σ)=go P (.gd (σ.get t) F o its::k) Q .normal (E σ):=by
 show B5 (E (t,F)) σ _ _=_
 rw[Ym];show _=BR _ _ _ _
 simp only[cond_false];congr 1<;>(cases o.dst<;>rfl)
theorem ve{b:O}:go P (.gd (.v (.sc (.dat (.bool b)))) b o its::k) Q .normal (E σ)=go P (.ops ((G,o)::its)::k) Q .normal (E σ):=by
 cases b<;>(simp only[go,B0,BR,cond_true,cond_false]; simp[Bq,B5])
theorem vd:go P (.gd (.v (.sc (.dat (.bool F)))) T o its::k) Q .normal (E σ)=go P (.ops its::k) Q .normal (CS σ o.dst):=by
 simp only[go,B0,BR,cond_true];cases o.dst<;>simp[Cg,CS]
theorem vb:go P (.gd (.v (.sc (.dat (.bool T)))) F o its::k) Q .normal (E σ)=go P (.ops its::k) Q .normal (CS σ o.dst):=by
 simp only[go,B0,BR,cond_false];cases o.dst<;>simp[Cg,CS]
theorem vt{d x}:go P (.ops ((G,.mv d x)::its)::k) Q .normal (E σ)=go P (.ops its::k) Q .normal (E (σ.set d (σ.val x))):=by
 rw[Bm rfl,hP]
theorem wA{d c a b}:go P (.ops ((G,.pick d c a b)::its)::k) Q .normal (E σ)=go P (.ops its::k) Q .normal (AR σ d (KQ (σ.val c) (σ.val a) (σ.val b))):=by
 rw[Bm rfl,hZ]
theorem vE{d zs ps}:go P (.ops ((G,.build d zs ps)::its)::k) Q .normal (E σ)=go P (.ops its::k) Q .normal (AR σ d ((Dd zs (ps.map fun p=>(p.1,p.2.1,σ.val p.2.2))).map fun cs=> .v (.ag cs))):=by
 rw[Bm rfl,gp]
theorem vo{d x g n}:go P (.ops ((G,.load d x g n)::its)::k) Q .normal (E σ)=go P (.ops its::k) Q .normal (AR σ d (CO σ g n (σ.val x))):=by
 rw[Bm rfl,hF]
theorem vw{d x}:go P (.ops ((G,.nilc d x)::its)::k) Q .normal (E σ)=go P (.ops its::k) Q .normal (AR σ d (Fp (σ.val x))):=by
 rw[Bm rfl,hU]
theorem ux{d op x y}:go P (.ops ((G,.bin d op x y)::its)::k) Q .normal (E σ)=go P (.ops its::k) Q .normal (AR σ d (CK op (σ.val x) (σ.val y))):=by
 rw[Bm rfl,gn]
theorem vf{d g ks x y}:go P (.ops ((G,.geq d g ks x y)::its)::k) Q .normal (E σ)=go P (.ops its::k) Q .normal (AR σ d (Kr g ks (σ.val x) (σ.val y))):=by
 rw[Bm rfl,gx]
theorem uw{d g x y}:go P (.ops ((G,.beq d g x y)::its)::k) Q .normal (E σ)=go P (.ops its::k) Q .normal (AR σ d (Jf g (σ.val x) (σ.val y))):=by
 rw[Bm rfl,gm]
theorem wT{d op x}:go P (.ops ((G,.un d op x)::its)::k) Q .normal (E σ)=go P (.ops its::k) Q .normal (AR σ d (J5 op (σ.val x))):=by
 rw[Bm rfl,iG]
theorem vL{d kd x}:go P (.ops ((G,.conv d kd x)::its)::k) Q .normal (E σ)=go P (.ops its::k) Q .normal (AR σ d (VO kd (σ.val x))):=by
 rw[Bm rfl,gr]
theorem wO{d sz x lo hi mx}:go P (.ops ((G,.slc d sz x lo hi mx)::its)::k) Q .normal (E σ)=go P (.ops its::k) Q .normal (AR σ d (DZ σ sz (σ.val x) lo hi mx)):=by
 rw[Bm rfl,iC]
theorem wQ{d x lo hi}:go P (.ops ((G,.sslc d x lo hi)::its)::k) Q .normal (E σ)=go P (.ops its::k) Q .normal (AR σ d (GA σ (σ.val x) lo hi)):=by
 rw[Bm rfl,iE]
theorem vS{d x off}:go P (.ops ((G,.faddr d x off)::its)::k) Q .normal (E σ)=go P (.ops its::k) Q .normal (AR σ d (CA σ.rows off (σ.val x))):=by
 rw[Bm rfl,gu]
theorem vT{d x off g n}:go P (.ops ((G,.field d x off g n)::its)::k) Q .normal (E σ)=go P (.ops its::k) Q .normal (AR σ d (Gi off g n (σ.val x))):=by
 rw[Bm rfl,gw]
theorem vj{d x i sz}:go P (.ops ((G,.iaddr d x i sz)::its)::k) Q .normal (E σ)=go P (.ops its::k) Q .normal (AR σ d (D4 σ.rows sz (σ.val x) (σ.val i))):=by
 rw[Bm rfl,gy]
theorem ur{d x i len sz}:go P (.ops ((G,.aaddr d x i len sz)::its)::k) Q .normal (E σ)=go P (.ops its::k) Q .normal (AR σ d (L2 len sz (σ.val x) (σ.val i))):=by
 rw[Bm rfl,(BM (o:= .aaddr d x i len sz) rfl).trans Ca]
theorem vk{d x i}:go P (.ops ((G,.idx d x i)::its)::k) Q .normal (E σ)=go P (.ops its::k) Q .normal (AR σ d (Kt (σ.val x) (σ.val i))):=by
 rw[Bm rfl,gz]
theorem vq{d t x}:go P (.ops ((G,.mkif d t x)::its)::k) Q .normal (E σ)=go P (.ops its::k) Q .normal (AR σ d (Gs t (σ.val x))):=by
 rw[Bm rfl,hI]
theorem wS{d x t zc}:go P (.ops ((G,.tass d x t zc)::its)::k) Q .normal (E σ)=go P (.ops its::k) Q .normal (AR σ d (KT t zc (σ.val x))):=by
 rw[Bm rfl,iF]
theorem vR{d x i}:go P (.ops ((G,.extr d x i)::its)::k) Q .normal (E σ)=go P (.ops its::k) Q .normal (AR σ d (Jx i (σ.val x))):=by
 rw[Bm rfl,gt]
theorem vn{d x}:go P (.ops ((G,.len d x)::its)::k) Q .normal (E σ)=go P (.ops its::k) Q .normal (AR σ d (DT σ.rows (σ.val x))):=by
 rw[Bm rfl,hD]
theorem wL{d x}:go P (.ops ((G,.sconv d x)::its)::k) Q .normal (E σ)=go P (.ops its::k) Q .normal (AR σ d (Gy σ.rows (σ.val x))):=by
 rw[Bm rfl,iB]
theorem wP{d x}:go P (.ops ((G,.slen d x)::its)::k) Q .normal (E σ)=go P (.ops its::k) Q .normal (AR σ d (KR (σ.val x))):=by
 rw[Bm rfl,iD]
theorem vr{d m x y}:go P (.ops ((G,.mm d m x y)::its)::k) Q .normal (E σ)=go P (.ops its::k) Q .normal (AR σ d (IP m (σ.val x) (σ.val y))):=by
 rw[Bm rfl,hO]
theorem vp{d f caps}:go P (.ops ((G,.mkf d f caps)::its)::k) Q .normal (E σ)=go P (.ops its::k) Q .normal (AR σ d ((Fl f (caps.map σ.val)).map fun c=> .v (.sc c))):=by
 rw[Bm rfl,hH]
theorem wR{x y n}:go P (.ops ((G,.store x y n)::its)::k) Q .normal (E σ)=go P (.ops its::k) Q .normal (σ.storeV n (σ.val x) (σ.val y)):=by
 rw[Bm rfl,A49]
theorem uu{d sz b x y}:go P (.ops ((G,.app d sz b x y)::its)::k) Q .normal (E σ)=go P (.ops its::k) Q .normal (σ.appV d sz b (σ.val x) (σ.val y)):=by
 rw[Bm rfl,A44]
theorem wC{d j id sz}:go P (.ops ((G,.ownb d j id sz)::its)::k) Q .normal (E σ)=go P (.ops its::k) Q .normal (σ.step (.ownb d j id sz)):=Bm rfl
theorem vX{id}:go P (.ops ((G,.frz id)::its)::k) Q .normal (E σ)=go P (.ops its::k) Q .normal (σ.step (.frz id)):=Bm rfl
theorem vW{its:H Bk}:go P (.frs its::k) Q .normal (E σ)=go P (.fr (D2 its σ):: .dops its::k) Q .normal (E σ):=rfl
theorem vV{b:O}(hb:b=T)(h:go P k Q .normal (E σ)):go P (.fr b::k) Q .normal (E σ):=⟨hb,h⟩
theorem uv{its:H Bk}:go P (.dops ((G,G,o)::its)::k) Q .normal (E σ)=go P (.ops [(G,o)]:: .frs its::k) Q .normal (E σ):=rfl
theorem Yp{α:Type}{l:H α}{f:α→O}(h:∀x,f x=T):l.all f=T:=List.all_eq_true.2 fun x _=>h x
def Ss(τ σ:St)(N:H U)(o:AOp)(K:St→Prop):Prop:=
 match τ.pure o with
 | some (d,v)=>v.avoids N=T∧K (σ.set d v)
 | none=>match τ.made o with
  | some m=>(match m with | .box _ cs=>cs.all (·.avoids N) | _=>T)=T∧(match σ.make m with
   | some σ'=>K σ'
   | none=>False)
  | none=>False
theorem Tv{K:St→Prop}(hc:o.isCall=F):FB P N o K σ=Ss (σ.less N) σ N o K:=by
 cases o<;>first
  | rfl
  | (simp[AOp.isCall] at hc; done)
theorem A45(hc:o.isCall=F)(hg:o.gentle=T):σ.step o=(match σ.pure o with
  | some (d,v)=>E (σ.set d v)
  | none=>match σ.made o with
   | some m=>σ.make m
   | none=>G):=by
 cases o<;>first
  | rfl
  | (simp[AOp.isCall] at hc; done)
  | (simp[AOp.gentle] at hg; done)
theorem oM{K:St→Prop}(hg:o.gentle=T)(hc:o.isCall=F):FB P [] o K σ=Bc P o K σ:=by
 cases hc:o.isCall with
 | true=>simp_all
 | false=>
  rw[Tv hc,Yv (by rintro _ _ _ rfl; simp[AOp.isCall] at hc) (by rintro _ _ _ rfl; simp[AOp.isCall] at hc),A45 hc hg];unfold Ss;show(match σ.pure o with | some (d,v)=>v.avoids []=T∧K (σ.set d v) | none=>_)=_
  cases hp:σ.pure o with
  | some p=>
   have hav:p.2.avoids []=T:=Yp fun c=>rfl
   simp only[Cg,hav,true_and]
  | none=>
   show(match σ.made o with | some m=>_ | none=>False)=_
   cases hm:σ.made o with
   | none=>rfl
   | some m=>
    cases m with
    | box d cs=>
     have hav:cs.all (·.avoids [])=T:=Yp fun c=>rfl
     show(cs.all (·.avoids [])=T∧(match σ.make (.box d cs) with | some σ'=>K σ' | none=>False))=Cg (σ.make (.box d cs)) K
     rw[hav];cases σ.make (.box d cs)<;>simp[Cg]
    | row d sz es=>
     show(T=T∧(match σ.make (.row d sz es) with | some σ'=>K σ' | none=>False))=Cg (σ.make (.row d sz es)) K
     cases σ.make (.row d sz es)<;>simp[Cg]
theorem Bt{its:H Bk}(hg:o.gentle=T)(hc:o.isCall=F):go P (.dops ((E [],G,o)::its)::k) Q .normal (E σ)=go P (.ops [(G,o)]:: .dops its::k) Q .normal (E σ):=
 oM hg hc
def BC(σ:St)(N:H U):L U→L St→L St
 | some d,E τ=>bif (τ.get d).avoids N then E (σ.set d (τ.get d)) else G
 | _,_=>G
theorem BF{its:H Bk}(hp:o.isPure=T):go P (.dops ((E N,G,o)::its)::k) Q .normal (E σ)=go P (.dops its::k) Q .normal (BC σ N o.dst ((σ.less N).step o)):=by
 have hc:o.isCall=F:=by cases o<;>first | rfl | (simp[AOp.isPure] at hp; done)
 show FB P N o _ σ=_
 rw[Tv hc,iA hp];unfold Ss;cases h:(σ.less N).pure o with
 | some p=>
  obtain⟨d,v⟩:=p;rw[(WJ h).1];show(v.avoids N=T∧_)=go P (.dops its::k) Q .normal (bif (((σ.less N).set d v).get d).avoids N then E (σ.set d (((σ.less N).set d v).get d)) else G)
  rw[St.get_set_same];cases v.avoids N with
  | true=>simp[go,B0]
  | false=>simp[go]
 | none=>
  have hm:(σ.less N).made o=G:=by cases o<;>first | rfl | (simp[AOp.isPure] at hp; done)
  show(match (σ.less N).made o with | some m=>_ | none=>False)=_
  rw[hm];cases o.dst<;>rfl
def fe(N:H U):Mk→O
 | .box _ cs=>cs.all (·.avoids N)
 | _=>T
theorem vN{its:H Bk}{m:Mk}(hm:(σ.less N).made o=E m)(hv:fe N m=T){σ':St}(hmk:σ.make m=E σ')(h:go P (.dops its::k) Q .normal (E σ')) :
  go P (.dops ((E N,G,o)::its)::k) Q .normal (E σ):=by
 have hc:o.isCall=F:=by cases o<;>first | rfl | (simp[St.made] at hm; done)
 show FB P N o _ σ
 rw[Tv hc];unfold Ss;rw[fS hm];simp only[hm,hmk];cases m with
 | box d cs=>exact⟨hv,h⟩
 | row d sz es=>exact⟨rfl,h⟩
theorem IG{its:H Bk}{d f args}{xs:H DV}{rs:H R1}(hf:FC P f xs rs)(h1:(σ.less N).toDVs args=E xs)(h2:De rs)(h3:σ.fresh d=T)(h4:(rs.flatMap R1.cells).length≤64)(h5:go P (.dops its::k) Q .normal (E (σ.inst d rs))) :
  go P (.dops ((E N,G,.call d f args)::its)::k) Q .normal (E σ):=⟨xs,rs,.inl ⟨h1,.inl h2⟩,hf,h3,h4,h5⟩
theorem vM{its:H Bk}{d f args}{xs:H DV}{rs:H R1}(hf:FC P f xs rs)(h1:(σ.less N).toIVs args=E xs)(h3:σ.fresh d=T)(h4:(rs.flatMap R1.cells).length≤64)(h5:go P (.dops its::k) Q .normal (E (σ.inst d rs))) :
  go P (.dops ((E N,G,.call d f args)::its)::k) Q .normal (E σ):=⟨xs,rs,.inr h1,hf,h3,h4,h5⟩
end
end Go.Vi
