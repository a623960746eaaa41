/-
The value level. No condition.
-/
import Derived.Test.YthkepjhahmknfaaGreatDoorLVi25
namespace Go.Vi
set_option linter.all false
open Bool renaming and_eq_true → V, true → T, false → F
open Option renaming some → E, none → G
open _root_ renaming List → H, Option → L, Bool → O, Nat → U
inductive Fr where
 | code (c:X0)
 | ops (its:H AItem)
 | dops (its:H Bl)
 | blk (id:U)
 | pick (v:AV) (x y:X0)
 | gd (v:AV) (want:O) (o:AOp) (its:H AItem)
 | gdd (v:AV) (want:O) (N:L (H U)) (o:AOp) (its:H Bl)
 | fr (b:O)
 | frs (its:H Bl)
 | panF (x:Opd)
 | calF (d:U) (f:FuncId) (args:H Opd)
def Cg{α:Type}(o:L α)(f:α→Prop):Prop:=
 match o with
 | some a=>f a
 | none=>False
def BP(v:AV)(X Y Z:Prop):Prop:=
 match v with
 | .v (.sc (.dat (.bool b)))=>if b=T then X else Y
 | .no=>Z
 | _=>False
def AR(σ:St)(d:U):L AV→L St
 | some v=>E (σ.set d v)
 | none=>G
def CT(σ:St):L U→L St
 | some d=>E (σ.set d .no)
 | none=>G
def mk1(σ:St):L Mk→L St
 | some m=>σ.make m
 | none=>G
def AY(P:Program):H Fr→(Xk→St→Prop)→Xk→St→Prop
 | [],Q,e,σ=>Q e σ
 | .code c::k,Q,.normal,σ=>Bk P c (AY P k Q) σ
 | .ops its::k,Q,.normal,σ=>Bp P its (AY P k Q .normal) σ
 | .dops its::k,Q,.normal,σ=>Cm P its (AY P k Q .normal) σ
 | .pick v x y::k,Q,.normal,σ=>BP v (Bk P x (AY P k Q) σ) (Bk P y (AY P k Q) σ) False
 | .gd v want o its::k,Q,.normal,σ=>BP v (bif want then Ba P o (Bp P its (AY P k Q .normal)) σ else Cg o.dst fun d=>Bp P its (AY P k Q .normal) (σ.set d .no))
   (bif want then Cg o.dst fun d=>Bp P its (AY P k Q .normal) (σ.set d .no) else Ba P o (Bp P its (AY P k Q .normal)) σ)
   (Cg o.dst fun d=>Bp P its (AY P k Q .normal) (σ.set d .no))
 | .gdd v want N o its::k,Q,.normal,σ=>BP v (bif want then Cm P ((N,G,o)::its) (AY P k Q .normal) σ else Cg o.dst fun d=>Cm P its (AY P k Q .normal) (σ.set d .no))
   (bif want then Cg o.dst fun d=>Cm P its (AY P k Q .normal) (σ.set d .no) else Cm P ((N,G,o)::its) (AY P k Q .normal) σ)
   (Cg o.dst fun d=>Cm P its (AY P k Q .normal) (σ.set d .no))
 | .fr b::k,Q,.normal,σ=>b=T∧AY P k Q .normal σ
 | .frs its::k,Q,.normal,σ=>CZ its σ=T∧Cm P its (AY P k Q .normal) σ
 | .panF x::k,Q,.normal,σ=>∃d,σ.val x= .v (.sc (.dat d))∧d.flat=T∧Wv d=T∧AY P k Q (.pan d) σ
 | .calF d f args::k,Q,.normal,σ=>Ba P (.call d f args) (AY P k Q .normal) σ∨∃ds pd,σ.toDVs args=E ds∧L4 P f ds pd∧AY P k Q (.pan pd) σ
 | .blk id::k,Q,.exit i,σ=>if i=id then AY P k Q .normal σ else AY P k Q (.exit i) σ
 | _::k,Q,e,σ=>AY P k Q e σ
def go(P:Program)(k:H Fr)(Q:Xk→St→Prop)(e:Xk):L St→Prop
 | some σ=>AY P k Q e σ
 | none=>False
def AOp.isPure:AOp→O
 | .mv .. | .pick .. | .build .. | .load .. | .nilc .. | .bin .. | .beq .. | .geq .. | .un .. | .conv .. | .slc .. | .sslc .. | .faddr .. | .field .. | .iaddr .. | .aaddr .. | .idx .. | .extr .. | .len .. | .slen .. | .sconv .. | .mm .. | .mkf .. | .zsl _ | .mkif .. | .tass .. =>T
 | _=>F
def AOp.isMade:AOp→O
 | .box .. | .alloc .. | .bslice .. | .mksl .. | .zap .. =>T
 | _=>F
def AOp.isCall:AOp→O
 | .call .. | .callv .. =>T
 | .mv .. | .pick .. | .box .. | .alloc .. | .build .. | .bslice .. | .load .. | .store .. | .clr .. | .nilc .. | .bin .. | .beq .. | .geq .. | .un .. | .conv .. | .mksl .. | .slc .. | .sslc .. | .faddr .. | .field .. | .iaddr .. | .aaddr .. | .idx .. | .extr .. | .len .. | .slen .. | .sconv .. | .app .. | .mm .. | .mkf .. | .zsl _ | .zap .. | .mkif .. | .tass .. =>F
 | .drop _ | .own .. | .ownb .. | .ren .. | .frz _ | .frzb _ | .forget _ | .keep .. | .cut _=>F
section
variable {P : Program} {k : H Fr} {Q : Xk → St → Prop} {σ : St} {its : H AItem} {ds : H Bl} {o : AOp} {N : H U}
theorem O5{c:X0}(h:go P [.code c] Q .normal (E σ)):Bk P c Q σ:=Z2 c (fun _ _ h=>h) h
theorem wq{e}:go P k Q e G=False:=rfl
theorem wn{e}:go P [] Q e (E σ)=Q e σ:=rfl
theorem xG:go P (.code .skip::k) Q .normal (E σ)=go P k Q .normal (E σ):=rfl
theorem xC:go P (.code (.reg its)::k) Q .normal (E σ)=go P (.ops its::k) Q .normal (E σ):=rfl
theorem wL:go P (.code (.drw ds)::k) Q .normal (E σ)=go P (.fr (CZ ds σ):: .dops ds::k) Q .normal (E σ):=rfl
theorem wQ:go P (.fr T::k) Q .normal (E σ)=go P k Q .normal (E σ):=by simp[go,AY]
theorem xF{x y:X0}:go P (.code (.seq x y)::k) Q .normal (E σ)=go P (.code x:: .code y::k) Q .normal (E σ):=by
 simp only[go,AY,Bk];congr 1
 funext e σ'
 cases e<;>simp only[AY]
theorem vz{id:U}{c:X0}:go P (.code (.block id c)::k) Q .normal (E σ)=go P (.code c:: .blk id::k) Q .normal (E σ):=by
 simp only[go,AY,Bk];congr 1
 funext e σ'
 cases e<;>simp only[AY]
theorem wM{id:U}:go P (.code (.exit id)::k) Q .normal (E σ)=go P k Q (.exit id) (E σ):=rfl
theorem xD:go P (.code .ret::k) Q .normal (E σ)=go P k Q .ret (E σ):=rfl
theorem wG{c:Opd}{x y:X0}:go P (.code (.cond c x y)::k) Q .normal (E σ)=go P (.pick (σ.val c) x y::k) Q .normal (E σ):=by
 show(match σ.val c with | .v (.sc (.dat (.bool b)))=>if b=T then Bk P x (AY P k Q) σ else Bk P y (AY P k Q) σ | _=>False)=BP (σ.val c) _ _ _
 unfold BP;generalize σ.val c=v
 cases v with
 | v x=>cases x with
  | sc c=>cases c with
   | dat d=>cases d<;>rfl
   | _=>rfl
  | ag=>rfl
 | _=>rfl
theorem xB{x y:X0}:go P (.pick (.v (.sc (.dat (.bool T)))) x y::k) Q .normal (E σ)=go P (.code x::k) Q .normal (E σ):=by simp[go,AY,BP]
theorem xA{x y:X0}:go P (.pick (.v (.sc (.dat (.bool F)))) x y::k) Q .normal (E σ)=go P (.code y::k) Q .normal (E σ):=by simp[go,AY,BP]
theorem ww{x:Opd}:go P (.code (.pan its x)::k) Q .normal (E σ)=go P (.ops its:: .panF x::k) Q .normal (E σ):=rfl
theorem wC{d f args}:go P (.code (.cal its d f args)::k) Q .normal (E σ)=go P (.ops its:: .calF d f args::k) Q .normal (E σ):=rfl
theorem wy{c:X0}{d:D}:go P (.code c::k) Q (.pan d) (E σ)=go P k Q (.pan d) (E σ):=rfl
theorem vu{id:U}{d:D}:go P (.blk id::k) Q (.pan d) (E σ)=go P k Q (.pan d) (E σ):=rfl
theorem Wl{its:H (H U × AItem)}{τ σ2:St}{ks bs rs:H U}(h0:(σ.kept ks bs rs).pad (its.filterMap fun i=>i.2.2.dst)=σ2)(h1:Cd P its τ its.length (its.map fun _=>F) σ2)(h2:go P k Q .normal (E τ)):go P (.code (.any its)::k) Q .normal (E σ):=
 ⟨ks,bs,rs,τ,h0▸h1,h2⟩
def XI(P:Program)(its:H (H U × AItem))(τ:St)(f:U)(ms:H O)(σ:St):H (H U × AItem)→U→Prop
 | [],_=>True
 | it::r,i=>(ms[i]?=E F→(∀j∈it.1,ms[j]?=E T)→∃pre post:H AItem,pre.all (fun i=>i.2.idle)=T∧post.all (fun i=>i.2.idle)=T∧go P [.ops (pre++it.2::post)] (fun _=>Cd P its τ f (ms.set i T)) .normal (E σ))∧XI P its τ f ms σ r (i+1)
theorem iN{its:H (H U × AItem)}{τ:St}{f:U}{ms:H O}:∀{r:H (H U × AItem)} {n:U},XI P its τ f ms σ r n→∀(i:U) (it:H U × AItem),r[i]?=E it→ms[n+i]?=E F→(∀j∈it.1,ms[j]?=E T)→∃pre post:H AItem,pre.all (fun i=>i.2.idle)=T∧post.all (fun i=>i.2.idle)=T∧go P [.ops (pre++it.2::post)] (fun _=>Cd P its τ f (ms.set (n+i) T)) .normal (E σ)
 | [],_,_,i,it,hi,_,_=>by simp at hi
 | x::r,n,h,0,it,hi,h1,h2=>by
  simp at hi
  subst hi;exact h.1 h1 h2
 | x::r,n,h,i+1,it,hi,h1,h2=>by
  have:=iN h.2 i it (by simpa using hi) (by rw[show n+1+i=n+(i+1) by omega]; exact h1) h2;rw[show n+1+i=n+(i+1) by omega] at this
  exact this
theorem YT{it:AItem}{post:H AItem}{K:St→Prop}:∀(pre:H AItem) (σ:St),pre.all (fun i=>i.2.idle)=T→Bp P (pre++it::post) K σ→Bp P pre (fun σ=>B4 it.1 σ (Ba P it.2 (Bp P post K) σ) (match it.2.dst with | some d=>Bp P post K (σ.set d .no) | none=>False)) σ
 | [],_,_,h=>h
 | (g,o)::pre,σ,hp,h=>by
  have hi:o.idle=T:=by simp only[List.all_cons,V] at hp; exact hp.1
  have hp':pre.all (fun i=>i.2.idle)=T:=by simp only[List.all_cons,V] at hp; exact hp.2
  have h':B4 g σ (Ba P o (Bp P (pre++it::post) K) σ) (match o.dst with | some d=>Bp P (pre++it::post) K (σ.set d .no) | none=>False):=h;show B4 g σ (Ba P o (Bp P pre _) σ) _
  have hno:o.dst=G:=by cases o<;>first | rfl | (simp[AOp.idle] at hi; done)
  simp only[hno] at h' ⊢
  have key:∀X Y:St→Prop,(∀σ,X σ→Y σ)→Ba P o X σ→Ba P o Y σ:=fun X Y hXY hx=>by
   cases o<;>first
    | (simp[AOp.idle] at hi; done)
    | (simp only[Ba] at hx ⊢; split at hx<;>simp_all)
  have mono:∀{X Y:Prop},(X→Y)→B4 g σ X False→B4 g σ Y False:=fun hXY hx=>by
   unfold B4 at hx ⊢
   cases g with
   | none=>exact hXY hx
   | some g=>
    simp only at hx ⊢
    split
    ·rename_i b hb
     rw[hb] at hx
     simp only at hx
     split at hx
     ·rename_i e
      rw[if_pos e];exact hXY hx
     ·exact hx.elim
    ·rename_i hb
     rw[hb] at hx
     exact hx
    ·rename_i h1 h2
     split at hx
     ·rename_i b hb
      exact h1 b hb
     ·rename_i hb
      exact h2 hb
     ·exact hx
  exact mono (key _ _ fun σ h=>YT pre σ hp' h) h'
theorem EI{its:H (H U × AItem)}{τ:St}{f:U}{ms:H O}(h:XI P its τ f ms σ its 0):Cd P its τ (f+1) ms σ:=by
 intro i it hi h1 h2;obtain⟨pre,post,hp,hq,this⟩:=iN h i it hi (by simpa using h1) h2;rw[Nat.zero_add] at this
 exact⟨pre,post,hp,hq,YT pre _ hp this⟩
theorem np{it:AItem}{Q:Xk→St→Prop}(h:go P [.ops [it]] Q .normal (E σ)):∃pre post:H AItem,pre.all (fun i=>i.2.idle)=T∧post.all (fun i=>i.2.idle)=T∧go P [.ops (pre++it::post)] Q .normal (E σ):=⟨[],[],rfl,rfl,h⟩
theorem C8{α:Type}{a b:α}:(bif T then a else b)=a:=rfl
theorem Cy{α:Type}{a b:α}:(bif F then a else b)=b:=rfl
theorem hq{ms:H O}{N:H U}{a:O}(hw:∀j∈N,ms[j]?=E T)(j:U)(h:N.elem j=T)(e:ms[j]?=E a):a=T:=by
 have:=hw j (List.elem_iff.1 h);rw[e] at this
 exact Option.some.inj this
theorem hz{ms:H O}{i:U}{a:O}(h:ms[i]?=E F)(e:ms[i]?=E a):a=F:=Option.some.inj (e.symm.trans h)
theorem wx{c:X0}{i:U}:go P (.code c::k) Q (.exit i) (E σ)=go P k Q (.exit i) (E σ):=rfl
theorem wz{c:X0}:go P (.code c::k) Q .ret (E σ)=go P k Q .ret (E σ):=rfl
theorem vr{id:U}:go P (.blk id::k) Q .normal (E σ)=go P k Q .normal (E σ):=rfl
theorem vw{id:U}:go P (.blk id::k) Q .ret (E σ)=go P k Q .ret (E σ):=rfl
theorem vt{id i:U}:go P (.blk id::k) Q (.exit i) (E σ)=go P k Q (bif i==id then .normal else .exit i) (E σ):=by
 by_cases h:i=id
 ·simp[go,AY,h]
 ·have h':(i==id)=F:=by simpa using h
  simp[go,AY,h,h']
theorem wu:go P (.ops []::k) Q .normal (E σ)=go P k Q .normal (E σ):=rfl
theorem wK:go P (.dops []::k) Q .normal (E σ)=go P k Q .normal (E σ):=rfl
theorem YS{K:St→Prop}(h1:∀d f args,o≠ .call d f args)(h2:∀d x args,o≠ .callv d x args):Ba P o K σ=Cg (σ.step o) K:=by
 cases o<;>first
  | rfl
  | (show(match St.step σ _ with | some σ'=>K σ' | none=>False)=Cg (St.step σ _) K; generalize St.step σ _=x; cases x<;>rfl)
  | exact absurd rfl (h1 _ _ _)
  | exact absurd rfl (h2 _ _ _)
theorem im(h:o.isPure=T):σ.step o=(σ.pure o).map fun p=>σ.set p.1 p.2:=by
 cases o<;>first
  | (simp[AOp.isPure] at h; done)
  | skip
 all_goals
  simp only[St.step,St.made];generalize σ.pure _=x
  cases x<;>rfl
theorem A6n(h:o.isMade=T):σ.step o=(σ.made o).bind σ.make:=by
 cases o<;>first
  | (simp[AOp.isMade] at h; done)
  | skip
 all_goals
  simp only[St.step,St.pure];generalize σ.made _=x
  cases x<;>rfl
theorem Bm(h:o.isCall=F):go P (.ops ((G,o)::its)::k) Q .normal (E σ)=go P (.ops its::k) Q .normal (σ.step o):=by
 show Ba P o (Bp P its (AY P k Q .normal)) σ=_
 rw[YS (by rintro _ _ _ rfl; simp[AOp.isCall] at h) (by rintro _ _ _ rfl; simp[AOp.isCall] at h)];cases σ.step o<;>rfl
def T9:H U→O
 | []=>T
 | x::r=> !r.contains x&&T9 r
theorem gX:∀{l:H U},T9 l=T→l.Nodup
 | [],_=>List.nodup_nil
 | x::r,h=>by
  simp only[T9,V,Bool.not_eq_true',List.contains_eq_mem,decide_eq_false_iff_not] at h;exact List.nodup_cons.2 ⟨h.1,gX h.2⟩
theorem B7{d f args}{xs:H DV}{rs:H R1}(hf:FC P f xs rs)(h1:σ.toDVs args=E xs)(h2:Db rs)(h3:σ.fresh d=T)(h4:(rs.flatMap R1.cells).length≤64)(h5:go P (.ops its::k) Q .normal (E (σ.inst d rs))) :
  go P (.ops ((G,.call d f args)::its)::k) Q .normal (E σ):= .inl ⟨xs,rs,.inl ⟨h1,.inl h2⟩,hf,h3,h4,h5⟩
theorem Wn{d f args}{xs:H DV}{rs:H R1}(hf:FC P f xs rs)(h1:σ.toIVs args=E xs)(h3:σ.fresh d=T)(h4:(rs.flatMap R1.cells).length≤64)(h5:go P (.ops its::k) Q .normal (E (σ.inst d rs))) :
  go P (.ops ((G,.call d f args)::its)::k) Q .normal (E σ):= .inl ⟨xs,rs,.inr h1,hf,h3,h4,h5⟩
theorem Dc{d f args}{ids:H U}{xs:H XV}{R0 R1:AE}{r:D}(hf:Cj P f xs R0 R1 r)(h0:T9 ids=T)(h1:σ.toXVs ids args=E xs)(h2:CE σ.rows ids=E R0)(h3:Dt R0)(h4:DC R0 R1=T)(h5:go P (.ops its::k) Q .normal (E (σ.instX d ids R1 r))) :
  go P (.ops ((G,.call d f args)::its)::k) Q .normal (E σ):= .inr (.inl ⟨ids,xs,R0,R1,r,⟨gX h0,h1,h2,h3,h4⟩,hf,h5⟩)
theorem Wo{d f args}{σ':St}{r:AV}(hf:DG P f (args.map σ.val) σ σ' r)(h5:go P (.ops its::k) Q .normal (E (σ'.set d r))):go P (.ops ((G,.call d f args)::its)::k) Q .normal (E σ):= .inr (.inr ⟨σ',r,hf,h5⟩)
theorem wE{d x args f caps}{xs:H DV}{rs:H R1}(hf:FC P f (xs++caps.map .sc) rs)(h0:D2 P f=T)(hx:σ.toDV (σ.val x)=E (.sc (.clo f caps)))(h1:σ.toDVs args=E xs)(h2:Db rs)(h3:σ.fresh d=T)(h4:(rs.flatMap R1.cells).length≤64)
  (h5:go P (.ops its::k) Q .normal (E (σ.inst d rs))):go P (.ops ((G,.callv d x args)::its)::k) Q .normal (E σ):=⟨f,caps,xs,rs,.inl ⟨hx,h1,h2⟩,h0,hf,h3,h4,h5⟩
theorem BK(h:o.isPure=T):σ.step o=(σ.pure o).bind fun p=>AR σ p.1 (E p.2):=by
 rw[im h];cases σ.pure o<;>rfl
theorem C7{d:U}{x:L AV}:((x.map (Prod.mk d)).bind fun p=>AR σ p.1 (E p.2))=AR σ d x:=by cases x<;>rfl
theorem ij{d x}:σ.step (.mv d x)=E (σ.set d (σ.val x)):=rfl
theorem il{d c a b}:σ.step (.pick d c a b)=AR σ d (KW (σ.val c) (σ.val a) (σ.val b)):=(BK rfl).trans C7
theorem iQ{d zs ps}:σ.step (.build d zs ps)=AR σ d ((Da zs (ps.map fun p=>(p.1,p.2.1,σ.val p.2.2))).map fun cs=> .v (.ag cs)):=by
 rw[BK rfl];simp only[St.pure];cases Da zs (ps.map fun p=>(p.1,p.2.1,σ.val p.2.2))<;>rfl
theorem iZ{d x g n}:σ.step (.load d x g n)=AR σ d (CP σ g n (σ.val x)):=(BK rfl).trans C7
theorem ik{d x}:σ.step (.nilc d x)=AR σ d (Fs (σ.val x)):=(BK rfl).trans C7
theorem iP{d op x y}:σ.step (.bin d op x y)=AR σ d (CL op (σ.val x) (σ.val y)):=(BK rfl).trans C7
theorem iV{d g ks x y}:σ.step (.geq d g ks x y)=AR σ d (Kx g ks (σ.val x) (σ.val y)):=(BK rfl).trans C7
theorem iO{d g x y}:σ.step (.beq d g x y)=AR σ d (Jj g (σ.val x) (σ.val y)):=(BK rfl).trans C7
theorem iv{d op x}:σ.step (.un d op x)=AR σ d (J9 op (σ.val x)):=(BK rfl).trans C7
def W7(k:IntKind):AV→L AV
 | .v (.sc (.dat (.int _ n)))=>E (.v (.sc (.dat (.int k (k.wrap n)))))
 | _=>G
theorem iR{d kd x}:σ.step (.conv d kd x)=AR σ d (W7 kd (σ.val x)):=by
 rw[BK rfl];simp only[St.pure];generalize σ.val x=v
 cases v with
 | v x=>cases x with
  | sc c=>cases c with
   | dat d=>cases d<;>rfl
   | _=>rfl
  | ag=>rfl
 | _=>rfl
theorem ip{d sz x lo hi mx}:σ.step (.slc d sz x lo hi mx)=AR σ d (E0 σ sz (σ.val x) lo hi mx):=(BK rfl).trans C7
theorem ir{d x lo hi}:σ.step (.sslc d x lo hi)=AR σ d (GG σ (σ.val x) lo hi):=(BK rfl).trans C7
theorem iT{d x off}:σ.step (.faddr d x off)=AR σ d (CB σ.rows off (σ.val x)):=(BK rfl).trans C7
theorem iU{d x off g n}:σ.step (.field d x off g n)=AR σ d (Gn off g n (σ.val x)):=(BK rfl).trans C7
theorem iW{d x i sz}:σ.step (.iaddr d x i sz)=AR σ d (D1 σ.rows sz (σ.val x) (σ.val i)):=(BK rfl).trans C7
theorem iX{d x i}:σ.step (.idx d x i)=AR σ d (Kz (σ.val x) (σ.val i)):=(BK rfl).trans C7
theorem ig{d t x}:σ.step (.mkif d t x)=AR σ d (Gy t (σ.val x)):=(BK rfl).trans C7
theorem iu{d x t zc}:σ.step (.tass d x t zc)=AR σ d (GI t zc (σ.val x)):=(BK rfl).trans C7
theorem iS{d x i}:σ.step (.extr d x i)=AR σ d (JA i (σ.val x)):=(BK rfl).trans C7
theorem iY{d x}:σ.step (.len d x)=AR σ d (DT σ.rows (σ.val x)):=(BK rfl).trans C7
theorem io{d x}:σ.step (.sconv d x)=AR σ d (GE σ.rows (σ.val x)):=(BK rfl).trans C7
theorem iq{d x}:σ.step (.slen d x)=AR σ d (KY (σ.val x)):=(BK rfl).trans C7
theorem ii{d m x y}:σ.step (.mm d m x y)=AR σ d (IT m (σ.val x) (σ.val y)):=(BK rfl).trans C7
theorem ib{d f caps}:σ.step (.mkf d f caps)=AR σ d ((Fo f (caps.map σ.val)).map fun c=> .v (.sc c)):=by
 rw[BK rfl];simp only[St.pure];cases Fo f (caps.map σ.val)<;>rfl
theorem A6o(h:o.isMade=T):σ.step o=mk1 σ (σ.made o):=by
 rw[A6n h];cases σ.made o<;>rfl
theorem A6q{x y n}:σ.step (.store x y n)=σ.storeV n (σ.val x) (σ.val y):=rfl
theorem A6l{d sz b x y}:σ.step (.app d sz b x y)=σ.appV d sz b (σ.val x) (σ.val y):=rfl
theorem gu{d v}:AR σ d (E v)=E (σ.set d v):=rfl
theorem YK{t:U}{yes no:Prop}:B4 (E (t,T)) σ yes no=BP (σ.get t) yes no no:=by
 simp only[B4,BP];generalize σ.get t=v
 cases v with
 | v x=>cases x with
  | sc c=>cases c with
   | dat d=>cases d<;>rfl
   | _=>rfl
  | ag=>rfl
 | _=>rfl
theorem YJ{t:U}{yes no:Prop}:B4 (E (t,F)) σ yes no=BP (σ.get t) no yes no:=by
 simp only[B4,BP];generalize σ.get t=v
 cases v with
 | v x=>cases x with
  | sc c=>cases c with
   | dat d=>cases d with
    | bool b=>cases b<;>simp
    | _=>rfl
   | _=>rfl
  | ag=>rfl
 | _=>rfl
theorem wb{t}:go P (.ops ((E (t,T),o)::its)::k) Q .normal (E σ)=go P (.gd (σ.get t) T o its::k) Q .normal (E σ):=by
 show B4 (E (t,T)) σ _ _=_
 rw[YK];show _=BP _ _ _ _
 simp only[cond_true];congr 1<;>(cases o.dst<;>rfl)
theorem wa{t}:go P (.ops ((E (t,F),o)::its)::k) Q .normal (E σ)=go P (.gd (σ.get t) F o its::k) Q .normal (E σ):=by
 show B4 (E (t,F)) σ _ _=_
 rw[YJ];show _=BP _ _ _ _
 simp only[cond_false];congr 1<;>(cases o.dst<;>rfl)
theorem wY{b:O}:go P (.gd (.v (.sc (.dat (.bool b)))) b o its::k) Q .normal (E σ)=go P (.ops ((G,o)::its)::k) Q .normal (E σ):=by
 cases b<;>(simp only[go,AY,BP,cond_true,cond_false]; simp[Bp,B4])
theorem wX:go P (.gd (.v (.sc (.dat (.bool F)))) T o its::k) Q .normal (E σ)=go P (.ops its::k) Q .normal (CT σ o.dst):=by
 simp only[go,AY,BP,cond_true];cases o.dst<;>simp[Cg,CT]
theorem wW:go P (.gd (.v (.sc (.dat (.bool T)))) F o its::k) Q .normal (E σ)=go P (.ops its::k) Q .normal (CT σ o.dst):=by
 simp only[go,AY,BP,cond_false];cases o.dst<;>simp[Cg,CT]
theorem wm{d x}:go P (.ops ((G,.mv d x)::its)::k) Q .normal (E σ)=go P (.ops its::k) Q .normal (E (σ.set d (σ.val x))):=by
 rw[Bm rfl,ij]
theorem wr{d c a b}:go P (.ops ((G,.pick d c a b)::its)::k) Q .normal (E σ)=go P (.ops its::k) Q .normal (AR σ d (KW (σ.val c) (σ.val a) (σ.val b))):=by
 rw[Bm rfl,il]
theorem wA{d zs ps}:go P (.ops ((G,.build d zs ps)::its)::k) Q .normal (E σ)=go P (.ops its::k) Q .normal (AR σ d ((Da zs (ps.map fun p=>(p.1,p.2.1,σ.val p.2.2))).map fun cs=> .v (.ag cs))):=by
 rw[Bm rfl,iQ]
theorem wi{d x g n}:go P (.ops ((G,.load d x g n)::its)::k) Q .normal (E σ)=go P (.ops its::k) Q .normal (AR σ d (CP σ g n (σ.val x))):=by
 rw[Bm rfl,iZ]
theorem wo{d x}:go P (.ops ((G,.nilc d x)::its)::k) Q .normal (E σ)=go P (.ops its::k) Q .normal (AR σ d (Fs (σ.val x))):=by
 rw[Bm rfl,ik]
theorem vp{d op x y}:go P (.ops ((G,.bin d op x y)::its)::k) Q .normal (E σ)=go P (.ops its::k) Q .normal (AR σ d (CL op (σ.val x) (σ.val y))):=by
 rw[Bm rfl,iP]
theorem wZ{d g ks x y}:go P (.ops ((G,.geq d g ks x y)::its)::k) Q .normal (E σ)=go P (.ops its::k) Q .normal (AR σ d (Kx g ks (σ.val x) (σ.val y))):=by
 rw[Bm rfl,iV]
theorem vo{d g x y}:go P (.ops ((G,.beq d g x y)::its)::k) Q .normal (E σ)=go P (.ops its::k) Q .normal (AR σ d (Jj g (σ.val x) (σ.val y))):=by
 rw[Bm rfl,iO]
theorem xM{d op x}:go P (.ops ((G,.un d op x)::its)::k) Q .normal (E σ)=go P (.ops its::k) Q .normal (AR σ d (J9 op (σ.val x))):=by
 rw[Bm rfl,iv]
theorem wH{d kd x}:go P (.ops ((G,.conv d kd x)::its)::k) Q .normal (E σ)=go P (.ops its::k) Q .normal (AR σ d (W7 kd (σ.val x))):=by
 rw[Bm rfl,iR]
theorem xH{d sz x lo hi mx}:go P (.ops ((G,.slc d sz x lo hi mx)::its)::k) Q .normal (E σ)=go P (.ops its::k) Q .normal (AR σ d (E0 σ sz (σ.val x) lo hi mx)):=by
 rw[Bm rfl,ip]
theorem xJ{d x lo hi}:go P (.ops ((G,.sslc d x lo hi)::its)::k) Q .normal (E σ)=go P (.ops its::k) Q .normal (AR σ d (GG σ (σ.val x) lo hi)):=by
 rw[Bm rfl,ir]
theorem wO{d x off}:go P (.ops ((G,.faddr d x off)::its)::k) Q .normal (E σ)=go P (.ops its::k) Q .normal (AR σ d (CB σ.rows off (σ.val x))):=by
 rw[Bm rfl,iT]
theorem wP{d x off g n}:go P (.ops ((G,.field d x off g n)::its)::k) Q .normal (E σ)=go P (.ops its::k) Q .normal (AR σ d (Gn off g n (σ.val x))):=by
 rw[Bm rfl,iU]
theorem wc{d x i sz}:go P (.ops ((G,.iaddr d x i sz)::its)::k) Q .normal (E σ)=go P (.ops its::k) Q .normal (AR σ d (D1 σ.rows sz (σ.val x) (σ.val i))):=by
 rw[Bm rfl,iW]
theorem vj{d x i len sz}:go P (.ops ((G,.aaddr d x i len sz)::its)::k) Q .normal (E σ)=go P (.ops its::k) Q .normal (AR σ d (L7 len sz (σ.val x) (σ.val i))):=by
 rw[Bm rfl,(BK (o:= .aaddr d x i len sz) rfl).trans C7]
theorem we{d x i}:go P (.ops ((G,.idx d x i)::its)::k) Q .normal (E σ)=go P (.ops its::k) Q .normal (AR σ d (Kz (σ.val x) (σ.val i))):=by
 rw[Bm rfl,iX]
theorem wk{d t x}:go P (.ops ((G,.mkif d t x)::its)::k) Q .normal (E σ)=go P (.ops its::k) Q .normal (AR σ d (Gy t (σ.val x))):=by
 rw[Bm rfl,ig]
theorem xL{d x t zc}:go P (.ops ((G,.tass d x t zc)::its)::k) Q .normal (E σ)=go P (.ops its::k) Q .normal (AR σ d (GI t zc (σ.val x))):=by
 rw[Bm rfl,iu]
theorem wN{d x i}:go P (.ops ((G,.extr d x i)::its)::k) Q .normal (E σ)=go P (.ops its::k) Q .normal (AR σ d (JA i (σ.val x))):=by
 rw[Bm rfl,iS]
theorem wh{d x}:go P (.ops ((G,.len d x)::its)::k) Q .normal (E σ)=go P (.ops its::k) Q .normal (AR σ d (DT σ.rows (σ.val x))):=by
 rw[Bm rfl,iY]
theorem xE{d x}:go P (.ops ((G,.sconv d x)::its)::k) Q .normal (E σ)=go P (.ops its::k) Q .normal (AR σ d (GE σ.rows (σ.val x))):=by
 rw[Bm rfl,io]
theorem xI{d x}:go P (.ops ((G,.slen d x)::its)::k) Q .normal (E σ)=go P (.ops its::k) Q .normal (AR σ d (KY (σ.val x))):=by
 rw[Bm rfl,iq]
theorem wl{d m x y}:go P (.ops ((G,.mm d m x y)::its)::k) Q .normal (E σ)=go P (.ops its::k) Q .normal (AR σ d (IT m (σ.val x) (σ.val y))):=by
 rw[Bm rfl,ii]
theorem wj{d f caps}:go P (.ops ((G,.mkf d f caps)::its)::k) Q .normal (E σ)=go P (.ops its::k) Q .normal (AR σ d ((Fo f (caps.map σ.val)).map fun c=> .v (.sc c))):=by
 rw[Bm rfl,ib]
theorem xK{x y n}:go P (.ops ((G,.store x y n)::its)::k) Q .normal (E σ)=go P (.ops its::k) Q .normal (σ.storeV n (σ.val x) (σ.val y)):=by
 rw[Bm rfl,A6q]
theorem vl{d sz b x y}:go P (.ops ((G,.app d sz b x y)::its)::k) Q .normal (E σ)=go P (.ops its::k) Q .normal (σ.appV d sz b (σ.val x) (σ.val y)):=by
 rw[Bm rfl,A6l]
theorem wv{d j id sz}:go P (.ops ((G,.ownb d j id sz)::its)::k) Q .normal (E σ)=go P (.ops its::k) Q .normal (σ.step (.ownb d j id sz)):=Bm rfl
theorem wT{id}:go P (.ops ((G,.frz id)::its)::k) Q .normal (E σ)=go P (.ops its::k) Q .normal (σ.step (.frz id)):=Bm rfl
theorem wS{its:H Bl}:go P (.frs its::k) Q .normal (E σ)=go P (.fr (CZ its σ):: .dops its::k) Q .normal (E σ):=rfl
theorem wR{b:O}(hb:b=T)(h:go P k Q .normal (E σ)):go P (.fr b::k) Q .normal (E σ):=⟨hb,h⟩
theorem vn{its:H Bl}:go P (.dops ((G,G,o)::its)::k) Q .normal (E σ)=go P (.ops [(G,o)]:: .frs its::k) Q .normal (E σ):=rfl
theorem YM{α:Type}{l:H α}{f:α→O}(h:∀x,f x=T):l.all f=T:=List.all_eq_true.2 fun x _=>h x
def SE(τ σ:St)(N:H U)(o:AOp)(K:St→Prop):Prop:=
 match τ.pure o with
 | some (d,v)=>v.avoids N=T∧K (σ.set d v)
 | none=>match τ.made o with
  | some m=>(match m with | .box _ cs=>cs.all (·.avoids N) | _=>T)=T∧(match σ.make m with
   | some σ'=>K σ'
   | none=>False)
  | none=>False
theorem TK{K:St→Prop}(hc:o.isCall=F):FE P N o K σ=SE (σ.less N) σ N o K:=by
 cases o<;>first
  | rfl
  | (simp[AOp.isCall] at hc; done)
theorem A6m(hc:o.isCall=F)(hg:o.gentle=T):σ.step o=(match σ.pure o with
  | some (d,v)=>E (σ.set d v)
  | none=>match σ.made o with
   | some m=>σ.make m
   | none=>G):=by
 cases o<;>first
  | rfl
  | (simp[AOp.isCall] at hc; done)
  | (simp[AOp.gentle] at hg; done)
theorem oz{K:St→Prop}(hg:o.gentle=T)(hc:o.isCall=F):FE P [] o K σ=Ba P o K σ:=by
 cases hc:o.isCall with
 | true=>simp_all
 | false=>
  rw[TK hc,YS (by rintro _ _ _ rfl; simp[AOp.isCall] at hc) (by rintro _ _ _ rfl; simp[AOp.isCall] at hc),A6m hc hg];unfold SE;show(match σ.pure o with | some (d,v)=>v.avoids []=T∧K (σ.set d v) | none=>_)=_
  cases hp:σ.pure o with
  | some p=>
   have hav:p.2.avoids []=T:=YM fun c=>rfl
   simp only[Cg,hav,true_and]
  | none=>
   show(match σ.made o with | some m=>_ | none=>False)=_
   cases hm:σ.made o with
   | none=>rfl
   | some m=>
    cases m with
    | box d cs=>
     have hav:cs.all (·.avoids [])=T:=YM fun c=>rfl
     show(cs.all (·.avoids [])=T∧(match σ.make (.box d cs) with | some σ'=>K σ' | none=>False))=Cg (σ.make (.box d cs)) K
     rw[hav];cases σ.make (.box d cs)<;>simp[Cg]
    | row d sz es=>
     show(T=T∧(match σ.make (.row d sz es) with | some σ'=>K σ' | none=>False))=Cg (σ.make (.row d sz es)) K
     cases σ.make (.row d sz es)<;>simp[Cg]
theorem Bs{its:H Bl}(hg:o.gentle=T)(hc:o.isCall=F):go P (.dops ((E [],G,o)::its)::k) Q .normal (E σ)=go P (.ops [(G,o)]:: .dops its::k) Q .normal (E σ):=
 oz hg hc
def Bz(σ:St)(N:H U):L U→L St→L St
 | some d,E τ=>bif (τ.get d).avoids N then E (σ.set d (τ.get d)) else G
 | _,_=>G
theorem BE{its:H Bl}(hp:o.isPure=T):go P (.dops ((E N,G,o)::its)::k) Q .normal (E σ)=go P (.dops its::k) Q .normal (Bz σ N o.dst ((σ.less N).step o)):=by
 have hc:o.isCall=F:=by cases o<;>first | rfl | (simp[AOp.isPure] at hp; done)
 show FE P N o _ σ=_
 rw[TK hc,im hp];unfold SE;cases h:(σ.less N).pure o with
 | some p=>
  obtain⟨d,v⟩:=p;rw[(Xv h).1];show(v.avoids N=T∧_)=go P (.dops its::k) Q .normal (bif (((σ.less N).set d v).get d).avoids N then E (σ.set d (((σ.less N).set d v).get d)) else G)
  rw[St.get_set_same];cases v.avoids N with
  | true=>simp[go,AY]
  | false=>simp[go]
 | none=>
  have hm:(σ.less N).made o=G:=by cases o<;>first | rfl | (simp[AOp.isPure] at hp; done)
  show(match (σ.less N).made o with | some m=>_ | none=>False)=_
  rw[hm];cases o.dst<;>rfl
def gN(N:H U):Mk→O
 | .box _ cs=>cs.all (·.avoids N)
 | _=>T
theorem wJ{its:H Bl}{m:Mk}(hm:(σ.less N).made o=E m)(hv:gN N m=T){σ':St}(hmk:σ.make m=E σ')(h:go P (.dops its::k) Q .normal (E σ')) :
  go P (.dops ((E N,G,o)::its)::k) Q .normal (E σ):=by
 have hc:o.isCall=F:=by cases o<;>first | rfl | (simp[St.made] at hm; done)
 show FE P N o _ σ
 rw[TK hc];unfold SE;rw[gG hm];simp only[hm,hmk];cases m with
 | box d cs=>exact⟨hv,h⟩
 | row d sz es=>exact⟨rfl,h⟩
theorem Gr{its:H Bl}{d f args}{xs:H DV}{rs:H R1}(hf:FC P f xs rs)(h1:(σ.less N).toDVs args=E xs)(h2:Db rs)(h3:σ.fresh d=T)(h4:(rs.flatMap R1.cells).length≤64)(h5:go P (.dops its::k) Q .normal (E (σ.inst d rs))) :
  go P (.dops ((E N,G,.call d f args)::its)::k) Q .normal (E σ):=⟨xs,rs,.inl ⟨h1,.inl h2⟩,hf,h3,h4,h5⟩
theorem wI{its:H Bl}{d f args}{xs:H DV}{rs:H R1}(hf:FC P f xs rs)(h1:(σ.less N).toIVs args=E xs)(h3:σ.fresh d=T)(h4:(rs.flatMap R1.cells).length≤64)(h5:go P (.dops its::k) Q .normal (E (σ.inst d rs))) :
  go P (.dops ((E N,G,.call d f args)::its)::k) Q .normal (E σ):=⟨xs,rs,.inr h1,hf,h3,h4,h5⟩
end
end Go.Vi
