/-
The value level. No condition.
-/
import Derived.Test.YtfoohbeloilepaaGreatRVi25
namespace Go.Vi
set_option linter.all false
open Bool renaming true → T, false → F
open Option renaming some → E, none → G
open _root_ renaming List → L, Option → O, Bool → U, Nat → V
inductive Fr where
 | code (c:Xi)
 | ops (its:L AItem)
 | dops (its:L AT)
 | blk (id:V)
 | pick (v:AV) (x y:Xi)
 | gd (v:AV) (want:U) (o:AOp) (its:L AItem)
 | gdd (v:AV) (want:U) (N:O (L V)) (o:AOp) (its:L AT)
 | fr (b:U)
 | frs (its:L AT)
 | panF (x:Opd)
 | calF (d:V) (f:FuncId) (args:L Opd)
def C7{α:Type}(o:O α)(f:α→Prop):Prop:=
 match o with
 | some a=>f a
 | none=>False
def BD(v:AV)(X Y Z:Prop):Prop:=
 match v with
 | .v (.sc (.dat (.bool b)))=>if b=T then X else Y
 | .no=>Z
 | _=>False
def Ay(σ:St)(d:V):O AV→O St
 | some v=>E (σ.set d v)
 | none=>G
def CL(σ:St):O V→O St
 | some d=>E (σ.set d .no)
 | none=>G
def mk1(σ:St):O Mk→O St
 | some m=>σ.make m
 | none=>G
def AE(P:Program):L Fr→(Xn→St→Prop)→Xn→St→Prop
 | [],Q,e,σ=>Q e σ
 | .code c::k,Q,.normal,σ=>Bd P c (AE P k Q) σ
 | .ops its::k,Q,.normal,σ=>B6 P its (AE P k Q .normal) σ
 | .dops its::k,Q,.normal,σ=>Cc P its (AE P k Q .normal) σ
 | .pick v x y::k,Q,.normal,σ=>BD v (Bd P x (AE P k Q) σ) (Bd P y (AE P k Q) σ) False
 | .gd v want o its::k,Q,.normal,σ=>BD v (bif want then AM P o (B6 P its (AE P k Q .normal)) σ else C7 o.dst fun d=>B6 P its (AE P k Q .normal) (σ.set d .no))
   (bif want then C7 o.dst fun d=>B6 P its (AE P k Q .normal) (σ.set d .no) else AM P o (B6 P its (AE P k Q .normal)) σ)
   (C7 o.dst fun d=>B6 P its (AE P k Q .normal) (σ.set d .no))
 | .gdd v want N o its::k,Q,.normal,σ=>BD v (bif want then Cc P ((N,G,o)::its) (AE P k Q .normal) σ else C7 o.dst fun d=>Cc P its (AE P k Q .normal) (σ.set d .no))
   (bif want then C7 o.dst fun d=>Cc P its (AE P k Q .normal) (σ.set d .no) else Cc P ((N,G,o)::its) (AE P k Q .normal) σ)
   (C7 o.dst fun d=>Cc P its (AE P k Q .normal) (σ.set d .no))
 | .fr b::k,Q,.normal,σ=>b=T∧AE P k Q .normal σ
 | .frs its::k,Q,.normal,σ=>CT its σ=T∧Cc P its (AE P k Q .normal) σ
 | .panF x::k,Q,.normal,σ=>∃d,σ.val x= .v (.sc (.dat d))∧d.flat=T∧Sv d=T∧AE P k Q (.pan d) σ
 | .calF d f args::k,Q,.normal,σ=>AM P (.call d f args) (AE P k Q .normal) σ∨∃ds pd,σ.toDVs args=E ds∧KX P f ds pd∧AE P k Q (.pan pd) σ
 | .blk id::k,Q,.exit i,σ=>if i=id then AE P k Q .normal σ else AE P k Q (.exit i) σ
 | _::k,Q,e,σ=>AE P k Q e σ
def go(P:Program)(k:L Fr)(Q:Xn→St→Prop)(e:Xn):O St→Prop
 | some σ=>AE P k Q e σ
 | none=>False
def AOp.isPure:AOp→U
 | .mv .. | .pick .. | .build .. | .load .. | .nilc .. | .bin .. | .beq .. | .geq .. | .un .. | .conv .. | .slc .. | .sslc .. | .faddr .. | .field .. | .iaddr .. | .aaddr .. | .idx .. | .extr .. | .len .. | .slen .. | .sconv .. | .mm .. | .mkf .. | .zsl _ | .mkif .. | .tass .. =>T
 | _=>F
def AOp.isMade:AOp→U
 | .box .. | .alloc .. | .bslice .. | .mksl .. | .zap .. =>T
 | _=>F
def AOp.isCall:AOp→U
 | .call .. | .callv .. =>T
 | .mv .. | .pick .. | .box .. | .alloc .. | .build .. | .bslice .. | .load .. | .store .. | .clr .. | .nilc .. | .bin .. | .beq .. | .geq .. | .un .. | .conv .. | .mksl .. | .slc .. | .sslc .. | .faddr .. | .field .. | .iaddr .. | .aaddr .. | .idx .. | .extr .. | .len .. | .slen .. | .sconv .. | .app .. | .mm .. | .mkf .. | .zsl _ | .zap .. | .mkif .. | .tass .. =>F
 | .drop _ | .own .. | .ownb .. | .ren .. | .frz _ | .frzb _ | .forget _ | .keep .. | .cut _=>F
section
variable {P : Program} {k : L Fr} {Q : Xn → St → Prop} {σ : St} {its : L AItem} {ds : L AT} {o : AOp} {N : L V}
theorem RZ{c:Xi}(h:go P [.code c] Q .normal (E σ)):Bd P c Q σ:=Uq c (fun _ _ h=>h) h
theorem nw{e}:go P k Q e G=False:=rfl
theorem nu{e}:go P [] Q e (E σ)=Q e σ:=rfl
theorem oM:go P (.code .skip::k) Q .normal (E σ)=go P k Q .normal (E σ):=rfl
theorem oG:go P (.code (.reg its)::k) Q .normal (E σ)=go P (.ops its::k) Q .normal (E σ):=rfl
theorem nN:go P (.code (.drw ds)::k) Q .normal (E σ)=go P (.fr (CT ds σ):: .dops ds::k) Q .normal (E σ):=rfl
theorem nS:go P (.fr T::k) Q .normal (E σ)=go P k Q .normal (E σ):=by simp[go,AE]
theorem oL{x y:Xi}:go P (.code (.seq x y)::k) Q .normal (E σ)=go P (.code x:: .code y::k) Q .normal (E σ):=by
 simp only[go,AE,Bd];congr 1
 funext e σ'
 cases e<;>simp only[AE]
theorem nC{id:V}{c:Xi}:go P (.code (.block id c)::k) Q .normal (E σ)=go P (.code c:: .blk id::k) Q .normal (E σ):=by
 simp only[go,AE,Bd];congr 1
 funext e σ'
 cases e<;>simp only[AE]
theorem nO{id:V}:go P (.code (.exit id)::k) Q .normal (E σ)=go P k Q (.exit id) (E σ):=rfl
theorem oJ:go P (.code .ret::k) Q .normal (E σ)=go P k Q .ret (E σ):=rfl
theorem nH{c:Opd}{x y:Xi}:go P (.code (.cond c x y)::k) Q .normal (E σ)=go P (.pick (σ.val c) x y::k) Q .normal (E σ):=by
 show(match σ.val c with | .v (.sc (.dat (.bool b)))=>if b=T then Bd P x (AE P k Q) σ else Bd P y (AE P k Q) σ | _=>False)=BD (σ.val c) _ _ _
 unfold BD;generalize σ.val c=v
 cases v with
 | v x=>cases x with
  | sc c=>cases c with
   | dat d=>cases d<;>rfl
   | _=>rfl
  | ag=>rfl
 | _=>rfl
theorem oF{x y:Xi}:go P (.pick (.v (.sc (.dat (.bool T)))) x y::k) Q .normal (E σ)=go P (.code x::k) Q .normal (E σ):=by simp[go,AE,BD]
theorem oE{x y:Xi}:go P (.pick (.v (.sc (.dat (.bool F)))) x y::k) Q .normal (E σ)=go P (.code y::k) Q .normal (E σ):=by simp[go,AE,BD]
theorem oA{x:Opd}:go P (.code (.pan its x)::k) Q .normal (E σ)=go P (.ops its:: .panF x::k) Q .normal (E σ):=rfl
theorem nF{d f args}:go P (.code (.cal its d f args)::k) Q .normal (E σ)=go P (.ops its:: .calF d f args::k) Q .normal (E σ):=rfl
theorem PX{d f args}(H:go P (.ops [(G,.call d f args)]::k) Q .normal (E σ)):go P (.calF d f args::k) Q .normal (E σ):= .inl H
theorem oC{c:Xi}{d:D}:go P (.code c::k) Q (.pan d) (E σ)=go P k Q (.pan d) (E σ):=rfl
theorem nA{id:V}{d:D}:go P (.blk id::k) Q (.pan d) (E σ)=go P k Q (.pan d) (E σ):=rfl
theorem DS{its:L (L V × AItem)}{τ σ2:St}{ks bs rs:L V}(h0:(σ.kept ks bs rs).pad (its.filterMap fun i=>i.2.2.dst)=σ2)(h1:Ab P its τ its.length (its.map fun _=>F) σ2)(h2:go P k Q .normal (E τ)):go P (.code (.any its)::k) Q .normal (E σ):=
 ⟨ks,bs,rs,τ,h0▸h1,h2⟩
def T2(P:Program)(its:L (L V × AItem))(τ:St)(f:V)(ms:L U)(σ:St):L (L V × AItem)→V→Prop
 | [],_=>True
 | it::r,i=>(ms[i]?=E F→(∀j∈it.1,ms[j]?=E T)→∃pre post:L AItem,pre.all (fun i=>i.2.idle)=T∧post.all (fun i=>i.2.idle)=T∧go P [.ops (pre++it.2::post)] (fun _=>Ab P its τ f (ms.set i T)) .normal (E σ))∧T2 P its τ f ms σ r (i+1)
theorem Z0{its:L (L V × AItem)}{τ:St}{f:V}{ms:L U}:∀{r:L (L V × AItem)} {n:V},T2 P its τ f ms σ r n→∀(i:V) (it:L V × AItem),r[i]?=E it→ms[n+i]?=E F→(∀j∈it.1,ms[j]?=E T)→∃pre post:L AItem,pre.all (fun i=>i.2.idle)=T∧post.all (fun i=>i.2.idle)=T∧go P [.ops (pre++it.2::post)] (fun _=>Ab P its τ f (ms.set (n+i) T)) .normal (E σ)
 | [],_,_,i,it,hi,_,_=>by simp at hi
 | x::r,n,h,0,it,hi,h1,h2=>by
  simp at hi
  subst hi;exact h.1 h1 h2
 | x::r,n,h,i+1,it,hi,h1,h2=>by
  have:=Z0 h.2 i it (by simpa using hi) (by rw[show n+1+i=n+(i+1) by omega]; exact h1) h2;rw[show n+1+i=n+(i+1) by omega] at this
  exact this
theorem Uj{it:AItem}{post:L AItem}{K:St→Prop}:∀(pre:L AItem) (σ:St),pre.all (fun i=>i.2.idle)=T→B6 P (pre++it::post) K σ→B6 P pre (fun σ=>AI it.1 σ (AM P it.2 (B6 P post K) σ) (match it.2.dst with | some d=>B6 P post K (σ.set d .no) | none=>False)) σ
 | [],_,_,h=>h
 | (g,o)::pre,σ,hp,h=>by
  have hi:o.idle=T:=by simp only[List.all_cons,Bool.and_eq_true] at hp; exact hp.1
  have hp':pre.all (fun i=>i.2.idle)=T:=by simp only[List.all_cons,Bool.and_eq_true] at hp; exact hp.2
  have h':AI g σ (AM P o (B6 P (pre++it::post) K) σ) (match o.dst with | some d=>B6 P (pre++it::post) K (σ.set d .no) | none=>False):=h;show AI g σ (AM P o (B6 P pre _) σ) _
  have hno:o.dst=G:=by cases o<;>first | rfl | (simp[AOp.idle] at hi; done)
  simp only[hno] at h' ⊢
  have key:∀X Y:St→Prop,(∀σ,X σ→Y σ)→AM P o X σ→AM P o Y σ:=fun X Y hXY hx=>by
   cases o<;>first
    | (simp[AOp.idle] at hi; done)
    | (simp only[AM] at hx ⊢; split at hx<;>simp_all)
  have mono:∀{X Y:Prop},(X→Y)→AI g σ X False→AI g σ Y False:=fun hXY hx=>by
   unfold AI at hx ⊢
   cases g with
   | none=>exact hXY hx
   | some g=>
    simp only at hx ⊢
    split
    ·rename_i b hb
     rw[hb] at hx
     simp only at hx
     split at hx
     ·rename_i e
      rw[if_pos e];exact hXY hx
     ·exact hx.elim
    ·rename_i hb
     rw[hb] at hx
     exact hx
    ·rename_i h1 h2
     split at hx
     ·rename_i b hb
      exact h1 b hb
     ·rename_i hb
      exact h2 hb
     ·exact hx
  exact mono (key _ _ fun σ h=>Uj pre σ hp' h) h'
theorem Ad{its:L (L V × AItem)}{τ:St}{f:V}{ms:L U}(h:T2 P its τ f ms σ its 0):Ab P its τ (f+1) ms σ:=by
 intro i it hi h1 h2;obtain⟨pre,post,hp,hq,this⟩:=Z0 h i it hi (by simpa using h1) h2;rw[Nat.zero_add] at this
 exact⟨pre,post,hp,hq,Uj pre _ hp this⟩
theorem np{it:AItem}{Q:Xn→St→Prop}(h:go P [.ops [it]] Q .normal (E σ)):∃pre post:L AItem,pre.all (fun i=>i.2.idle)=T∧post.all (fun i=>i.2.idle)=T∧go P [.ops (pre++it::post)] Q .normal (E σ):=⟨[],[],rfl,rfl,h⟩
theorem A5{α:Type}{a b:α}:(bif T then a else b)=a:=rfl
theorem A6{α:Type}{a b:α}:(bif F then a else b)=b:=rfl
theorem hq{ms:L U}{N:L V}{a:U}(hw:∀j∈N,ms[j]?=E T)(j:V)(h:N.elem j=T)(e:ms[j]?=E a):a=T:=by
 have:=hw j (List.elem_iff.1 h);rw[e] at this
 exact Option.some.inj this
theorem hz{ms:L U}{i:V}{a:U}(h:ms[i]?=E F)(e:ms[i]?=E a):a=F:=Option.some.inj (e.symm.trans h)
theorem oB{c:Xi}{i:V}:go P (.code c::k) Q (.exit i) (E σ)=go P k Q (.exit i) (E σ):=rfl
theorem oD{c:Xi}:go P (.code c::k) Q .ret (E σ)=go P k Q .ret (E σ):=rfl
theorem my{id:V}:go P (.blk id::k) Q .normal (E σ)=go P k Q .normal (E σ):=rfl
theorem nB{id:V}:go P (.blk id::k) Q .ret (E σ)=go P k Q .ret (E σ):=rfl
theorem mz{id i:V}:go P (.blk id::k) Q (.exit i) (E σ)=go P k Q (bif i==id then .normal else .exit i) (E σ):=by
 by_cases h:i=id
 ·simp[go,AE,h]
 ·have h':(i==id)=F:=by simpa using h
  simp[go,AE,h,h']
theorem ny:go P (.ops []::k) Q .normal (E σ)=go P k Q .normal (E σ):=rfl
theorem nM:go P (.dops []::k) Q .normal (E σ)=go P k Q .normal (E σ):=rfl
theorem Ui{K:St→Prop}(h1:∀d f args,o≠ .call d f args)(h2:∀d x args,o≠ .callv d x args):AM P o K σ=C7 (σ.step o) K:=by
 cases o<;>first
  | rfl
  | (show(match St.step σ _ with | some σ'=>K σ' | none=>False)=C7 (St.step σ _) K; generalize St.step σ _=x; cases x<;>rfl)
  | exact absurd rfl (h1 _ _ _)
  | exact absurd rfl (h2 _ _ _)
theorem Zj(h:o.isPure=T):σ.step o=(σ.pure o).map fun p=>σ.set p.1 p.2:=by
 cases o<;>first
  | (simp[AOp.isPure] at h; done)
  | skip
 all_goals
  simp only[St.step,St.made];generalize σ.pure _=x
  cases x<;>rfl
theorem vk(h:o.isMade=T):σ.step o=(σ.made o).bind σ.make:=by
 cases o<;>first
  | (simp[AOp.isMade] at h; done)
  | skip
 all_goals
  simp only[St.step,St.pure];generalize σ.made _=x
  cases x<;>rfl
theorem B1(h:o.isCall=F):go P (.ops ((G,o)::its)::k) Q .normal (E σ)=go P (.ops its::k) Q .normal (σ.step o):=by
 show AM P o (B6 P its (AE P k Q .normal)) σ=_
 rw[Ui (by rintro _ _ _ rfl; simp[AOp.isCall] at h) (by rintro _ _ _ rfl; simp[AOp.isCall] at h)];cases σ.step o<;>rfl
theorem Fh{d f args}{xs:L DV}{rs:L R1}(hf:FC P f xs rs)(h1:σ.toDVs args=E xs)(h2:CD rs)(h3:σ.fresh d=T)(h4:(rs.flatMap R1.cells).length≤64)(h5:go P (.ops its::k) Q .normal (E (σ.inst d rs))) :
  go P (.ops ((G,.call d f args)::its)::k) Q .normal (E σ):= .inl ⟨xs,rs,.inl ⟨h1,.inl h2⟩,hf,h3,h4,h5⟩
theorem Ks{d f args}{xs:L DV}{rs:L R1}(hf:FC P f xs rs)(h1:σ.toIVs args=E xs)(h3:σ.fresh d=T)(h4:(rs.flatMap R1.cells).length≤64)(h5:go P (.ops its::k) Q .normal (E (σ.inst d rs))) :
  go P (.ops ((G,.call d f args)::its)::k) Q .normal (E σ):= .inl ⟨xs,rs,.inr h1,hf,h3,h4,h5⟩
theorem Vm{d f args}{σ':St}{r:AV}(hf:EK P f (args.map σ.val) σ σ' r)(h5:go P (.ops its::k) Q .normal (E (σ'.set d r))):go P (.ops ((G,.call d f args)::its)::k) Q .normal (E σ):= .inr (.inr ⟨σ',r,hf,h5⟩)
theorem nG{d x args f caps}{xs:L DV}{rs:L R1}(hf:FC P f (xs++caps.map .sc) rs)(h0:BS P f=T)(hx:σ.toDV (σ.val x)=E (.sc (.clo f caps)))(h1:σ.toDVs args=E xs)(h2:CD rs)(h3:σ.fresh d=T)(h4:(rs.flatMap R1.cells).length≤64)
  (h5:go P (.ops its::k) Q .normal (E (σ.inst d rs))):go P (.ops ((G,.callv d x args)::its)::k) Q .normal (E σ):=⟨f,caps,xs,rs,.inl ⟨hx,h1,h2⟩,h0,hf,h3,h4,h5⟩
theorem BB(h:o.isPure=T):σ.step o=(σ.pure o).bind fun p=>Ay σ p.1 (E p.2):=by
 rw[Zj h];cases σ.pure o<;>rfl
theorem BU{d:V}{x:O AV}:((x.map (Prod.mk d)).bind fun p=>Ay σ p.1 (E p.2))=Ay σ d x:=by cases x<;>rfl
theorem Zg{d x}:σ.step (.mv d x)=E (σ.set d (σ.val x)):=rfl
theorem Zi{d c a b}:σ.step (.pick d c a b)=Ay σ d (KM (σ.val c) (σ.val a) (σ.val b)):=(BB rfl).trans BU
theorem Z3{d zs ps}:σ.step (.build d zs ps)=Ay σ d ((D8 zs (ps.map fun p=>(p.1,p.2.1,σ.val p.2.2))).map fun cs=> .v (.ag cs)):=by
 rw[BB rfl];simp only[St.pure];cases D8 zs (ps.map fun p=>(p.1,p.2.1,σ.val p.2.2))<;>rfl
theorem Zc{d x g n}:σ.step (.load d x g n)=Ay σ d (CH σ g n (σ.val x)):=(BB rfl).trans BU
theorem Zh{d x}:σ.step (.nilc d x)=Ay σ d (Fu (σ.val x)):=(BB rfl).trans BU
theorem Z2{d op x y}:σ.step (.bin d op x y)=Ay σ d (Cf op (σ.val x) (σ.val y)):=(BB rfl).trans BU
theorem Z8{d g ks x y}:σ.step (.geq d g ks x y)=Ay σ d (Kr g ks (σ.val x) (σ.val y)):=(BB rfl).trans BU
theorem Z1{d g x y}:σ.step (.beq d g x y)=Ay σ d (Jl g (σ.val x) (σ.val y)):=(BB rfl).trans BU
theorem Zp{d op x}:σ.step (.un d op x)=Ay σ d (Ja op (σ.val x)):=(BB rfl).trans BU
def RB(k:IntKind):AV→O AV
 | .v (.sc (.dat (.int _ n)))=>E (.v (.sc (.dat (.int k (k.wrap n)))))
 | _=>G
theorem Z4{d kd x}:σ.step (.conv d kd x)=Ay σ d (RB kd (σ.val x)):=by
 rw[BB rfl];simp only[St.pure];generalize σ.val x=v
 cases v with
 | v x=>cases x with
  | sc c=>cases c with
   | dat d=>cases d<;>rfl
   | _=>rfl
  | ag=>rfl
 | _=>rfl
theorem Zl{d sz x lo hi mx}:σ.step (.slc d sz x lo hi mx)=Ay σ d (E1 σ sz (σ.val x) lo hi mx):=(BB rfl).trans BU
theorem Zn{d x lo hi}:σ.step (.sslc d x lo hi)=Ay σ d (GS σ (σ.val x) lo hi):=(BB rfl).trans BU
theorem Z6{d x off}:σ.step (.faddr d x off)=Ay σ d (Cp σ.rows off (σ.val x)):=(BB rfl).trans BU
theorem Z7{d x off g n}:σ.step (.field d x off g n)=Ay σ d (Gv off g n (σ.val x)):=(BB rfl).trans BU
theorem Z9{d x i sz}:σ.step (.iaddr d x i sz)=Ay σ d (CU σ.rows sz (σ.val x) (σ.val i)):=(BB rfl).trans BU
theorem Za{d x i}:σ.step (.idx d x i)=Ay σ d (Kv (σ.val x) (σ.val i)):=(BB rfl).trans BU
theorem Ze{d t x}:σ.step (.mkif d t x)=Ay σ d (GI t (σ.val x)):=(BB rfl).trans BU
theorem Zo{d x t zc}:σ.step (.tass d x t zc)=Ay σ d (KQ t zc (σ.val x)):=(BB rfl).trans BU
theorem Z5{d x i}:σ.step (.extr d x i)=Ay σ d (Jx i (σ.val x)):=(BB rfl).trans BU
theorem Zb{d x}:σ.step (.len d x)=Ay σ d (DW σ.rows (σ.val x)):=(BB rfl).trans BU
theorem Zk{d x}:σ.step (.sconv d x)=Ay σ d (GP σ.rows (σ.val x)):=(BB rfl).trans BU
theorem Zm{d x}:σ.step (.slen d x)=Ay σ d (KO (σ.val x)):=(BB rfl).trans BU
theorem Zf{d m x y}:σ.step (.mm d m x y)=Ay σ d (IS m (σ.val x) (σ.val y)):=(BB rfl).trans BU
theorem Zd{d f caps}:σ.step (.mkf d f caps)=Ay σ d ((Fq f (caps.map σ.val)).map fun c=> .v (.sc c)):=by
 rw[BB rfl];simp only[St.pure];cases Fq f (caps.map σ.val)<;>rfl
theorem vl(h:o.isMade=T):σ.step o=mk1 σ (σ.made o):=by
 rw[vk h];cases σ.made o<;>rfl
theorem vo{x y n}:σ.step (.store x y n)=σ.storeV n (σ.val x) (σ.val y):=rfl
theorem vh{d sz b x y}:σ.step (.app d sz b x y)=σ.appV d sz b (σ.val x) (σ.val y):=rfl
theorem Ys{d v}:Ay σ d (E v)=E (σ.set d v):=rfl
theorem Ua{t:V}{yes no:Prop}:AI (E (t,T)) σ yes no=BD (σ.get t) yes no no:=by
 simp only[AI,BD];generalize σ.get t=v
 cases v with
 | v x=>cases x with
  | sc c=>cases c with
   | dat d=>cases d<;>rfl
   | _=>rfl
  | ag=>rfl
 | _=>rfl
theorem U9{t:V}{yes no:Prop}:AI (E (t,F)) σ yes no=BD (σ.get t) no yes no:=by
 simp only[AI,BD];generalize σ.get t=v
 cases v with
 | v x=>cases x with
  | sc c=>cases c with
   | dat d=>cases d with
    | bool b=>cases b<;>simp
    | _=>rfl
   | _=>rfl
  | ag=>rfl
 | _=>rfl
theorem nd{t}:go P (.ops ((E (t,T),o)::its)::k) Q .normal (E σ)=go P (.gd (σ.get t) T o its::k) Q .normal (E σ):=by
 show AI (E (t,T)) σ _ _=_
 rw[Ua];show _=BD _ _ _ _
 simp only[cond_true];congr 1<;>(cases o.dst<;>rfl)
theorem nc{t}:go P (.ops ((E (t,F),o)::its)::k) Q .normal (E σ)=go P (.gd (σ.get t) F o its::k) Q .normal (E σ):=by
 show AI (E (t,F)) σ _ _=_
 rw[U9];show _=BD _ _ _ _
 simp only[cond_false];congr 1<;>(cases o.dst<;>rfl)
theorem na{b:U}:go P (.gd (.v (.sc (.dat (.bool b)))) b o its::k) Q .normal (E σ)=go P (.ops ((G,o)::its)::k) Q .normal (E σ):=by
 cases b<;>(simp only[go,AE,BD,cond_true,cond_false]; simp[B6,AI])
theorem nZ:go P (.gd (.v (.sc (.dat (.bool F)))) T o its::k) Q .normal (E σ)=go P (.ops its::k) Q .normal (CL σ o.dst):=by
 simp only[go,AE,BD,cond_true];cases o.dst<;>simp[C7,CL]
theorem nY:go P (.gd (.v (.sc (.dat (.bool T)))) F o its::k) Q .normal (E σ)=go P (.ops its::k) Q .normal (CL σ o.dst):=by
 simp only[go,AE,BD,cond_false];cases o.dst<;>simp[C7,CL]
theorem nr{d x}:go P (.ops ((G,.mv d x)::its)::k) Q .normal (E σ)=go P (.ops its::k) Q .normal (E (σ.set d (σ.val x))):=by
 rw[B1 rfl,Zg]
theorem nx{d c a b}:go P (.ops ((G,.pick d c a b)::its)::k) Q .normal (E σ)=go P (.ops its::k) Q .normal (Ay σ d (KM (σ.val c) (σ.val a) (σ.val b))):=by
 rw[B1 rfl,Zi]
theorem nD{d zs ps}:go P (.ops ((G,.build d zs ps)::its)::k) Q .normal (E σ)=go P (.ops its::k) Q .normal (Ay σ d ((D8 zs (ps.map fun p=>(p.1,p.2.1,σ.val p.2.2))).map fun cs=> .v (.ag cs))):=by
 rw[B1 rfl,Z3]
theorem nj{d x g n}:go P (.ops ((G,.load d x g n)::its)::k) Q .normal (E σ)=go P (.ops its::k) Q .normal (Ay σ d (CH σ g n (σ.val x))):=by
 rw[B1 rfl,Zc]
theorem nv{d x}:go P (.ops ((G,.nilc d x)::its)::k) Q .normal (E σ)=go P (.ops its::k) Q .normal (Ay σ d (Fu (σ.val x))):=by
 rw[B1 rfl,Zh]
theorem mu{d op x y}:go P (.ops ((G,.bin d op x y)::its)::k) Q .normal (E σ)=go P (.ops its::k) Q .normal (Ay σ d (Cf op (σ.val x) (σ.val y))):=by
 rw[B1 rfl,Z2]
theorem nb{d g ks x y}:go P (.ops ((G,.geq d g ks x y)::its)::k) Q .normal (E σ)=go P (.ops its::k) Q .normal (Ay σ d (Kr g ks (σ.val x) (σ.val y))):=by
 rw[B1 rfl,Z8]
theorem mr{d g x y}:go P (.ops ((G,.beq d g x y)::its)::k) Q .normal (E σ)=go P (.ops its::k) Q .normal (Ay σ d (Jl g (σ.val x) (σ.val y))):=by
 rw[B1 rfl,Z1]
theorem oS{d op x}:go P (.ops ((G,.un d op x)::its)::k) Q .normal (E σ)=go P (.ops its::k) Q .normal (Ay σ d (Ja op (σ.val x))):=by
 rw[B1 rfl,Zp]
theorem nI{d kd x}:go P (.ops ((G,.conv d kd x)::its)::k) Q .normal (E σ)=go P (.ops its::k) Q .normal (Ay σ d (RB kd (σ.val x))):=by
 rw[B1 rfl,Z4]
theorem oN{d sz x lo hi mx}:go P (.ops ((G,.slc d sz x lo hi mx)::its)::k) Q .normal (E σ)=go P (.ops its::k) Q .normal (Ay σ d (E1 σ sz (σ.val x) lo hi mx)):=by
 rw[B1 rfl,Zl]
theorem oP{d x lo hi}:go P (.ops ((G,.sslc d x lo hi)::its)::k) Q .normal (E σ)=go P (.ops its::k) Q .normal (Ay σ d (GS σ (σ.val x) lo hi)):=by
 rw[B1 rfl,Zn]
theorem nQ{d x off}:go P (.ops ((G,.faddr d x off)::its)::k) Q .normal (E σ)=go P (.ops its::k) Q .normal (Ay σ d (Cp σ.rows off (σ.val x))):=by
 rw[B1 rfl,Z6]
theorem nR{d x off g n}:go P (.ops ((G,.field d x off g n)::its)::k) Q .normal (E σ)=go P (.ops its::k) Q .normal (Ay σ d (Gv off g n (σ.val x))):=by
 rw[B1 rfl,Z7]
theorem nf{d x i sz}:go P (.ops ((G,.iaddr d x i sz)::its)::k) Q .normal (E σ)=go P (.ops its::k) Q .normal (Ay σ d (CU σ.rows sz (σ.val x) (σ.val i))):=by
 rw[B1 rfl,Z9]
theorem mh{d x i len sz}:go P (.ops ((G,.aaddr d x i len sz)::its)::k) Q .normal (E σ)=go P (.ops its::k) Q .normal (Ay σ d (L0 len sz (σ.val x) (σ.val i))):=by
 rw[B1 rfl,(BB (o:= .aaddr d x i len sz) rfl).trans BU]
theorem ng{d x i}:go P (.ops ((G,.idx d x i)::its)::k) Q .normal (E σ)=go P (.ops its::k) Q .normal (Ay σ d (Kv (σ.val x) (σ.val i))):=by
 rw[B1 rfl,Za]
theorem nl{d t x}:go P (.ops ((G,.mkif d t x)::its)::k) Q .normal (E σ)=go P (.ops its::k) Q .normal (Ay σ d (GI t (σ.val x))):=by
 rw[B1 rfl,Ze]
theorem oR{d x t zc}:go P (.ops ((G,.tass d x t zc)::its)::k) Q .normal (E σ)=go P (.ops its::k) Q .normal (Ay σ d (KQ t zc (σ.val x))):=by
 rw[B1 rfl,Zo]
theorem nP{d x i}:go P (.ops ((G,.extr d x i)::its)::k) Q .normal (E σ)=go P (.ops its::k) Q .normal (Ay σ d (Jx i (σ.val x))):=by
 rw[B1 rfl,Z5]
theorem ni{d x}:go P (.ops ((G,.len d x)::its)::k) Q .normal (E σ)=go P (.ops its::k) Q .normal (Ay σ d (DW σ.rows (σ.val x))):=by
 rw[B1 rfl,Zb]
theorem oK{d x}:go P (.ops ((G,.sconv d x)::its)::k) Q .normal (E σ)=go P (.ops its::k) Q .normal (Ay σ d (GP σ.rows (σ.val x))):=by
 rw[B1 rfl,Zk]
theorem oO{d x}:go P (.ops ((G,.slen d x)::its)::k) Q .normal (E σ)=go P (.ops its::k) Q .normal (Ay σ d (KO (σ.val x))):=by
 rw[B1 rfl,Zm]
theorem nq{d m x y}:go P (.ops ((G,.mm d m x y)::its)::k) Q .normal (E σ)=go P (.ops its::k) Q .normal (Ay σ d (IS m (σ.val x) (σ.val y))):=by
 rw[B1 rfl,Zf]
theorem nk{d f caps}:go P (.ops ((G,.mkf d f caps)::its)::k) Q .normal (E σ)=go P (.ops its::k) Q .normal (Ay σ d ((Fq f (caps.map σ.val)).map fun c=> .v (.sc c))):=by
 rw[B1 rfl,Zd]
theorem oQ{x y n}:go P (.ops ((G,.store x y n)::its)::k) Q .normal (E σ)=go P (.ops its::k) Q .normal (σ.storeV n (σ.val x) (σ.val y)):=by
 rw[B1 rfl,vo]
theorem mp{d sz b x y}:go P (.ops ((G,.app d sz b x y)::its)::k) Q .normal (E σ)=go P (.ops its::k) Q .normal (σ.appV d sz b (σ.val x) (σ.val y)):=by
 rw[B1 rfl,vh]
theorem nz{d j id sz}:go P (.ops ((G,.ownb d j id sz)::its)::k) Q .normal (E σ)=go P (.ops its::k) Q .normal (σ.step (.ownb d j id sz)):=B1 rfl
theorem oH{a b}:go P (.ops ((G,.ren a b)::its)::k) Q .normal (E σ)=go P (.ops its::k) Q .normal (σ.step (.ren a b)):=B1 rfl
theorem nV{id}:go P (.ops ((G,.frz id)::its)::k) Q .normal (E σ)=go P (.ops its::k) Q .normal (σ.step (.frz id)):=B1 rfl
theorem nU{its:L AT}:go P (.frs its::k) Q .normal (E σ)=go P (.fr (CT its σ):: .dops its::k) Q .normal (E σ):=rfl
theorem nT{b:U}(hb:b=T)(h:go P k Q .normal (E σ)):go P (.fr b::k) Q .normal (E σ):=⟨hb,h⟩
theorem mq{its:L AT}:go P (.dops ((G,G,o)::its)::k) Q .normal (E σ)=go P (.ops [(G,o)]:: .frs its::k) Q .normal (E σ):=rfl
theorem Uc{α:Type}{l:L α}{f:α→U}(h:∀x,f x=T):l.all f=T:=List.all_eq_true.2 fun x _=>h x
def PW(τ σ:St)(N:L V)(o:AOp)(K:St→Prop):Prop:=
 match τ.pure o with
 | some (d,v)=>v.avoids N=T∧K (σ.set d v)
 | none=>match τ.made o with
  | some m=>(match m with | .box _ cs=>cs.all (·.avoids N) | _=>T)=T∧(match σ.make m with
   | some σ'=>K σ'
   | none=>False)
  | none=>False
theorem Re{K:St→Prop}(hc:o.isCall=F):FI P N o K σ=PW (σ.less N) σ N o K:=by
 cases o<;>first
  | rfl
  | (simp[AOp.isCall] at hc; done)
theorem vj(hc:o.isCall=F)(hg:o.gentle=T):σ.step o=(match σ.pure o with
  | some (d,v)=>E (σ.set d v)
  | none=>match σ.made o with
   | some m=>σ.make m
   | none=>G):=by
 cases o<;>first
  | rfl
  | (simp[AOp.isCall] at hc; done)
  | (simp[AOp.gentle] at hg; done)
theorem ef{K:St→Prop}(hg:o.gentle=T)(hc:o.isCall=F):FI P [] o K σ=AM P o K σ:=by
 cases hc:o.isCall with
 | true=>simp_all
 | false=>
  rw[Re hc,Ui (by rintro _ _ _ rfl; simp[AOp.isCall] at hc) (by rintro _ _ _ rfl; simp[AOp.isCall] at hc),vj hc hg];unfold PW;show(match σ.pure o with | some (d,v)=>v.avoids []=T∧K (σ.set d v) | none=>_)=_
  cases hp:σ.pure o with
  | some p=>
   have hav:p.2.avoids []=T:=Uc fun c=>rfl
   simp only[C7,hav,true_and]
  | none=>
   show(match σ.made o with | some m=>_ | none=>False)=_
   cases hm:σ.made o with
   | none=>rfl
   | some m=>
    cases m with
    | box d cs=>
     have hav:cs.all (·.avoids [])=T:=Uc fun c=>rfl
     show(cs.all (·.avoids [])=T∧(match σ.make (.box d cs) with | some σ'=>K σ' | none=>False))=C7 (σ.make (.box d cs)) K
     rw[hav];cases σ.make (.box d cs)<;>simp[C7]
    | row d sz es=>
     show(T=T∧(match σ.make (.row d sz es) with | some σ'=>K σ' | none=>False))=C7 (σ.make (.row d sz es)) K
     cases σ.make (.row d sz es)<;>simp[C7]
theorem Bb{its:L AT}(hg:o.gentle=T)(hc:o.isCall=F):go P (.dops ((E [],G,o)::its)::k) Q .normal (E σ)=go P (.ops [(G,o)]:: .dops its::k) Q .normal (E σ):=
 ef hg hc
def Bm(σ:St)(N:L V):O V→O St→O St
 | some d,E τ=>bif (τ.get d).avoids N then E (σ.set d (τ.get d)) else G
 | _,_=>G
theorem Bs{its:L AT}(hp:o.isPure=T):go P (.dops ((E N,G,o)::its)::k) Q .normal (E σ)=go P (.dops its::k) Q .normal (Bm σ N o.dst ((σ.less N).step o)):=by
 have hc:o.isCall=F:=by cases o<;>first | rfl | (simp[AOp.isPure] at hp; done)
 show FI P N o _ σ=_
 rw[Re hc,Zj hp];unfold PW;cases h:(σ.less N).pure o with
 | some p=>
  obtain⟨d,v⟩:=p;rw[(SU h).1];show(v.avoids N=T∧_)=go P (.dops its::k) Q .normal (bif (((σ.less N).set d v).get d).avoids N then E (σ.set d (((σ.less N).set d v).get d)) else G)
  rw[St.get_set_same];cases v.avoids N with
  | true=>simp[go,AE]
  | false=>simp[go]
 | none=>
  have hm:(σ.less N).made o=G:=by cases o<;>first | rfl | (simp[AOp.isPure] at hp; done)
  show(match (σ.less N).made o with | some m=>_ | none=>False)=_
  rw[hm];cases o.dst<;>rfl
def XX(N:L V):Mk→U
 | .box _ cs=>cs.all (·.avoids N)
 | _=>T
theorem nL{its:L AT}{m:Mk}(hm:(σ.less N).made o=E m)(hv:XX N m=T){σ':St}(hmk:σ.make m=E σ')(h:go P (.dops its::k) Q .normal (E σ')) :
  go P (.dops ((E N,G,o)::its)::k) Q .normal (E σ):=by
 have hc:o.isCall=F:=by cases o<;>first | rfl | (simp[St.made] at hm; done)
 show FI P N o _ σ
 rw[Re hc];unfold PW;rw[XP hm];simp only[hm,hmk];cases m with
 | box d cs=>exact⟨hv,h⟩
 | row d sz es=>exact⟨rfl,h⟩
theorem PY{its:L AT}{d f args}{xs:L DV}{rs:L R1}(hf:FC P f xs rs)(h1:(σ.less N).toDVs args=E xs)(h2:CD rs)(h3:σ.fresh d=T)(h4:(rs.flatMap R1.cells).length≤64)(h5:go P (.dops its::k) Q .normal (E (σ.inst d rs))) :
  go P (.dops ((E N,G,.call d f args)::its)::k) Q .normal (E σ):=⟨xs,rs,.inl ⟨h1,.inl h2⟩,hf,h3,h4,h5⟩
theorem nK{its:L AT}{d x args f caps}{xs:L DV}{rs:L R1}(hf:FC P f (xs++caps.map .sc) rs)(h0:BS P f=T)(hx:(σ.less N).toDV ((σ.less N).val x)=E (.sc (.clo f caps)))(h1:(σ.less N).toDVs args=E xs)(h2:CD rs)(h3:σ.fresh d=T)(h4:(rs.flatMap R1.cells).length≤64)
  (h5:go P (.dops its::k) Q .normal (E (σ.inst d rs))):go P (.dops ((E N,G,.callv d x args)::its)::k) Q .normal (E σ):=⟨f,caps,xs,rs,.inl ⟨hx,h1,h2⟩,h0,hf,h3,h4,h5⟩
theorem nJ{its:L AT}{d f args}{xs:L DV}{rs:L R1}(hf:FC P f xs rs)(h1:(σ.less N).toIVs args=E xs)(h3:σ.fresh d=T)(h4:(rs.flatMap R1.cells).length≤64)(h5:go P (.dops its::k) Q .normal (E (σ.inst d rs))) :
  go P (.dops ((E N,G,.call d f args)::its)::k) Q .normal (E σ):=⟨xs,rs,.inr h1,hf,h3,h4,h5⟩
end
end Go.Vi
