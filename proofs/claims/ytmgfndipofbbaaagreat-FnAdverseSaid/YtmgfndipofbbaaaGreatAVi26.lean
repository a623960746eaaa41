/-
The value level. No condition.
-/
import Derived.Test.YtmgfndipofbbaaaGreatAVi25
namespace Go.Vi
set_option linter.all false
open Bool renaming true → T, false → F
open Option renaming some → E, none → G
inductive Fr where
 | code (c:ACode)
 | ops (its:List AItem)
 | dops (its:List O4)
 | blk (id:Nat)
 | pick (v:AV) (x y:ACode)
 | gd (v:AV) (want:Bool) (o:AOp) (its:List AItem)
 | gdd (v:AV) (want:Bool) (N:Option (List Nat)) (o:AOp) (its:List O4)
 | fr (b:Bool)
 | frs (its:List O4)
 | panF (x:Opd)
 | calF (d:Nat) (f:FuncId) (args:List Opd)
def A0a{α:Type}(o:Option α)(f:α→Prop):Prop:=
 match o with
 | some a=>f a
 | none=>False
def Z9(v:AV)(X Y Z:Prop):Prop:=
 match v with
 | .v (.sc (.dat (.bool b)))=>if b=T then X else Y
 | .no=>Z
 | _=>False
def I9(σ:St)(d:Nat):Option AV→Option St
 | some v=>E (σ.set d v)
 | none=>G
def unw(σ:St):Option Nat→Option St
 | some d=>E (σ.set d .no)
 | none=>G
def mk1(σ:St):Option Mk→Option St
 | some m=>σ.make m
 | none=>G
def go0(P:Program):List Fr→(AExit→St→Prop)→AExit→St→Prop
 | [],Q,e,σ=>Q e σ
 | .code c::k,Q,.normal,σ=>AWP P c (go0 P k Q) σ
 | .ops its::k,Q,.normal,σ=>Z3 P its (go0 P k Q .normal) σ
 | .dops its::k,Q,.normal,σ=>A5f P its (go0 P k Q .normal) σ
 | .pick v x y::k,Q,.normal,σ=>Z9 v (AWP P x (go0 P k Q) σ) (AWP P y (go0 P k Q) σ) False
 | .gd v want o its::k,Q,.normal,σ=>Z9 v (bif want then aop P o (Z3 P its (go0 P k Q .normal)) σ else A0a o.dst fun d=>Z3 P its (go0 P k Q .normal) (σ.set d .no))
   (bif want then A0a o.dst fun d=>Z3 P its (go0 P k Q .normal) (σ.set d .no) else aop P o (Z3 P its (go0 P k Q .normal)) σ)
   (A0a o.dst fun d=>Z3 P its (go0 P k Q .normal) (σ.set d .no))
 | .gdd v want N o its::k,Q,.normal,σ=>Z9 v (bif want then A5f P ((N,G,o)::its) (go0 P k Q .normal) σ else A0a o.dst fun d=>A5f P its (go0 P k Q .normal) (σ.set d .no))
   (bif want then A0a o.dst fun d=>A5f P its (go0 P k Q .normal) (σ.set d .no) else A5f P ((N,G,o)::its) (go0 P k Q .normal) σ)
   (A0a o.dst fun d=>A5f P its (go0 P k Q .normal) (σ.set d .no))
 | .fr b::k,Q,.normal,σ=>b=T∧go0 P k Q .normal σ
 | .frs its::k,Q,.normal,σ=>A0h its σ=T∧A5f P its (go0 P k Q .normal) σ
 | .panF x::k,Q,.normal,σ=>∃d,σ.val x= .v (.sc (.dat d))∧d.flat=T∧C33 d=T∧go0 P k Q (.pan d) σ
 | .calF d f args::k,Q,.normal,σ=>aop P (.call d f args) (go0 P k Q .normal) σ∨∃ds pd,σ.toDVs args=E ds∧FCp P f ds pd∧go0 P k Q (.pan pd) σ
 | .blk id::k,Q,.exit i,σ=>if i=id then go0 P k Q .normal σ else go0 P k Q (.exit i) σ
 | _::k,Q,e,σ=>go0 P k Q e σ
def go(P:Program)(k:List Fr)(Q:AExit→St→Prop)(e:AExit):Option St→Prop
 | some σ=>go0 P k Q e σ
 | none=>False
def AOp.isPure:AOp→Bool
 | .mv .. | .pick .. | .build .. | .load .. | .nilc .. | .bin .. | .beq .. | .geq .. | .un .. | .conv .. | .slc .. | .sslc .. | .faddr .. | .field .. | .iaddr .. | .aaddr .. | .idx .. | .extr .. | .len .. | .slen .. | .sconv .. | .mm .. | .mkf .. | .zsl _ | .mkif .. | .tass .. =>T
 | _=>F
def AOp.isMade:AOp→Bool
 | .box .. | .alloc .. | .bslice .. | .mksl .. | .zap .. =>T
 | _=>F
def AOp.isCall:AOp→Bool
 | .call .. | .callv .. =>T
 | .mv .. | .pick .. | .box .. | .alloc .. | .build .. | .bslice .. | .load .. | .store .. | .nilc .. | .bin .. | .beq .. | .geq .. | .un .. | .conv .. | .mksl .. | .slc .. | .sslc .. | .faddr .. | .field .. | .iaddr .. | .aaddr .. | .idx .. | .extr .. | .len .. | .slen .. | .sconv .. | .app .. | .mm .. | .mkf .. | .zsl _ | .zap .. | .mkif .. | .tass .. =>F
 | .drop _ | .own .. | .ownb .. | .ren .. | .frz _ | .frzb _ | .forget _ | .keep .. | .cut _=>F
section
variable {P : Program} {k : List Fr} {Q : AExit → St → Prop} {σ : St} {its : List AItem} {ds : List O4} {o : AOp} {N : List Nat}
theorem A4t{c:ACode}(h:go P [.code c] Q .normal (E σ)):AWP P c Q σ:=B27 c (fun _ _ h=>h) h
theorem E00{e}:go P k Q e G=False:=rfl
theorem E3x{e}:go P [] Q e (E σ)=Q e σ:=rfl
theorem E1w:go P (.code .skip::k) Q .normal (E σ)=go P k Q .normal (E σ):=rfl
theorem E5z:go P (.code (.reg its)::k) Q .normal (E σ)=go P (.ops its::k) Q .normal (E σ):=rfl
theorem E35:go P (.code (.drw ds)::k) Q .normal (E σ)=go P (.fr (A0h ds σ):: .dops ds::k) Q .normal (E σ):=rfl
theorem F0b:go P (.fr T::k) Q .normal (E σ)=go P k Q .normal (E σ):=by simp[go,go0]
theorem E5l{x y:ACode}:go P (.code (.seq x y)::k) Q .normal (E σ)=go P (.code x:: .code y::k) Q .normal (E σ):=by
 simp only[go,go0,AWP]
 congr 1
 funext e σ'
 cases e<;>simp only[go0]
theorem D5g{id:Nat}{c:ACode}:go P (.code (.block id c)::k) Q .normal (E σ)=go P (.code c:: .blk id::k) Q .normal (E σ):=by
 simp only[go,go0,AWP]
 congr 1
 funext e σ'
 cases e<;>simp only[go0]
theorem E0y{id:Nat}:go P (.code (.exit id)::k) Q .normal (E σ)=go P k Q (.exit id) (E σ):=rfl
theorem E4q:go P (.code .ret::k) Q .normal (E σ)=go P k Q .ret (E σ):=rfl
theorem E0r{c:Opd}{x y:ACode}:go P (.code (.cond c x y)::k) Q .normal (E σ)=go P (.pick (σ.val c) x y::k) Q .normal (E σ):=by
 show(match σ.val c with | .v (.sc (.dat (.bool b)))=>if b=T then AWP P x (go0 P k Q) σ else AWP P y (go0 P k Q) σ | _=>False)=Z9 (σ.val c) _ _ _
 unfold Z9
 generalize σ.val c=v
 cases v with
 | v x=>cases x with
  | sc c=>cases c with
   | dat d=>cases d<;>rfl
   | _=>rfl
  | ag=>rfl
 | _=>rfl
theorem D6y{x y:ACode}:go P (.pick (.v (.sc (.dat (.bool T)))) x y::k) Q .normal (E σ)=go P (.code x::k) Q .normal (E σ):=by simp[go,go0,Z9]
theorem D5m{x y:ACode}:go P (.pick (.v (.sc (.dat (.bool F)))) x y::k) Q .normal (E σ)=go P (.code y::k) Q .normal (E σ):=by simp[go,go0,Z9]
theorem E4d{x:Opd}:go P (.code (.pan its x)::k) Q .normal (E σ)=go P (.ops its:: .panF x::k) Q .normal (E σ):=rfl
theorem E50{d f args}:go P (.code (.cal its d f args)::k) Q .normal (E σ)=go P (.ops its:: .calF d f args::k) Q .normal (E σ):=rfl
theorem E3e{x:Opd}{d:D}(hx:σ.val x= .v (.sc (.dat d)))(hf:d.flat=T)(hi:C33 d=T)(H:go P k Q (.pan d) (E σ)):go P (.panF x::k) Q .normal (E σ):=⟨d,hx,hf,hi,H⟩
theorem B5w{d f args}(H:go P (.ops [(G,.call d f args)]::k) Q .normal (E σ)):go P (.calF d f args::k) Q .normal (E σ):= .inl H
theorem E2a{d f args}{ds:List DV}{pd:D}(hf:FCp P f ds pd)(h1:σ.toDVs args=E ds)(H:go P k Q (.pan pd) (E σ)):go P (.calF d f args::k) Q .normal (E σ):= .inr ⟨ds,pd,h1,hf,H⟩
theorem C7i{c:ACode}{d:D}:go P (.code c::k) Q (.pan d) (E σ)=go P k Q (.pan d) (E σ):=rfl
theorem D09{id:Nat}{d:D}:go P (.blk id::k) Q (.pan d) (E σ)=go P k Q (.pan d) (E σ):=rfl
theorem A37{its:List (List Nat × AItem)}{τ σ2:St}{ks bs rs:List Nat}(h0:(σ.kept ks bs rs).pad (its.filterMap fun i=>i.2.2.dst)=σ2)(h1:E8 P its τ its.length (its.map fun _=>F) σ2)(h2:go P k Q .normal (E τ)):go P (.code (.any its)::k) Q .normal (E σ):=
 ⟨ks,bs,rs,τ,h0▸h1,h2⟩
def C0m(P:Program)(its:List (List Nat × AItem))(τ:St)(f:Nat)(ms:List Bool)(σ:St):List (List Nat × AItem)→Nat→Prop
 | [],_=>True
 | it::r,i=>(ms[i]?=E F→(∀j∈it.1,ms[j]?=E T)→∃pre post:List AItem,pre.all (fun i=>i.2.idle)=T∧post.all (fun i=>i.2.idle)=T∧go P [.ops (pre++it.2::post)] (fun _=>E8 P its τ f (ms.set i T)) .normal (E σ))∧C0m P its τ f ms σ r (i+1)
theorem B9g{its:List (List Nat × AItem)}{τ:St}{f:Nat}{ms:List Bool}:∀{r:List (List Nat × AItem)} {n:Nat},C0m P its τ f ms σ r n→∀(i:Nat) (it:List Nat × AItem),r[i]?=E it→ms[n+i]?=E F→(∀j∈it.1,ms[j]?=E T)→∃pre post:List AItem,pre.all (fun i=>i.2.idle)=T∧post.all (fun i=>i.2.idle)=T∧go P [.ops (pre++it.2::post)] (fun _=>E8 P its τ f (ms.set (n+i) T)) .normal (E σ)
 | [],_,_,i,it,hi,_,_=>by simp at hi
 | x::r,n,h,0,it,hi,h1,h2=>by
  simp at hi
  subst hi
  exact h.1 h1 h2
 | x::r,n,h,i+1,it,hi,h1,h2=>by
  have:=B9g h.2 i it (by simpa using hi) (by rw[show n+1+i=n+(i+1) by omega]; exact h1) h2
  rw[show n+1+i=n+(i+1) by omega] at this
  exact this
theorem C4r{it:AItem}{post:List AItem}{K:St→Prop}:∀(pre:List AItem) (σ:St),pre.all (fun i=>i.2.idle)=T→Z3 P (pre++it::post) K σ→Z3 P pre (fun σ=>G5 it.1 σ (aop P it.2 (Z3 P post K) σ) (match it.2.dst with | some d=>Z3 P post K (σ.set d .no) | none=>False)) σ
 | [],_,_,h=>h
 | (g,o)::pre,σ,hp,h=>by
  have hi:o.idle=T:=by simp only[List.all_cons,Bool.and_eq_true] at hp; exact hp.1
  have hp':pre.all (fun i=>i.2.idle)=T:=by simp only[List.all_cons,Bool.and_eq_true] at hp; exact hp.2
  have h':G5 g σ (aop P o (Z3 P (pre++it::post) K) σ) (match o.dst with | some d=>Z3 P (pre++it::post) K (σ.set d .no) | none=>False):=h
  show G5 g σ (aop P o (Z3 P pre _) σ) _
  have hno:o.dst=G:=by cases o<;>first | rfl | (simp[AOp.idle] at hi; done)
  simp only[hno] at h' ⊢
  have key:∀X Y:St→Prop,(∀σ,X σ→Y σ)→aop P o X σ→aop P o Y σ:=fun X Y hXY hx=>by
   cases o<;>first
    | (simp[AOp.idle] at hi; done)
    | (simp only[aop] at hx ⊢; split at hx<;>simp_all)
  have mono:∀{X Y:Prop},(X→Y)→G5 g σ X False→G5 g σ Y False:=fun hXY hx=>by
   unfold G5 at hx ⊢
   cases g with
   | none=>exact hXY hx
   | some g=>
    simp only at hx ⊢
    split
    ·rename_i b hb
     rw[hb] at hx
     simp only at hx
     split at hx
     ·rename_i e
      rw[if_pos e]
      exact hXY hx
     ·exact hx.elim
    ·rename_i hb
     rw[hb] at hx
     exact hx
    ·rename_i h1 h2
     split at hx
     ·rename_i b hb
      exact h1 b hb
     ·rename_i hb
      exact h2 hb
     ·exact hx
  exact mono (key _ _ fun σ h=>C4r pre σ hp' h) h'
theorem B6{its:List (List Nat × AItem)}{τ:St}{f:Nat}{ms:List Bool}(h:C0m P its τ f ms σ its 0):E8 P its τ (f+1) ms σ:=by
 intro i it hi h1 h2
 obtain⟨pre,post,hp,hq,this⟩:=B9g h i it hi (by simpa using h1) h2
 rw[Nat.zero_add] at this
 exact⟨pre,post,hp,hq,C4r pre _ hp this⟩
theorem np{it:AItem}{Q:AExit→St→Prop}(h:go P [.ops [it]] Q .normal (E σ)):∃pre post:List AItem,pre.all (fun i=>i.2.idle)=T∧post.all (fun i=>i.2.idle)=T∧go P [.ops (pre++it::post)] Q .normal (E σ):=⟨[],[],rfl,rfl,h⟩
theorem cdt{α:Type}{a b:α}:(bif T then a else b)=a:=rfl
theorem cdf{α:Type}{a b:α}:(bif F then a else b)=b:=rfl
theorem hq{ms:List Bool}{N:List Nat}{a:Bool}(hw:∀j∈N,ms[j]?=E T)(j:Nat)(h:N.elem j=T)(e:ms[j]?=E a):a=T:=by
 have:=hw j (List.elem_iff.1 h)
 rw[e] at this
 exact Option.some.inj this
theorem hz{ms:List Bool}{i:Nat}{a:Bool}(h:ms[i]?=E F)(e:ms[i]?=E a):a=F:=Option.some.inj (e.symm.trans h)
theorem C5w{c:ACode}{i:Nat}:go P (.code c::k) Q (.exit i) (E σ)=go P k Q (.exit i) (E σ):=rfl
theorem C6y{c:ACode}:go P (.code c::k) Q .ret (E σ)=go P k Q .ret (E σ):=rfl
theorem E57{id:Nat}:go P (.blk id::k) Q .normal (E σ)=go P k Q .normal (E σ):=rfl
theorem D1g{id:Nat}:go P (.blk id::k) Q .ret (E σ)=go P k Q .ret (E σ):=rfl
theorem C6t{id i:Nat}:go P (.blk id::k) Q (.exit i) (E σ)=go P k Q (bif i==id then .normal else .exit i) (E σ):=by
 by_cases h:i=id
 ·simp[go,go0,h]
 ·have h':(i==id)=F:=by simpa using h
  simp[go,go0,h,h']
theorem D1q:go P (.ops []::k) Q .normal (E σ)=go P k Q .normal (E σ):=rfl
theorem C7a:go P (.dops []::k) Q .normal (E σ)=go P k Q .normal (E σ):=rfl
theorem C5b{K:St→Prop}(h1:∀d f args,o≠ .call d f args)(h2:∀d x args,o≠ .callv d x args):aop P o K σ=A0a (σ.step o) K:=by
 cases o<;>first
  | rfl
  | (show(match St.step σ _ with | some σ'=>K σ' | none=>False)=A0a (St.step σ _) K; generalize St.step σ _=x; cases x<;>rfl)
  | exact absurd rfl (h1 _ _ _)
  | exact absurd rfl (h2 _ _ _)
theorem C1c(h:o.isPure=T):σ.step o=(σ.pure o).map fun p=>σ.set p.1 p.2:=by
 cases o<;>first
  | (simp[AOp.isPure] at h; done)
  | skip
 all_goals
  simp only[St.step,St.made]
  generalize σ.pure _=x
  cases x<;>rfl
theorem D2i(h:o.isMade=T):σ.step o=(σ.made o).bind σ.make:=by
 cases o<;>first
  | (simp[AOp.isMade] at h; done)
  | skip
 all_goals
  simp only[St.step,St.pure]
  generalize σ.made _=x
  cases x<;>rfl
theorem N4(h:o.isCall=F):go P (.ops ((G,o)::its)::k) Q .normal (E σ)=go P (.ops its::k) Q .normal (σ.step o):=by
 show aop P o (Z3 P its (go0 P k Q .normal)) σ=_
 rw[C5b (by rintro _ _ _ rfl; simp[AOp.isCall] at h) (by rintro _ _ _ rfl; simp[AOp.isCall] at h)]
 cases σ.step o<;>rfl
theorem W4{d f args}{xs:List DV}{rs:List R1}(hf:FC P f xs rs)(h1:σ.toDVs args=E xs)(h2:A3m rs)(h3:σ.fresh d=T)(h4:(rs.flatMap R1.cells).length≤64)(h5:go P (.ops its::k) Q .normal (E (σ.inst d rs))) :
  go P (.ops ((G,.call d f args)::its)::k) Q .normal (E σ):= .inl ⟨xs,rs,.inl ⟨h1,.inl h2⟩,hf,h3,h4,h5⟩
theorem A4{d f args}{xs:List DV}{rs:List R1}(hf:FC P f xs rs)(h1:σ.toIVs args=E xs)(h3:σ.fresh d=T)(h4:(rs.flatMap R1.cells).length≤64)(h5:go P (.ops its::k) Q .normal (E (σ.inst d rs))) :
  go P (.ops ((G,.call d f args)::its)::k) Q .normal (E σ):= .inl ⟨xs,rs,.inr h1,hf,h3,h4,h5⟩
theorem B25{d f args}{σ':St}{r:AV}(hf:B02 P f (args.map σ.val) σ σ' r)(h5:go P (.ops its::k) Q .normal (E (σ'.set d r))):go P (.ops ((G,.call d f args)::its)::k) Q .normal (E σ):= .inr (.inr ⟨σ',r,hf,h5⟩)
theorem D7h{d x args f caps}{xs:List DV}{rs:List R1}(hf:FC P f (xs++caps.map .sc) rs)(h0:A2u P f=T)(hx:σ.toDV (σ.val x)=E (.sc (.clo f caps)))(h1:σ.toDVs args=E xs)(h2:A3m rs)(h3:σ.fresh d=T)(h4:(rs.flatMap R1.cells).length≤64)
  (h5:go P (.ops its::k) Q .normal (E (σ.inst d rs))):go P (.ops ((G,.callv d x args)::its)::k) Q .normal (E σ):=⟨f,caps,xs,rs,.inl ⟨hx,h1,h2⟩,h0,hf,h3,h4,h5⟩
theorem H4(h:o.isPure=T):σ.step o=(σ.pure o).bind fun p=>I9 σ p.1 (E p.2):=by
 rw[C1c h]
 cases σ.pure o<;>rfl
theorem tag{d:Nat}{x:Option AV}:((x.map (Prod.mk d)).bind fun p=>I9 σ p.1 (E p.2))=I9 σ d x:=by cases x<;>rfl
theorem C7y{d x}:σ.step (.mv d x)=E (σ.set d (σ.val x)):=rfl
theorem C0y{d c a b}:σ.step (.pick d c a b)=I9 σ d (B5k (σ.val c) (σ.val a) (σ.val b)):=(H4 rfl).trans tag
theorem B7x{d zs ps}:σ.step (.build d zs ps)=I9 σ d ((A51 zs (ps.map fun p=>(p.1,p.2.1,σ.val p.2.2))).map fun cs=> .v (.ag cs)):=by
 rw[H4 rfl]
 simp only[St.pure]
 cases A51 zs (ps.map fun p=>(p.1,p.2.1,σ.val p.2.2))<;>rfl
theorem C02{d x g n}:σ.step (.load d x g n)=I9 σ d (A1s σ g n (σ.val x)):=(H4 rfl).trans tag
theorem C1l{d x}:σ.step (.nilc d x)=I9 σ d (A9l (σ.val x)):=(H4 rfl).trans tag
theorem C5t{d op x y}:σ.step (.bin d op x y)=I9 σ d (A4a op (σ.val x) (σ.val y)):=(H4 rfl).trans tag
theorem C5c{d g ks x y}:σ.step (.geq d g ks x y)=I9 σ d (B9u g ks (σ.val x) (σ.val y)):=(H4 rfl).trans tag
theorem C5o{d g x y}:σ.step (.beq d g x y)=I9 σ d (C0b g (σ.val x) (σ.val y)):=(H4 rfl).trans tag
theorem C8h{d op x}:σ.step (.un d op x)=I9 σ d (unV op (σ.val x)):=(H4 rfl).trans tag
def C9t(k:IntKind):AV→Option AV
 | .v (.sc (.dat (.int _ n)))=>E (.v (.sc (.dat (.int k (k.wrap n)))))
 | _=>G
theorem C0w{d kd x}:σ.step (.conv d kd x)=I9 σ d (C9t kd (σ.val x)):=by
 rw[H4 rfl]
 simp only[St.pure]
 generalize σ.val x=v
 cases v with
 | v x=>cases x with
  | sc c=>cases c with
   | dat d=>cases d<;>rfl
   | _=>rfl
  | ag=>rfl
 | _=>rfl
theorem C5f{d sz x lo hi mx}:σ.step (.slc d sz x lo hi mx)=I9 σ d (B0n σ sz (σ.val x) lo hi mx):=(H4 rfl).trans tag
theorem C1k{d x lo hi}:σ.step (.sslc d x lo hi)=I9 σ d (B06 σ (σ.val x) lo hi):=(H4 rfl).trans tag
theorem B88{d x off}:σ.step (.faddr d x off)=I9 σ d (A1i σ.rows off (σ.val x)):=(H4 rfl).trans tag
theorem B71{d x off g n}:σ.step (.field d x off g n)=I9 σ d (A8q off g n (σ.val x)):=(H4 rfl).trans tag
theorem B9a{d x i sz}:σ.step (.iaddr d x i sz)=I9 σ d (A3s σ.rows sz (σ.val x) (σ.val i)):=(H4 rfl).trans tag
theorem C4s{d x i}:σ.step (.idx d x i)=I9 σ d (C0p (σ.val x) (σ.val i)):=(H4 rfl).trans tag
theorem C06{d t x}:σ.step (.mkif d t x)=I9 σ d (B1l t (σ.val x)):=(H4 rfl).trans tag
theorem C0v{d x t zc}:σ.step (.tass d x t zc)=I9 σ d (B5r t zc (σ.val x)):=(H4 rfl).trans tag
theorem C1p{d x i}:σ.step (.extr d x i)=I9 σ d (B5d i (σ.val x)):=(H4 rfl).trans tag
theorem C57{d x}:σ.step (.len d x)=I9 σ d (B0t σ.rows (σ.val x)):=(H4 rfl).trans tag
theorem B8k{d x}:σ.step (.sconv d x)=I9 σ d (A8r σ.rows (σ.val x)):=(H4 rfl).trans tag
theorem C0z{d x}:σ.step (.slen d x)=I9 σ d (B5j (σ.val x)):=(H4 rfl).trans tag
theorem C7n{d m x y}:σ.step (.mm d m x y)=I9 σ d (mmV m (σ.val x) (σ.val y)):=(H4 rfl).trans tag
theorem C6o{d f caps}:σ.step (.mkf d f caps)=I9 σ d ((A98 f (caps.map σ.val)).map fun ids=> .v (.sc (.clo f ids))):=by
 rw[H4 rfl]
 simp only[St.pure]
 cases A98 f (caps.map σ.val)<;>rfl
theorem E0x(h:o.isMade=T):σ.step o=mk1 σ (σ.made o):=by
 rw[D2i h]
 cases σ.made o<;>rfl
theorem D0f{x y n}:σ.step (.store x y n)=σ.storeV n (σ.val x) (σ.val y):=rfl
theorem D7m{d sz b x y}:σ.step (.app d sz b x y)=σ.appV d sz b (σ.val x) (σ.val y):=rfl
theorem C03{d v}:I9 σ d (E v)=E (σ.set d v):=rfl
theorem C7t{t:Nat}{yes no:Prop}:G5 (E (t,T)) σ yes no=Z9 (σ.get t) yes no no:=by
 simp only[G5,Z9]
 generalize σ.get t=v
 cases v with
 | v x=>cases x with
  | sc c=>cases c with
   | dat d=>cases d<;>rfl
   | _=>rfl
  | ag=>rfl
 | _=>rfl
theorem C78{t:Nat}{yes no:Prop}:G5 (E (t,F)) σ yes no=Z9 (σ.get t) no yes no:=by
 simp only[G5,Z9]
 generalize σ.get t=v
 cases v with
 | v x=>cases x with
  | sc c=>cases c with
   | dat d=>cases d with
    | bool b=>cases b<;>simp
    | _=>rfl
   | _=>rfl
  | ag=>rfl
 | _=>rfl
theorem D3d{t}:go P (.ops ((E (t,T),o)::its)::k) Q .normal (E σ)=go P (.gd (σ.get t) T o its::k) Q .normal (E σ):=by
 show G5 (E (t,T)) σ _ _=_
 rw[C7t]
 show _=Z9 _ _ _ _
 simp only[cond_true]
 congr 1<;>(cases o.dst<;>rfl)
theorem D39{t}:go P (.ops ((E (t,F),o)::its)::k) Q .normal (E σ)=go P (.gd (σ.get t) F o its::k) Q .normal (E σ):=by
 show G5 (E (t,F)) σ _ _=_
 rw[C78]
 show _=Z9 _ _ _ _
 simp only[cond_false]
 congr 1<;>(cases o.dst<;>rfl)
theorem D3p{b:Bool}:go P (.gd (.v (.sc (.dat (.bool b)))) b o its::k) Q .normal (E σ)=go P (.ops ((G,o)::its)::k) Q .normal (E σ):=by
 cases b<;>(simp only[go,go0,Z9,cond_true,cond_false]; simp[Z3,G5])
theorem D30:go P (.gd (.v (.sc (.dat (.bool F)))) T o its::k) Q .normal (E σ)=go P (.ops its::k) Q .normal (unw σ o.dst):=by
 simp only[go,go0,Z9,cond_true]
 cases o.dst<;>simp[A0a,unw]
theorem D4g:go P (.gd (.v (.sc (.dat (.bool T)))) F o its::k) Q .normal (E σ)=go P (.ops its::k) Q .normal (unw σ o.dst):=by
 simp only[go,go0,Z9,cond_false]
 cases o.dst<;>simp[A0a,unw]
theorem F4a{d x}:go P (.ops ((G,.mv d x)::its)::k) Q .normal (E σ)=go P (.ops its::k) Q .normal (E (σ.set d (σ.val x))):=by
 rw[N4 rfl,C7y]
theorem D5k{d c a b}:go P (.ops ((G,.pick d c a b)::its)::k) Q .normal (E σ)=go P (.ops its::k) Q .normal (I9 σ d (B5k (σ.val c) (σ.val a) (σ.val b))):=by
 rw[N4 rfl,C0y]
theorem D8e{d zs ps}:go P (.ops ((G,.build d zs ps)::its)::k) Q .normal (E σ)=go P (.ops its::k) Q .normal (I9 σ d ((A51 zs (ps.map fun p=>(p.1,p.2.1,σ.val p.2.2))).map fun cs=> .v (.ag cs))):=by
 rw[N4 rfl,B7x]
theorem E1b{d x g n}:go P (.ops ((G,.load d x g n)::its)::k) Q .normal (E σ)=go P (.ops its::k) Q .normal (I9 σ d (A1s σ g n (σ.val x))):=by
 rw[N4 rfl,C02]
theorem E2m{d x}:go P (.ops ((G,.nilc d x)::its)::k) Q .normal (E σ)=go P (.ops its::k) Q .normal (I9 σ d (A9l (σ.val x))):=by
 rw[N4 rfl,C1l]
theorem E6c{d op x y}:go P (.ops ((G,.bin d op x y)::its)::k) Q .normal (E σ)=go P (.ops its::k) Q .normal (I9 σ d (A4a op (σ.val x) (σ.val y))):=by
 rw[N4 rfl,C5t]
theorem E48{d g ks x y}:go P (.ops ((G,.geq d g ks x y)::its)::k) Q .normal (E σ)=go P (.ops its::k) Q .normal (I9 σ d (B9u g ks (σ.val x) (σ.val y))):=by
 rw[N4 rfl,C5c]
theorem E4h{d g x y}:go P (.ops ((G,.beq d g x y)::its)::k) Q .normal (E σ)=go P (.ops its::k) Q .normal (I9 σ d (C0b g (σ.val x) (σ.val y))):=by
 rw[N4 rfl,C5o]
theorem E9v{d op x}:go P (.ops ((G,.un d op x)::its)::k) Q .normal (E σ)=go P (.ops its::k) Q .normal (I9 σ d (unV op (σ.val x))):=by
 rw[N4 rfl,C8h]
theorem E25{d kd x}:go P (.ops ((G,.conv d kd x)::its)::k) Q .normal (E σ)=go P (.ops its::k) Q .normal (I9 σ d (C9t kd (σ.val x))):=by
 rw[N4 rfl,C0w]
theorem E6w{d sz x lo hi mx}:go P (.ops ((G,.slc d sz x lo hi mx)::its)::k) Q .normal (E σ)=go P (.ops its::k) Q .normal (I9 σ d (B0n σ sz (σ.val x) lo hi mx)):=by
 rw[N4 rfl,C5f]
theorem E1j{d x lo hi}:go P (.ops ((G,.sslc d x lo hi)::its)::k) Q .normal (E σ)=go P (.ops its::k) Q .normal (I9 σ d (B06 σ (σ.val x) lo hi)):=by
 rw[N4 rfl,C1k]
theorem D46{d x off}:go P (.ops ((G,.faddr d x off)::its)::k) Q .normal (E σ)=go P (.ops its::k) Q .normal (I9 σ d (A1i σ.rows off (σ.val x))):=by
 rw[N4 rfl,B88]
theorem D5l{d x off g n}:go P (.ops ((G,.field d x off g n)::its)::k) Q .normal (E σ)=go P (.ops its::k) Q .normal (I9 σ d (A8q off g n (σ.val x))):=by
 rw[N4 rfl,B71]
theorem D74{d x i sz}:go P (.ops ((G,.iaddr d x i sz)::its)::k) Q .normal (E σ)=go P (.ops its::k) Q .normal (I9 σ d (A3s σ.rows sz (σ.val x) (σ.val i))):=by
 rw[N4 rfl,B9a]
theorem D75{d x i len sz}:go P (.ops ((G,.aaddr d x i len sz)::its)::k) Q .normal (E σ)=go P (.ops its::k) Q .normal (I9 σ d (B3u len sz (σ.val x) (σ.val i))):=by
 rw[N4 rfl,(H4 (o:= .aaddr d x i len sz) rfl).trans tag]
theorem E5s{d x i}:go P (.ops ((G,.idx d x i)::its)::k) Q .normal (E σ)=go P (.ops its::k) Q .normal (I9 σ d (C0p (σ.val x) (σ.val i))):=by
 rw[N4 rfl,C4s]
theorem E21{d t x}:go P (.ops ((G,.mkif d t x)::its)::k) Q .normal (E σ)=go P (.ops its::k) Q .normal (I9 σ d (B1l t (σ.val x))):=by
 rw[N4 rfl,C06]
theorem E2n{d x t zc}:go P (.ops ((G,.tass d x t zc)::its)::k) Q .normal (E σ)=go P (.ops its::k) Q .normal (I9 σ d (B5r t zc (σ.val x))):=by
 rw[N4 rfl,C0v]
theorem E2f{id}:go P (.ops ((G,.frzb id)::its)::k) Q .normal (E σ)=go P (.ops its::k) Q .normal (σ.step (.frzb id)):=N4 rfl
theorem E0v{d x i}:go P (.ops ((G,.extr d x i)::its)::k) Q .normal (E σ)=go P (.ops its::k) Q .normal (I9 σ d (B5d i (σ.val x))):=by
 rw[N4 rfl,C1p]
theorem E7i{d x}:go P (.ops ((G,.len d x)::its)::k) Q .normal (E σ)=go P (.ops its::k) Q .normal (I9 σ d (B0t σ.rows (σ.val x))):=by
 rw[N4 rfl,C57]
theorem D7q{d x}:go P (.ops ((G,.sconv d x)::its)::k) Q .normal (E σ)=go P (.ops its::k) Q .normal (I9 σ d (A8r σ.rows (σ.val x))):=by
 rw[N4 rfl,B8k]
theorem D9r{d x}:go P (.ops ((G,.slen d x)::its)::k) Q .normal (E σ)=go P (.ops its::k) Q .normal (I9 σ d (B5j (σ.val x))):=by
 rw[N4 rfl,C0z]
theorem F2b{d m x y}:go P (.ops ((G,.mm d m x y)::its)::k) Q .normal (E σ)=go P (.ops its::k) Q .normal (I9 σ d (mmV m (σ.val x) (σ.val y))):=by
 rw[N4 rfl,C7n]
theorem E4s{d f caps}:go P (.ops ((G,.mkf d f caps)::its)::k) Q .normal (E σ)=go P (.ops its::k) Q .normal (I9 σ d ((A98 f (caps.map σ.val)).map fun ids=> .v (.sc (.clo f ids)))):=by
 rw[N4 rfl,C6o]
theorem D79{x y n}:go P (.ops ((G,.store x y n)::its)::k) Q .normal (E σ)=go P (.ops its::k) Q .normal (σ.storeV n (σ.val x) (σ.val y)):=by
 rw[N4 rfl,D0f]
theorem E6o{d sz b x y}:go P (.ops ((G,.app d sz b x y)::its)::k) Q .normal (E σ)=go P (.ops its::k) Q .normal (σ.appV d sz b (σ.val x) (σ.val y)):=by
 rw[N4 rfl,D7m]
theorem E2v{d j id sz}:go P (.ops ((G,.ownb d j id sz)::its)::k) Q .normal (E σ)=go P (.ops its::k) Q .normal (σ.step (.ownb d j id sz)):=N4 rfl
theorem E4w{id}:go P (.ops ((G,.frz id)::its)::k) Q .normal (E σ)=go P (.ops its::k) Q .normal (σ.step (.frz id)):=N4 rfl
theorem E6l{its:List O4}:go P (.frs its::k) Q .normal (E σ)=go P (.fr (A0h its σ):: .dops its::k) Q .normal (E σ):=rfl
theorem C6{b:Bool}(hb:b=T)(h:go P k Q .normal (E σ)):go P (.fr b::k) Q .normal (E σ):=⟨hb,h⟩
theorem E58{its:List O4}:go P (.dops ((G,G,o)::its)::k) Q .normal (E σ)=go P (.ops [(G,o)]:: .frs its::k) Q .normal (E σ):=rfl
theorem C5y{α:Type}{l:List α}{f:α→Bool}(h:∀x,f x=T):l.all f=T:=List.all_eq_true.2 fun x _=>h x
def D1t(τ σ:St)(N:List Nat)(o:AOp)(K:St→Prop):Prop:=
 match τ.pure o with
 | some (d,v)=>v.avoids N=T∧K (σ.set d v)
 | none=>match τ.made o with
  | some m=>(match m with | .box _ cs=>cs.all (·.avoids N) | _=>T)=T∧(match σ.make m with
   | some σ'=>K σ'
   | none=>False)
  | none=>False
theorem B7n{K:St→Prop}(hc:o.isCall=F):B38 P N o K σ=D1t (σ.less N) σ N o K:=by
 cases o<;>first
  | rfl
  | (simp[AOp.isCall] at hc; done)
theorem D58(hc:o.isCall=F)(hg:o.gentle=T):σ.step o=(match σ.pure o with
  | some (d,v)=>E (σ.set d v)
  | none=>match σ.made o with
   | some m=>σ.make m
   | none=>G):=by
 cases o<;>first
  | rfl
  | (simp[AOp.isCall] at hc; done)
  | (simp[AOp.gentle] at hg; done)
theorem D78{K:St→Prop}(hg:o.gentle=T)(hc:o.isCall=F):B38 P [] o K σ=aop P o K σ:=by
 cases hc:o.isCall with
 | true=>simp_all
 | false=>
  rw[B7n hc,C5b (by rintro _ _ _ rfl; simp[AOp.isCall] at hc) (by rintro _ _ _ rfl; simp[AOp.isCall] at hc),D58 hc hg]
  unfold D1t
  show(match σ.pure o with | some (d,v)=>v.avoids []=T∧K (σ.set d v) | none=>_)=_
  cases hp:σ.pure o with
  | some p=>
   have hav:p.2.avoids []=T:=C5y fun c=>rfl
   simp only[A0a,hav,true_and]
  | none=>
   show(match σ.made o with | some m=>_ | none=>False)=_
   cases hm:σ.made o with
   | none=>rfl
   | some m=>
    cases m with
    | box d cs=>
     have hav:cs.all (·.avoids [])=T:=C5y fun c=>rfl
     show(cs.all (·.avoids [])=T∧(match σ.make (.box d cs) with | some σ'=>K σ' | none=>False))=A0a (σ.make (.box d cs)) K
     rw[hav]
     cases σ.make (.box d cs)<;>simp[A0a]
    | row d sz es=>
     show(T=T∧(match σ.make (.row d sz es) with | some σ'=>K σ' | none=>False))=A0a (σ.make (.row d sz es)) K
     cases σ.make (.row d sz es)<;>simp[A0a]
theorem J2{its:List O4}(hg:o.gentle=T)(hc:o.isCall=F):go P (.dops ((E [],G,o)::its)::k) Q .normal (E σ)=go P (.ops [(G,o)]:: .dops its::k) Q .normal (E σ):=
 D78 hg hc
def U5(σ:St)(N:List Nat):Option Nat→Option St→Option St
 | some d,E τ=>bif (τ.get d).avoids N then E (σ.set d (τ.get d)) else G
 | _,_=>G
theorem L9{its:List O4}(hp:o.isPure=T):go P (.dops ((E N,G,o)::its)::k) Q .normal (E σ)=go P (.dops its::k) Q .normal (U5 σ N o.dst ((σ.less N).step o)):=by
 have hc:o.isCall=F:=by cases o<;>first | rfl | (simp[AOp.isPure] at hp; done)
 show B38 P N o _ σ=_
 rw[B7n hc,C1c hp]
 unfold D1t
 cases h:(σ.less N).pure o with
 | some p=>
  obtain⟨d,v⟩:=p
  rw[(B63 h).1]
  show(v.avoids N=T∧_)=go P (.dops its::k) Q .normal (bif (((σ.less N).set d v).get d).avoids N then E (σ.set d (((σ.less N).set d v).get d)) else G)
  rw[St.get_set_same]
  cases v.avoids N with
  | true=>simp[go,go0]
  | false=>simp[go]
 | none=>
  have hm:(σ.less N).made o=G:=by cases o<;>first | rfl | (simp[AOp.isPure] at hp; done)
  show(match (σ.less N).made o with | some m=>_ | none=>False)=_
  rw[hm]
  cases o.dst<;>rfl
def E6e(N:List Nat):Mk→Bool
 | .box _ cs=>cs.all (·.avoids N)
 | _=>T
theorem D7o{its:List O4}{m:Mk}(hm:(σ.less N).made o=E m)(hv:E6e N m=T){σ':St}(hmk:σ.make m=E σ')(h:go P (.dops its::k) Q .normal (E σ')) :
  go P (.dops ((E N,G,o)::its)::k) Q .normal (E σ):=by
 have hc:o.isCall=F:=by cases o<;>first | rfl | (simp[St.made] at hm; done)
 show B38 P N o _ σ
 rw[B7n hc]
 unfold D1t
 rw[C01 hm]
 simp only[hm,hmk]
 cases m with
 | box d cs=>exact⟨hv,h⟩
 | row d sz es=>exact⟨rfl,h⟩
theorem A73{its:List O4}{d f args}{xs:List DV}{rs:List R1}(hf:FC P f xs rs)(h1:(σ.less N).toDVs args=E xs)(h2:A3m rs)(h3:σ.fresh d=T)(h4:(rs.flatMap R1.cells).length≤64)(h5:go P (.dops its::k) Q .normal (E (σ.inst d rs))) :
  go P (.dops ((E N,G,.call d f args)::its)::k) Q .normal (E σ):=⟨xs,rs,.inl ⟨h1,.inl h2⟩,hf,h3,h4,h5⟩
theorem D3i{its:List O4}{d x args f caps}{xs:List DV}{rs:List R1}(hf:FC P f (xs++caps.map .sc) rs)(h0:A2u P f=T)(hx:(σ.less N).toDV ((σ.less N).val x)=E (.sc (.clo f caps)))(h1:(σ.less N).toDVs args=E xs)(h2:A3m rs)(h3:σ.fresh d=T)(h4:(rs.flatMap R1.cells).length≤64)
  (h5:go P (.dops its::k) Q .normal (E (σ.inst d rs))):go P (.dops ((E N,G,.callv d x args)::its)::k) Q .normal (E σ):=⟨f,caps,xs,rs,.inl ⟨hx,h1,h2⟩,h0,hf,h3,h4,h5⟩
theorem E6{its:List O4}{d f args}{xs:List DV}{rs:List R1}(hf:FC P f xs rs)(h1:(σ.less N).toIVs args=E xs)(h3:σ.fresh d=T)(h4:(rs.flatMap R1.cells).length≤64)(h5:go P (.dops its::k) Q .normal (E (σ.inst d rs))) :
  go P (.dops ((E N,G,.call d f args)::its)::k) Q .normal (E σ):=⟨xs,rs,.inr h1,hf,h3,h4,h5⟩
end
end Go.Vi
