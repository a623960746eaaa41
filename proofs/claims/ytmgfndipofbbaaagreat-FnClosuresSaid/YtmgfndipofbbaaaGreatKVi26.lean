/-
The value level. No condition.
-/
import Derived.Test.YtmgfndipofbbaaaGreatKVi25
namespace Go.Vi
set_option linter.all false
open Bool renaming true → T, false → F
open Option renaming some → E, none → G
open _root_ renaming List → L, Option → O, Bool → U, Nat → V
inductive Fr where
 | code (c:X2)
 | ops (its:L AItem)
 | dops (its:L P2)
 | blk (id:V)
 | pick (v:AV) (x y:X2)
 | gd (v:AV) (want:U) (o:AOp) (its:L AItem)
 | gdd (v:AV) (want:U) (N:O (L V)) (o:AOp) (its:L P2)
 | fr (b:U)
 | frs (its:L P2)
 | panF (x:Opd)
 | calF (d:V) (f:FuncId) (args:L Opd)
def A1a{α:Type}(o:O α)(f:α→Prop):Prop:=
 match o with
 | some a=>f a
 | none=>False
def A0u(v:AV)(X Y Z:Prop):Prop:=
 match v with
 | .v (.sc (.dat (.bool b)))=>if b=T then X else Y
 | .no=>Z
 | _=>False
def I8(σ:St)(d:V):O AV→O St
 | some v=>E (σ.set d v)
 | none=>G
def unw(σ:St):O V→O St
 | some d=>E (σ.set d .no)
 | none=>G
def mk1(σ:St):O Mk→O St
 | some m=>σ.make m
 | none=>G
def go0(P:Program):L Fr→(Xm→St→Prop)→Xm→St→Prop
 | [],Q,e,σ=>Q e σ
 | .code c::k,Q,.normal,σ=>AWP P c (go0 P k Q) σ
 | .ops its::k,Q,.normal,σ=>A0t P its (go0 P k Q .normal) σ
 | .dops its::k,Q,.normal,σ=>A6q P its (go0 P k Q .normal) σ
 | .pick v x y::k,Q,.normal,σ=>A0u v (AWP P x (go0 P k Q) σ) (AWP P y (go0 P k Q) σ) False
 | .gd v want o its::k,Q,.normal,σ=>A0u v (bif want then aop P o (A0t P its (go0 P k Q .normal)) σ else A1a o.dst fun d=>A0t P its (go0 P k Q .normal) (σ.set d .no))
   (bif want then A1a o.dst fun d=>A0t P its (go0 P k Q .normal) (σ.set d .no) else aop P o (A0t P its (go0 P k Q .normal)) σ)
   (A1a o.dst fun d=>A0t P its (go0 P k Q .normal) (σ.set d .no))
 | .gdd v want N o its::k,Q,.normal,σ=>A0u v (bif want then A6q P ((N,G,o)::its) (go0 P k Q .normal) σ else A1a o.dst fun d=>A6q P its (go0 P k Q .normal) (σ.set d .no))
   (bif want then A1a o.dst fun d=>A6q P its (go0 P k Q .normal) (σ.set d .no) else A6q P ((N,G,o)::its) (go0 P k Q .normal) σ)
   (A1a o.dst fun d=>A6q P its (go0 P k Q .normal) (σ.set d .no))
 | .fr b::k,Q,.normal,σ=>b=T∧go0 P k Q .normal σ
 | .frs its::k,Q,.normal,σ=>A0x its σ=T∧A6q P its (go0 P k Q .normal) σ
 | .panF x::k,Q,.normal,σ=>∃d,σ.val x= .v (.sc (.dat d))∧d.flat=T∧D1s d=T∧go0 P k Q (.pan d) σ
 | .calF d f args::k,Q,.normal,σ=>aop P (.call d f args) (go0 P k Q .normal) σ∨∃ds pd,σ.toDVs args=E ds∧FCp P f ds pd∧go0 P k Q (.pan pd) σ
 | .blk id::k,Q,.exit i,σ=>if i=id then go0 P k Q .normal σ else go0 P k Q (.exit i) σ
 | _::k,Q,e,σ=>go0 P k Q e σ
def go(P:Program)(k:L Fr)(Q:Xm→St→Prop)(e:Xm):O St→Prop
 | some σ=>go0 P k Q e σ
 | none=>False
def AOp.isPure:AOp→U
 | .mv .. | .pick .. | .build .. | .load .. | .nilc .. | .bin .. | .beq .. | .geq .. | .un .. | .conv .. | .slc .. | .sslc .. | .faddr .. | .field .. | .iaddr .. | .aaddr .. | .idx .. | .extr .. | .len .. | .slen .. | .sconv .. | .mm .. | .mkf .. | .zsl _ | .mkif .. | .tass .. =>T
 | _=>F
def AOp.isMade:AOp→U
 | .box .. | .alloc .. | .bslice .. | .mksl .. | .zap .. =>T
 | _=>F
def AOp.isCall:AOp→U
 | .call .. | .callv .. =>T
 | .mv .. | .pick .. | .box .. | .alloc .. | .build .. | .bslice .. | .load .. | .store .. | .clr .. | .nilc .. | .bin .. | .beq .. | .geq .. | .un .. | .conv .. | .mksl .. | .slc .. | .sslc .. | .faddr .. | .field .. | .iaddr .. | .aaddr .. | .idx .. | .extr .. | .len .. | .slen .. | .sconv .. | .app .. | .mm .. | .mkf .. | .zsl _ | .zap .. | .mkif .. | .tass .. =>F
 | .drop _ | .own .. | .ownb .. | .ren .. | .frz _ | .frzb _ | .forget _ | .keep .. | .cut _=>F
section
variable {P : Program} {k : L Fr} {Q : Xm → St → Prop} {σ : St} {its : L AItem} {ds : L P2} {o : AOp} {N : L V}
theorem A9g{c:X2}(h:go P [.code c] Q .normal (E σ)):AWP P c Q σ:=C7f c (fun _ _ h=>h) h
theorem E68{e}:go P k Q e G=False:=rfl
theorem E7x{e}:go P [] Q e (E σ)=Q e σ:=rfl
theorem E3z:go P (.code .skip::k) Q .normal (E σ)=go P k Q .normal (E σ):=rfl
theorem E9x:go P (.code (.reg its)::k) Q .normal (E σ)=go P (.ops its::k) Q .normal (E σ):=rfl
theorem E8q:go P (.code (.drw ds)::k) Q .normal (E σ)=go P (.fr (A0x ds σ):: .dops ds::k) Q .normal (E σ):=rfl
theorem F6v:go P (.fr T::k) Q .normal (E σ)=go P k Q .normal (E σ):=by simp[go,go0]
theorem F0n{x y:X2}:go P (.code (.seq x y)::k) Q .normal (E σ)=go P (.code x:: .code y::k) Q .normal (E σ):=by
 simp only[go,go0,AWP]
 congr 1
 funext e σ'
 cases e<;>simp only[go0]
theorem D9s{id:V}{c:X2}:go P (.code (.block id c)::k) Q .normal (E σ)=go P (.code c:: .blk id::k) Q .normal (E σ):=by
 simp only[go,go0,AWP]
 congr 1
 funext e σ'
 cases e<;>simp only[go0]
theorem E4l{id:V}:go P (.code (.exit id)::k) Q .normal (E σ)=go P k Q (.exit id) (E σ):=rfl
theorem E7t:go P (.code .ret::k) Q .normal (E σ)=go P k Q .ret (E σ):=rfl
theorem E37{c:Opd}{x y:X2}:go P (.code (.cond c x y)::k) Q .normal (E σ)=go P (.pick (σ.val c) x y::k) Q .normal (E σ):=by
 show(match σ.val c with | .v (.sc (.dat (.bool b)))=>if b=T then AWP P x (go0 P k Q) σ else AWP P y (go0 P k Q) σ | _=>False)=A0u (σ.val c) _ _ _
 unfold A0u
 generalize σ.val c=v
 cases v with
 | v x=>cases x with
  | sc c=>cases c with
   | dat d=>cases d<;>rfl
   | _=>rfl
  | ag=>rfl
 | _=>rfl
theorem D8n{x y:X2}:go P (.pick (.v (.sc (.dat (.bool T)))) x y::k) Q .normal (E σ)=go P (.code x::k) Q .normal (E σ):=by simp[go,go0,A0u]
theorem D8r{x y:X2}:go P (.pick (.v (.sc (.dat (.bool F)))) x y::k) Q .normal (E σ)=go P (.code y::k) Q .normal (E σ):=by simp[go,go0,A0u]
theorem F0x{x:Opd}:go P (.code (.pan its x)::k) Q .normal (E σ)=go P (.ops its:: .panF x::k) Q .normal (E σ):=rfl
theorem E7r{d f args}:go P (.code (.cal its d f args)::k) Q .normal (E σ)=go P (.ops its:: .calF d f args::k) Q .normal (E σ):=rfl
theorem C2p{d f args}(H:go P (.ops [(G,.call d f args)]::k) Q .normal (E σ)):go P (.calF d f args::k) Q .normal (E σ):= .inl H
theorem C98{c:X2}{d:D}:go P (.code c::k) Q (.pan d) (E σ)=go P k Q (.pan d) (E σ):=rfl
theorem D4d{id:V}{d:D}:go P (.blk id::k) Q (.pan d) (E σ)=go P k Q (.pan d) (E σ):=rfl
theorem A4w{its:L (L V × AItem)}{τ σ2:St}{ks bs rs:L V}(h0:(σ.kept ks bs rs).pad (its.filterMap fun i=>i.2.2.dst)=σ2)(h1:E3 P its τ its.length (its.map fun _=>F) σ2)(h2:go P k Q .normal (E τ)):go P (.code (.any its)::k) Q .normal (E σ):=
 ⟨ks,bs,rs,τ,h0▸h1,h2⟩
def C2r(P:Program)(its:L (L V × AItem))(τ:St)(f:V)(ms:L U)(σ:St):L (L V × AItem)→V→Prop
 | [],_=>True
 | it::r,i=>(ms[i]?=E F→(∀j∈it.1,ms[j]?=E T)→∃pre post:L AItem,pre.all (fun i=>i.2.idle)=T∧post.all (fun i=>i.2.idle)=T∧go P [.ops (pre++it.2::post)] (fun _=>E3 P its τ f (ms.set i T)) .normal (E σ))∧C2r P its τ f ms σ r (i+1)
theorem C1h{its:L (L V × AItem)}{τ:St}{f:V}{ms:L U}:∀{r:L (L V × AItem)} {n:V},C2r P its τ f ms σ r n→∀(i:V) (it:L V × AItem),r[i]?=E it→ms[n+i]?=E F→(∀j∈it.1,ms[j]?=E T)→∃pre post:L AItem,pre.all (fun i=>i.2.idle)=T∧post.all (fun i=>i.2.idle)=T∧go P [.ops (pre++it.2::post)] (fun _=>E3 P its τ f (ms.set (n+i) T)) .normal (E σ)
 | [],_,_,i,it,hi,_,_=>by simp at hi
 | x::r,n,h,0,it,hi,h1,h2=>by
  simp at hi
  subst hi
  exact h.1 h1 h2
 | x::r,n,h,i+1,it,hi,h1,h2=>by
  have:=C1h h.2 i it (by simpa using hi) (by rw[show n+1+i=n+(i+1) by omega]; exact h1) h2
  rw[show n+1+i=n+(i+1) by omega] at this
  exact this
theorem C7o{it:AItem}{post:L AItem}{K:St→Prop}:∀(pre:L AItem) (σ:St),pre.all (fun i=>i.2.idle)=T→A0t P (pre++it::post) K σ→A0t P pre (fun σ=>G4 it.1 σ (aop P it.2 (A0t P post K) σ) (match it.2.dst with | some d=>A0t P post K (σ.set d .no) | none=>False)) σ
 | [],_,_,h=>h
 | (g,o)::pre,σ,hp,h=>by
  have hi:o.idle=T:=by simp only[List.all_cons,Bool.and_eq_true] at hp; exact hp.1
  have hp':pre.all (fun i=>i.2.idle)=T:=by simp only[List.all_cons,Bool.and_eq_true] at hp; exact hp.2
  have h':G4 g σ (aop P o (A0t P (pre++it::post) K) σ) (match o.dst with | some d=>A0t P (pre++it::post) K (σ.set d .no) | none=>False):=h
  show G4 g σ (aop P o (A0t P pre _) σ) _
  have hno:o.dst=G:=by cases o<;>first | rfl | (simp[AOp.idle] at hi; done)
  simp only[hno] at h' ⊢
  have key:∀X Y:St→Prop,(∀σ,X σ→Y σ)→aop P o X σ→aop P o Y σ:=fun X Y hXY hx=>by
   cases o<;>first
    | (simp[AOp.idle] at hi; done)
    | (simp only[aop] at hx ⊢; split at hx<;>simp_all)
  have mono:∀{X Y:Prop},(X→Y)→G4 g σ X False→G4 g σ Y False:=fun hXY hx=>by
   unfold G4 at hx ⊢
   cases g with
   | none=>exact hXY hx
   | some g=>
    simp only at hx ⊢
    split
    ·rename_i b hb
     rw[hb] at hx
     simp only at hx
     split at hx
     ·rename_i e
      rw[if_pos e]
      exact hXY hx
     ·exact hx.elim
    ·rename_i hb
     rw[hb] at hx
     exact hx
    ·rename_i h1 h2
     split at hx
     ·rename_i b hb
      exact h1 b hb
     ·rename_i hb
      exact h2 hb
     ·exact hx
  exact mono (key _ _ fun σ h=>C7o pre σ hp' h) h'
theorem B3{its:L (L V × AItem)}{τ:St}{f:V}{ms:L U}(h:C2r P its τ f ms σ its 0):E3 P its τ (f+1) ms σ:=by
 intro i it hi h1 h2
 obtain⟨pre,post,hp,hq,this⟩:=C1h h i it hi (by simpa using h1) h2
 rw[Nat.zero_add] at this
 exact⟨pre,post,hp,hq,C7o pre _ hp this⟩
theorem np{it:AItem}{Q:Xm→St→Prop}(h:go P [.ops [it]] Q .normal (E σ)):∃pre post:L AItem,pre.all (fun i=>i.2.idle)=T∧post.all (fun i=>i.2.idle)=T∧go P [.ops (pre++it::post)] Q .normal (E σ):=⟨[],[],rfl,rfl,h⟩
theorem cdt{α:Type}{a b:α}:(bif T then a else b)=a:=rfl
theorem cdf{α:Type}{a b:α}:(bif F then a else b)=b:=rfl
theorem hq{ms:L U}{N:L V}{a:U}(hw:∀j∈N,ms[j]?=E T)(j:V)(h:N.elem j=T)(e:ms[j]?=E a):a=T:=by
 have:=hw j (List.elem_iff.1 h)
 rw[e] at this
 exact Option.some.inj this
theorem hz{ms:L U}{i:V}{a:U}(h:ms[i]?=E F)(e:ms[i]?=E a):a=F:=Option.some.inj (e.symm.trans h)
theorem C8l{c:X2}{i:V}:go P (.code c::k) Q (.exit i) (E σ)=go P k Q (.exit i) (E σ):=rfl
theorem C9y{c:X2}:go P (.code c::k) Q .ret (E σ)=go P k Q .ret (E σ):=rfl
theorem E8e{id:V}:go P (.blk id::k) Q .normal (E σ)=go P k Q .normal (E σ):=rfl
theorem D1w{id:V}:go P (.blk id::k) Q .ret (E σ)=go P k Q .ret (E σ):=rfl
theorem C91{id i:V}:go P (.blk id::k) Q (.exit i) (E σ)=go P k Q (bif i==id then .normal else .exit i) (E σ):=by
 by_cases h:i=id
 ·simp[go,go0,h]
 ·have h':(i==id)=F:=by simpa using h
  simp[go,go0,h,h']
theorem D3z:go P (.ops []::k) Q .normal (E σ)=go P k Q .normal (E σ):=rfl
theorem C97:go P (.dops []::k) Q .normal (E σ)=go P k Q .normal (E σ):=rfl
theorem C8t{K:St→Prop}(h1:∀d f args,o≠ .call d f args)(h2:∀d x args,o≠ .callv d x args):aop P o K σ=A1a (σ.step o) K:=by
 cases o<;>first
  | rfl
  | (show(match St.step σ _ with | some σ'=>K σ' | none=>False)=A1a (St.step σ _) K; generalize St.step σ _=x; cases x<;>rfl)
  | exact absurd rfl (h1 _ _ _)
  | exact absurd rfl (h2 _ _ _)
theorem C3u(h:o.isPure=T):σ.step o=(σ.pure o).map fun p=>σ.set p.1 p.2:=by
 cases o<;>first
  | (simp[AOp.isPure] at h; done)
  | skip
 all_goals
  simp only[St.step,St.made]
  generalize σ.pure _=x
  cases x<;>rfl
theorem D8b(h:o.isMade=T):σ.step o=(σ.made o).bind σ.make:=by
 cases o<;>first
  | (simp[AOp.isMade] at h; done)
  | skip
 all_goals
  simp only[St.step,St.pure]
  generalize σ.made _=x
  cases x<;>rfl
theorem N9(h:o.isCall=F):go P (.ops ((G,o)::its)::k) Q .normal (E σ)=go P (.ops its::k) Q .normal (σ.step o):=by
 show aop P o (A0t P its (go0 P k Q .normal)) σ=_
 rw[C8t (by rintro _ _ _ rfl; simp[AOp.isCall] at h) (by rintro _ _ _ rfl; simp[AOp.isCall] at h)]
 cases σ.step o<;>rfl
theorem R4{d f args}{xs:L DV}{rs:L R1}(hf:FC P f xs rs)(h1:σ.toDVs args=E xs)(h2:A4s rs)(h3:σ.fresh d=T)(h4:(rs.flatMap R1.cells).length≤64)(h5:go P (.ops its::k) Q .normal (E (σ.inst d rs))) :
  go P (.ops ((G,.call d f args)::its)::k) Q .normal (E σ):= .inl ⟨xs,rs,.inl ⟨h1,.inl h2⟩,hf,h3,h4,h5⟩
theorem A2{d f args}{xs:L DV}{rs:L R1}(hf:FC P f xs rs)(h1:σ.toIVs args=E xs)(h3:σ.fresh d=T)(h4:(rs.flatMap R1.cells).length≤64)(h5:go P (.ops its::k) Q .normal (E (σ.inst d rs))) :
  go P (.ops ((G,.call d f args)::its)::k) Q .normal (E σ):= .inl ⟨xs,rs,.inr h1,hf,h3,h4,h5⟩
theorem B1p{d f args}{σ':St}{r:AV}(hf:B0y P f (args.map σ.val) σ σ' r)(h5:go P (.ops its::k) Q .normal (E (σ'.set d r))):go P (.ops ((G,.call d f args)::its)::k) Q .normal (E σ):= .inr (.inr ⟨σ',r,hf,h5⟩)
theorem A9f{d x args f caps}{xs:L DV}{rs:L R1}(hf:FC P f (xs++caps.map .sc) rs)(h0:V6 P f=T)(hx:σ.toDV (σ.val x)=E (.sc (.clo f caps)))(h1:σ.toDVs args=E xs)(h2:A4s rs)(h3:σ.fresh d=T)(h4:(rs.flatMap R1.cells).length≤64)
  (h5:go P (.ops its::k) Q .normal (E (σ.inst d rs))):go P (.ops ((G,.callv d x args)::its)::k) Q .normal (E σ):=⟨f,caps,xs,rs,.inl ⟨hx,h1,h2⟩,h0,hf,h3,h4,h5⟩
theorem H3(h:o.isPure=T):σ.step o=(σ.pure o).bind fun p=>I8 σ p.1 (E p.2):=by
 rw[C3u h]
 cases σ.pure o<;>rfl
theorem tag{d:V}{x:O AV}:((x.map (Prod.mk d)).bind fun p=>I8 σ p.1 (E p.2))=I8 σ d x:=by cases x<;>rfl
theorem D0e{d x}:σ.step (.mv d x)=E (σ.set d (σ.val x)):=rfl
theorem C33{d c a b}:σ.step (.pick d c a b)=I8 σ d (B7u (σ.val c) (σ.val a) (σ.val b)):=(H3 rfl).trans tag
theorem B96{d zs ps}:σ.step (.build d zs ps)=I8 σ d ((A7c zs (ps.map fun p=>(p.1,p.2.1,σ.val p.2.2))).map fun cs=> .v (.ag cs)):=by
 rw[H3 rfl]
 simp only[St.pure]
 cases A7c zs (ps.map fun p=>(p.1,p.2.1,σ.val p.2.2))<;>rfl
theorem C3w{d x g n}:σ.step (.load d x g n)=I8 σ d (A5i σ g n (σ.val x)):=(H3 rfl).trans tag
theorem C35{d x}:σ.step (.nilc d x)=I8 σ d (B06 (σ.val x)):=(H3 rfl).trans tag
theorem C7i{d op x y}:σ.step (.bin d op x y)=I8 σ d (A5q op (σ.val x) (σ.val y)):=(H3 rfl).trans tag
theorem C8y{d g ks x y}:σ.step (.geq d g ks x y)=I8 σ d (C2l g ks (σ.val x) (σ.val y)):=(H3 rfl).trans tag
theorem C87{d g x y}:σ.step (.beq d g x y)=I8 σ d (C2g g (σ.val x) (σ.val y)):=(H3 rfl).trans tag
theorem D0d{d op x}:σ.step (.un d op x)=I8 σ d (unV op (σ.val x)):=(H3 rfl).trans tag
def D41(k:IntKind):AV→O AV
 | .v (.sc (.dat (.int _ n)))=>E (.v (.sc (.dat (.int k (k.wrap n)))))
 | _=>G
theorem C29{d kd x}:σ.step (.conv d kd x)=I8 σ d (D41 kd (σ.val x)):=by
 rw[H3 rfl]
 simp only[St.pure]
 generalize σ.val x=v
 cases v with
 | v x=>cases x with
  | sc c=>cases c with
   | dat d=>cases d<;>rfl
   | _=>rfl
  | ag=>rfl
 | _=>rfl
theorem C8e{d sz x lo hi mx}:σ.step (.slc d sz x lo hi mx)=I8 σ d (A8s σ sz (σ.val x) lo hi mx):=(H3 rfl).trans tag
theorem C3h{d x lo hi}:σ.step (.sslc d x lo hi)=I8 σ d (B2h σ (σ.val x) lo hi):=(H3 rfl).trans tag
theorem C1d{d x off}:σ.step (.faddr d x off)=I8 σ d (A2d σ.rows off (σ.val x)):=(H3 rfl).trans tag
theorem C0h{d x off g n}:σ.step (.field d x off g n)=I8 σ d (A9s off g n (σ.val x)):=(H3 rfl).trans tag
theorem C0w{d x i sz}:σ.step (.iaddr d x i sz)=I8 σ d (A45 σ.rows sz (σ.val x) (σ.val i)):=(H3 rfl).trans tag
theorem C7s{d x i}:σ.step (.idx d x i)=I8 σ d (C2s (σ.val x) (σ.val i)):=(H3 rfl).trans tag
theorem C3x{d t x}:σ.step (.mkif d t x)=I8 σ d (B2t t (σ.val x)):=(H3 rfl).trans tag
theorem C3q{d x t zc}:σ.step (.tass d x t zc)=I8 σ d (B7i t zc (σ.val x)):=(H3 rfl).trans tag
theorem C3i{d x i}:σ.step (.extr d x i)=I8 σ d (B7g i (σ.val x)):=(H3 rfl).trans tag
theorem C8g{d x}:σ.step (.len d x)=I8 σ d (B19 σ.rows (σ.val x)):=(H3 rfl).trans tag
theorem C0y{d x}:σ.step (.sconv d x)=I8 σ d (A9x σ.rows (σ.val x)):=(H3 rfl).trans tag
theorem C4c{d x}:σ.step (.slen d x)=I8 σ d (B7n (σ.val x)):=(H3 rfl).trans tag
theorem D0p{d m x y}:σ.step (.mm d m x y)=I8 σ d (mmV m (σ.val x) (σ.val y)):=(H3 rfl).trans tag
theorem C65{d f caps}:σ.step (.mkf d f caps)=I8 σ d ((B4n f (caps.map σ.val)).map fun c=> .v (.sc c)):=by
 rw[H3 rfl]
 simp only[St.pure]
 cases B4n f (caps.map σ.val)<;>rfl
theorem E5l(h:o.isMade=T):σ.step o=mk1 σ (σ.made o):=by
 rw[D8b h]
 cases σ.made o<;>rfl
theorem D35{x y n}:σ.step (.store x y n)=σ.storeV n (σ.val x) (σ.val y):=rfl
theorem E0w{d sz b x y}:σ.step (.app d sz b x y)=σ.appV d sz b (σ.val x) (σ.val y):=rfl
theorem B6g{d v}:I8 σ d (E v)=E (σ.set d v):=rfl
theorem D02{t:V}{yes no:Prop}:G4 (E (t,T)) σ yes no=A0u (σ.get t) yes no no:=by
 simp only[G4,A0u]
 generalize σ.get t=v
 cases v with
 | v x=>cases x with
  | sc c=>cases c with
   | dat d=>cases d<;>rfl
   | _=>rfl
  | ag=>rfl
 | _=>rfl
theorem D0h{t:V}{yes no:Prop}:G4 (E (t,F)) σ yes no=A0u (σ.get t) no yes no:=by
 simp only[G4,A0u]
 generalize σ.get t=v
 cases v with
 | v x=>cases x with
  | sc c=>cases c with
   | dat d=>cases d with
    | bool b=>cases b<;>simp
    | _=>rfl
   | _=>rfl
  | ag=>rfl
 | _=>rfl
theorem D54{t}:go P (.ops ((E (t,T),o)::its)::k) Q .normal (E σ)=go P (.gd (σ.get t) T o its::k) Q .normal (E σ):=by
 show G4 (E (t,T)) σ _ _=_
 rw[D02]
 show _=A0u _ _ _ _
 simp only[cond_true]
 congr 1<;>(cases o.dst<;>rfl)
theorem D78{t}:go P (.ops ((E (t,F),o)::its)::k) Q .normal (E σ)=go P (.gd (σ.get t) F o its::k) Q .normal (E σ):=by
 show G4 (E (t,F)) σ _ _=_
 rw[D0h]
 show _=A0u _ _ _ _
 simp only[cond_false]
 congr 1<;>(cases o.dst<;>rfl)
theorem D6w{b:U}:go P (.gd (.v (.sc (.dat (.bool b)))) b o its::k) Q .normal (E σ)=go P (.ops ((G,o)::its)::k) Q .normal (E σ):=by
 cases b<;>(simp only[go,go0,A0u,cond_true,cond_false]; simp[A0t,G4])
theorem D77:go P (.gd (.v (.sc (.dat (.bool F)))) T o its::k) Q .normal (E σ)=go P (.ops its::k) Q .normal (unw σ o.dst):=by
 simp only[go,go0,A0u,cond_true]
 cases o.dst<;>simp[A1a,unw]
theorem D6f:go P (.gd (.v (.sc (.dat (.bool T)))) F o its::k) Q .normal (E σ)=go P (.ops its::k) Q .normal (unw σ o.dst):=by
 simp only[go,go0,A0u,cond_false]
 cases o.dst<;>simp[A1a,unw]
theorem F6c{d x}:go P (.ops ((G,.mv d x)::its)::k) Q .normal (E σ)=go P (.ops its::k) Q .normal (E (σ.set d (σ.val x))):=by
 rw[N9 rfl,D0e]
theorem E1p{d c a b}:go P (.ops ((G,.pick d c a b)::its)::k) Q .normal (E σ)=go P (.ops its::k) Q .normal (I8 σ d (B7u (σ.val c) (σ.val a) (σ.val b))):=by
 rw[N9 rfl,C33]
theorem D8z{d zs ps}:go P (.ops ((G,.build d zs ps)::its)::k) Q .normal (E σ)=go P (.ops its::k) Q .normal (I8 σ d ((A7c zs (ps.map fun p=>(p.1,p.2.1,σ.val p.2.2))).map fun cs=> .v (.ag cs))):=by
 rw[N9 rfl,B96]
theorem E4o{d x g n}:go P (.ops ((G,.load d x g n)::its)::k) Q .normal (E σ)=go P (.ops its::k) Q .normal (I8 σ d (A5i σ g n (σ.val x))):=by
 rw[N9 rfl,C3w]
theorem E58{d x}:go P (.ops ((G,.nilc d x)::its)::k) Q .normal (E σ)=go P (.ops its::k) Q .normal (I8 σ d (B06 (σ.val x))):=by
 rw[N9 rfl,C35]
theorem F0s{d op x y}:go P (.ops ((G,.bin d op x y)::its)::k) Q .normal (E σ)=go P (.ops its::k) Q .normal (I8 σ d (A5q op (σ.val x) (σ.val y))):=by
 rw[N9 rfl,C7i]
theorem F0d{d g ks x y}:go P (.ops ((G,.geq d g ks x y)::its)::k) Q .normal (E σ)=go P (.ops its::k) Q .normal (I8 σ d (C2l g ks (σ.val x) (σ.val y))):=by
 rw[N9 rfl,C8y]
theorem E7o{d g x y}:go P (.ops ((G,.beq d g x y)::its)::k) Q .normal (E σ)=go P (.ops its::k) Q .normal (I8 σ d (C2g g (σ.val x) (σ.val y))):=by
 rw[N9 rfl,C87]
theorem F8v{d op x}:go P (.ops ((G,.un d op x)::its)::k) Q .normal (E σ)=go P (.ops its::k) Q .normal (I8 σ d (unV op (σ.val x))):=by
 rw[N9 rfl,D0d]
theorem E6c{d kd x}:go P (.ops ((G,.conv d kd x)::its)::k) Q .normal (E σ)=go P (.ops its::k) Q .normal (I8 σ d (D41 kd (σ.val x))):=by
 rw[N9 rfl,C29]
theorem E9s{d sz x lo hi mx}:go P (.ops ((G,.slc d sz x lo hi mx)::its)::k) Q .normal (E σ)=go P (.ops its::k) Q .normal (I8 σ d (A8s σ sz (σ.val x) lo hi mx)):=by
 rw[N9 rfl,C8e]
theorem E47{d x lo hi}:go P (.ops ((G,.sslc d x lo hi)::its)::k) Q .normal (E σ)=go P (.ops its::k) Q .normal (I8 σ d (B2h σ (σ.val x) lo hi)):=by
 rw[N9 rfl,C3h]
theorem D9b{d x off}:go P (.ops ((G,.faddr d x off)::its)::k) Q .normal (E σ)=go P (.ops its::k) Q .normal (I8 σ d (A2d σ.rows off (σ.val x))):=by
 rw[N9 rfl,C1d]
theorem E1y{d x off g n}:go P (.ops ((G,.field d x off g n)::its)::k) Q .normal (E σ)=go P (.ops its::k) Q .normal (I8 σ d (A9s off g n (σ.val x))):=by
 rw[N9 rfl,C0h]
theorem E0k{d x i sz}:go P (.ops ((G,.iaddr d x i sz)::its)::k) Q .normal (E σ)=go P (.ops its::k) Q .normal (I8 σ d (A45 σ.rows sz (σ.val x) (σ.val i))):=by
 rw[N9 rfl,C0w]
theorem E0h{d x i len sz}:go P (.ops ((G,.aaddr d x i len sz)::its)::k) Q .normal (E σ)=go P (.ops its::k) Q .normal (I8 σ d (B55 len sz (σ.val x) (σ.val i))):=by
 rw[N9 rfl,(H3 (o:= .aaddr d x i len sz) rfl).trans tag]
theorem E77{d x i}:go P (.ops ((G,.idx d x i)::its)::k) Q .normal (E σ)=go P (.ops its::k) Q .normal (I8 σ d (C2s (σ.val x) (σ.val i))):=by
 rw[N9 rfl,C7s]
theorem E6g{d t x}:go P (.ops ((G,.mkif d t x)::its)::k) Q .normal (E σ)=go P (.ops its::k) Q .normal (I8 σ d (B2t t (σ.val x))):=by
 rw[N9 rfl,C3x]
theorem E4g{d x t zc}:go P (.ops ((G,.tass d x t zc)::its)::k) Q .normal (E σ)=go P (.ops its::k) Q .normal (I8 σ d (B7i t zc (σ.val x))):=by
 rw[N9 rfl,C3q]
theorem E4u{id}:go P (.ops ((G,.frzb id)::its)::k) Q .normal (E σ)=go P (.ops its::k) Q .normal (σ.step (.frzb id)):=N9 rfl
theorem E5e{d x i}:go P (.ops ((G,.extr d x i)::its)::k) Q .normal (E σ)=go P (.ops its::k) Q .normal (I8 σ d (B7g i (σ.val x))):=by
 rw[N9 rfl,C3i]
theorem E7q{d x}:go P (.ops ((G,.len d x)::its)::k) Q .normal (E σ)=go P (.ops its::k) Q .normal (I8 σ d (B19 σ.rows (σ.val x))):=by
 rw[N9 rfl,C8g]
theorem D99{d x}:go P (.ops ((G,.sconv d x)::its)::k) Q .normal (E σ)=go P (.ops its::k) Q .normal (I8 σ d (A9x σ.rows (σ.val x))):=by
 rw[N9 rfl,C0y]
theorem E6l{d x}:go P (.ops ((G,.slen d x)::its)::k) Q .normal (E σ)=go P (.ops its::k) Q .normal (I8 σ d (B7n (σ.val x))):=by
 rw[N9 rfl,C4c]
theorem F60{d m x y}:go P (.ops ((G,.mm d m x y)::its)::k) Q .normal (E σ)=go P (.ops its::k) Q .normal (I8 σ d (mmV m (σ.val x) (σ.val y))):=by
 rw[N9 rfl,D0p]
theorem F0g{d f caps}:go P (.ops ((G,.mkf d f caps)::its)::k) Q .normal (E σ)=go P (.ops its::k) Q .normal (I8 σ d ((B4n f (caps.map σ.val)).map fun c=> .v (.sc c))):=by
 rw[N9 rfl,C65]
theorem E1n{x y n}:go P (.ops ((G,.store x y n)::its)::k) Q .normal (E σ)=go P (.ops its::k) Q .normal (σ.storeV n (σ.val x) (σ.val y)):=by
 rw[N9 rfl,D35]
theorem E71{d sz b x y}:go P (.ops ((G,.app d sz b x y)::its)::k) Q .normal (E σ)=go P (.ops its::k) Q .normal (σ.appV d sz b (σ.val x) (σ.val y)):=by
 rw[N9 rfl,E0w]
theorem E3n{d j id sz}:go P (.ops ((G,.ownb d j id sz)::its)::k) Q .normal (E σ)=go P (.ops its::k) Q .normal (σ.step (.ownb d j id sz)):=N9 rfl
theorem E9t{id}:go P (.ops ((G,.frz id)::its)::k) Q .normal (E σ)=go P (.ops its::k) Q .normal (σ.step (.frz id)):=N9 rfl
theorem E70{its:L P2}:go P (.frs its::k) Q .normal (E σ)=go P (.fr (A0x its σ):: .dops its::k) Q .normal (E σ):=rfl
theorem C3{b:U}(hb:b=T)(h:go P k Q .normal (E σ)):go P (.fr b::k) Q .normal (E σ):=⟨hb,h⟩
theorem E85{its:L P2}:go P (.dops ((G,G,o)::its)::k) Q .normal (E σ)=go P (.ops [(G,o)]:: .frs its::k) Q .normal (E σ):=rfl
theorem C81{α:Type}{l:L α}{f:α→U}(h:∀x,f x=T):l.all f=T:=List.all_eq_true.2 fun x _=>h x
def D4f(τ σ:St)(N:L V)(o:AOp)(K:St→Prop):Prop:=
 match τ.pure o with
 | some (d,v)=>v.avoids N=T∧K (σ.set d v)
 | none=>match τ.made o with
  | some m=>(match m with | .box _ cs=>cs.all (·.avoids N) | _=>T)=T∧(match σ.make m with
   | some σ'=>K σ'
   | none=>False)
  | none=>False
theorem B9u{K:St→Prop}(hc:o.isCall=F):B5q P N o K σ=D4f (σ.less N) σ N o K:=by
 cases o<;>first
  | rfl
  | (simp[AOp.isCall] at hc; done)
theorem D89(hc:o.isCall=F)(hg:o.gentle=T):σ.step o=(match σ.pure o with
  | some (d,v)=>E (σ.set d v)
  | none=>match σ.made o with
   | some m=>σ.make m
   | none=>G):=by
 cases o<;>first
  | rfl
  | (simp[AOp.isCall] at hc; done)
  | (simp[AOp.gentle] at hg; done)
theorem E1g{K:St→Prop}(hg:o.gentle=T)(hc:o.isCall=F):B5q P [] o K σ=aop P o K σ:=by
 cases hc:o.isCall with
 | true=>simp_all
 | false=>
  rw[B9u hc,C8t (by rintro _ _ _ rfl; simp[AOp.isCall] at hc) (by rintro _ _ _ rfl; simp[AOp.isCall] at hc),D89 hc hg]
  unfold D4f
  show(match σ.pure o with | some (d,v)=>v.avoids []=T∧K (σ.set d v) | none=>_)=_
  cases hp:σ.pure o with
  | some p=>
   have hav:p.2.avoids []=T:=C81 fun c=>rfl
   simp only[A1a,hav,true_and]
  | none=>
   show(match σ.made o with | some m=>_ | none=>False)=_
   cases hm:σ.made o with
   | none=>rfl
   | some m=>
    cases m with
    | box d cs=>
     have hav:cs.all (·.avoids [])=T:=C81 fun c=>rfl
     show(cs.all (·.avoids [])=T∧(match σ.make (.box d cs) with | some σ'=>K σ' | none=>False))=A1a (σ.make (.box d cs)) K
     rw[hav]
     cases σ.make (.box d cs)<;>simp[A1a]
    | row d sz es=>
     show(T=T∧(match σ.make (.row d sz es) with | some σ'=>K σ' | none=>False))=A1a (σ.make (.row d sz es)) K
     cases σ.make (.row d sz es)<;>simp[A1a]
theorem J8{its:L P2}(hg:o.gentle=T)(hc:o.isCall=F):go P (.dops ((E [],G,o)::its)::k) Q .normal (E σ)=go P (.ops [(G,o)]:: .dops its::k) Q .normal (E σ):=
 E1g hg hc
def W0(σ:St)(N:L V):O V→O St→O St
 | some d,E τ=>bif (τ.get d).avoids N then E (σ.set d (τ.get d)) else G
 | _,_=>G
theorem M8{its:L P2}(hp:o.isPure=T):go P (.dops ((E N,G,o)::its)::k) Q .normal (E σ)=go P (.dops its::k) Q .normal (W0 σ N o.dst ((σ.less N).step o)):=by
 have hc:o.isCall=F:=by cases o<;>first | rfl | (simp[AOp.isPure] at hp; done)
 show B5q P N o _ σ=_
 rw[B9u hc,C3u hp]
 unfold D4f
 cases h:(σ.less N).pure o with
 | some p=>
  obtain⟨d,v⟩:=p
  rw[(B9f h).1]
  show(v.avoids N=T∧_)=go P (.dops its::k) Q .normal (bif (((σ.less N).set d v).get d).avoids N then E (σ.set d (((σ.less N).set d v).get d)) else G)
  rw[St.get_set_same]
  cases v.avoids N with
  | true=>simp[go,go0]
  | false=>simp[go]
 | none=>
  have hm:(σ.less N).made o=G:=by cases o<;>first | rfl | (simp[AOp.isPure] at hp; done)
  show(match (σ.less N).made o with | some m=>_ | none=>False)=_
  rw[hm]
  cases o.dst<;>rfl
def E8h(N:L V):Mk→U
 | .box _ cs=>cs.all (·.avoids N)
 | _=>T
theorem D9c{its:L P2}{m:Mk}(hm:(σ.less N).made o=E m)(hv:E8h N m=T){σ':St}(hmk:σ.make m=E σ')(h:go P (.dops its::k) Q .normal (E σ')) :
  go P (.dops ((E N,G,o)::its)::k) Q .normal (E σ):=by
 have hc:o.isCall=F:=by cases o<;>first | rfl | (simp[St.made] at hm; done)
 show B5q P N o _ σ
 rw[B9u hc]
 unfold D4f
 rw[C3d hm]
 simp only[hm,hmk]
 cases m with
 | box d cs=>exact⟨hv,h⟩
 | row d sz es=>exact⟨rfl,h⟩
theorem B9i{its:L P2}{d f args}{xs:L DV}{rs:L R1}(hf:FC P f xs rs)(h1:(σ.less N).toDVs args=E xs)(h2:A4s rs)(h3:σ.fresh d=T)(h4:(rs.flatMap R1.cells).length≤64)(h5:go P (.dops its::k) Q .normal (E (σ.inst d rs))) :
  go P (.dops ((E N,G,.call d f args)::its)::k) Q .normal (E σ):=⟨xs,rs,.inl ⟨h1,.inl h2⟩,hf,h3,h4,h5⟩
theorem D6r{its:L P2}{d x args f caps}{xs:L DV}{rs:L R1}(hf:FC P f (xs++caps.map .sc) rs)(h0:V6 P f=T)(hx:(σ.less N).toDV ((σ.less N).val x)=E (.sc (.clo f caps)))(h1:(σ.less N).toDVs args=E xs)(h2:A4s rs)(h3:σ.fresh d=T)(h4:(rs.flatMap R1.cells).length≤64)
  (h5:go P (.dops its::k) Q .normal (E (σ.inst d rs))):go P (.dops ((E N,G,.callv d x args)::its)::k) Q .normal (E σ):=⟨f,caps,xs,rs,.inl ⟨hx,h1,h2⟩,h0,hf,h3,h4,h5⟩
theorem F9{its:L P2}{d f args}{xs:L DV}{rs:L R1}(hf:FC P f xs rs)(h1:(σ.less N).toIVs args=E xs)(h3:σ.fresh d=T)(h4:(rs.flatMap R1.cells).length≤64)(h5:go P (.dops its::k) Q .normal (E (σ.inst d rs))) :
  go P (.dops ((E N,G,.call d f args)::its)::k) Q .normal (E σ):=⟨xs,rs,.inr h1,hf,h3,h4,h5⟩
end
end Go.Vi
