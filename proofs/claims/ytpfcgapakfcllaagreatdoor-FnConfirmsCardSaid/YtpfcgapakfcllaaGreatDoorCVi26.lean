/-
The value level. No condition.
-/
import Derived.Test.YtpfcgapakfcllaaGreatDoorCVi25
namespace Go.Vi
set_option linter.all false
open Bool renaming and_eq_true → W, true → T, false → F
open Option renaming some → E, none → G
open _root_ renaming List → L, Option → O, Bool → U, Nat → V
inductive Fr where
 | code (c:Xe)
 | ops (its:L AItem)
 | dops (its:L AD)
 | blk (id:V)
 | pick (v:AV) (x y:Xe)
 | gd (v:AV) (want:U) (o:AOp) (its:L AItem)
 | gdd (v:AV) (want:U) (N:O (L V)) (o:AOp) (its:L AD)
 | fr (b:U)
 | frs (its:L AD)
 | panF (x:Opd)
 | calF (d:V) (f:FuncId) (args:L Opd)
def BC{α:Type}(o:O α)(f:α→Prop):Prop:=
 match o with
 | some a=>f a
 | none=>False
def Bj(v:AV)(X Y Z:Prop):Prop:=
 match v with
 | .v (.sc (.dat (.bool b)))=>if b=T then X else Y
 | .no=>Z
 | _=>False
def Al(σ:St)(d:V):O AV→O St
 | some v=>E (σ.set d v)
 | none=>G
def C5(σ:St):O V→O St
 | some d=>E (σ.set d .no)
 | none=>G
def mk1(σ:St):O Mk→O St
 | some m=>σ.make m
 | none=>G
def At(P:Program):L Fr→(Xj→St→Prop)→Xj→St→Prop
 | [],Q,e,σ=>Q e σ
 | .code c::k,Q,.normal,σ=>AM P c (At P k Q) σ
 | .ops its::k,Q,.normal,σ=>AO P its (At P k Q .normal) σ
 | .dops its::k,Q,.normal,σ=>BF P its (At P k Q .normal) σ
 | .pick v x y::k,Q,.normal,σ=>Bj v (AM P x (At P k Q) σ) (AM P y (At P k Q) σ) False
 | .gd v want o its::k,Q,.normal,σ=>Bj v (bif want then AA P o (AO P its (At P k Q .normal)) σ else BC o.dst fun d=>AO P its (At P k Q .normal) (σ.set d .no))
   (bif want then BC o.dst fun d=>AO P its (At P k Q .normal) (σ.set d .no) else AA P o (AO P its (At P k Q .normal)) σ)
   (BC o.dst fun d=>AO P its (At P k Q .normal) (σ.set d .no))
 | .gdd v want N o its::k,Q,.normal,σ=>Bj v (bif want then BF P ((N,G,o)::its) (At P k Q .normal) σ else BC o.dst fun d=>BF P its (At P k Q .normal) (σ.set d .no))
   (bif want then BC o.dst fun d=>BF P its (At P k Q .normal) (σ.set d .no) else BF P ((N,G,o)::its) (At P k Q .normal) σ)
   (BC o.dst fun d=>BF P its (At P k Q .normal) (σ.set d .no))
 | .fr b::k,Q,.normal,σ=>b=T∧At P k Q .normal σ
 | .frs its::k,Q,.normal,σ=>Ck its σ=T∧BF P its (At P k Q .normal) σ
 | .panF x::k,Q,.normal,σ=>∃d,σ.val x= .v (.sc (.dat d))∧d.flat=T∧O5 d=T∧At P k Q (.pan d) σ
 | .calF d f args::k,Q,.normal,σ=>AA P (.call d f args) (At P k Q .normal) σ∨∃ds pd,σ.toDVs args=E ds∧GM P f ds pd∧At P k Q (.pan pd) σ
 | .blk id::k,Q,.exit i,σ=>if i=id then At P k Q .normal σ else At P k Q (.exit i) σ
 | _::k,Q,e,σ=>At P k Q e σ
def go(P:Program)(k:L Fr)(Q:Xj→St→Prop)(e:Xj):O St→Prop
 | some σ=>At P k Q e σ
 | none=>False
def AOp.isPure:AOp→U
 | .mv .. | .pick .. | .build .. | .load .. | .nilc .. | .bin .. | .beq .. | .geq .. | .un .. | .conv .. | .slc .. | .sslc .. | .faddr .. | .field .. | .iaddr .. | .aaddr .. | .idx .. | .extr .. | .len .. | .slen .. | .sconv .. | .mm .. | .mkf .. | .zsl _ | .mkif .. | .tass .. =>T
 | _=>F
def AOp.isMade:AOp→U
 | .box .. | .alloc .. | .bslice .. | .mksl .. | .zap .. =>T
 | _=>F
def AOp.isCall:AOp→U
 | .call .. | .callv .. =>T
 | .mv .. | .pick .. | .box .. | .alloc .. | .build .. | .bslice .. | .load .. | .store .. | .clr .. | .nilc .. | .bin .. | .beq .. | .geq .. | .un .. | .conv .. | .mksl .. | .slc .. | .sslc .. | .faddr .. | .field .. | .iaddr .. | .aaddr .. | .idx .. | .extr .. | .len .. | .slen .. | .sconv .. | .app .. | .mm .. | .mkf .. | .zsl _ | .zap .. | .mkif .. | .tass .. =>F
 | .drop _ | .own .. | .ownb .. | .ren .. | .frz _ | .frzb _ | .forget _ | .keep .. | .cut _=>F
section
variable {P : Program} {k : L Fr} {Q : Xj → St → Prop} {σ : St} {its : L AItem} {ds : L AD} {o : AOp} {N : L V}
theorem Gn{c:Xe}(h:go P [.code c] Q .normal (E σ)):AM P c Q σ:=PI c (fun _ _ h=>h) h
theorem eG{e}:go P k Q e G=False:=rfl
theorem eD{e}:go P [] Q e (E σ)=Q e σ:=rfl
theorem eU:go P (.code .skip::k) Q .normal (E σ)=go P k Q .normal (E σ):=rfl
theorem Qy{nt:V}{C:Code}{τ:St}(h:EA P nt C σ τ)(H:go P k Q .normal (E τ)):go P (.code (.hook nt C)::k) Q .normal (E σ):=⟨τ,h,H⟩
theorem eQ:go P (.code (.reg its)::k) Q .normal (E σ)=go P (.ops its::k) Q .normal (E σ):=rfl
theorem dZ:go P (.code (.drw ds)::k) Q .normal (E σ)=go P (.fr (Ck ds σ):: .dops ds::k) Q .normal (E σ):=rfl
theorem dg:go P (.fr T::k) Q .normal (E σ)=go P k Q .normal (E σ):=by simp[go,At]
theorem eT{x y:Xe}:go P (.code (.seq x y)::k) Q .normal (E σ)=go P (.code x:: .code y::k) Q .normal (E σ):=by
 simp only[go,At,AM];congr 1
 funext e σ'
 cases e<;>simp only[At]
theorem dL{id:V}{c:Xe}:go P (.code (.block id c)::k) Q .normal (E σ)=go P (.code c:: .blk id::k) Q .normal (E σ):=by
 simp only[go,At,AM];congr 1
 funext e σ'
 cases e<;>simp only[At]
theorem da{id:V}:go P (.code (.exit id)::k) Q .normal (E σ)=go P k Q (.exit id) (E σ):=rfl
theorem eR:go P (.code .ret::k) Q .normal (E σ)=go P k Q .ret (E σ):=rfl
theorem dS{c:Opd}{x y:Xe}:go P (.code (.cond c x y)::k) Q .normal (E σ)=go P (.pick (σ.val c) x y::k) Q .normal (E σ):=by
 show(match σ.val c with | .v (.sc (.dat (.bool b)))=>if b=T then AM P x (At P k Q) σ else AM P y (At P k Q) σ | _=>False)=Bj (σ.val c) _ _ _
 unfold Bj;generalize σ.val c=v
 cases v with
 | v x=>cases x with
  | sc c=>cases c with
   | dat d=>cases d<;>rfl
   | _=>rfl
  | ag=>rfl
 | _=>rfl
theorem eP{x y:Xe}:go P (.pick (.v (.sc (.dat (.bool T)))) x y::k) Q .normal (E σ)=go P (.code x::k) Q .normal (E σ):=by simp[go,At,Bj]
theorem eO{x y:Xe}:go P (.pick (.v (.sc (.dat (.bool F)))) x y::k) Q .normal (E σ)=go P (.code y::k) Q .normal (E σ):=by simp[go,At,Bj]
theorem eK{x:Opd}:go P (.code (.pan its x)::k) Q .normal (E σ)=go P (.ops its:: .panF x::k) Q .normal (E σ):=rfl
theorem dO{d f args}:go P (.code (.cal its d f args)::k) Q .normal (E σ)=go P (.ops its:: .calF d f args::k) Q .normal (E σ):=rfl
theorem Ic{d f args}(H:go P (.ops [(G,.call d f args)]::k) Q .normal (E σ)):go P (.calF d f args::k) Q .normal (E σ):= .inl H
theorem eM{c:Xe}{d:D}:go P (.code c::k) Q (.pan d) (E σ)=go P k Q (.pan d) (E σ):=rfl
theorem dJ{id:V}{d:D}:go P (.blk id::k) Q (.pan d) (E σ)=go P k Q (.pan d) (E σ):=rfl
theorem DM{its:L (L V × AItem)}{τ σ2:St}{ks bs rs:L V}(h0:(σ.kept ks bs rs).pad (its.filterMap fun i=>i.2.2.dst)=σ2)(h1:Am P its τ its.length (its.map fun _=>F) σ2)(h2:go P k Q .normal (E τ)):go P (.code (.any its)::k) Q .normal (E σ):=
 ⟨ks,bs,rs,τ,h0▸h1,h2⟩
def OA(P:Program)(its:L (L V × AItem))(τ:St)(f:V)(ms:L U)(σ:St):L (L V × AItem)→V→Prop
 | [],_=>True
 | it::r,i=>(ms[i]?=E F→(∀j∈it.1,ms[j]?=E T)→∃pre post:L AItem,pre.all (fun i=>i.2.idle)=T∧post.all (fun i=>i.2.idle)=T∧go P [.ops (pre++it.2::post)] (fun _=>Am P its τ f (ms.set i T)) .normal (E σ))∧OA P its τ f ms σ r (i+1)
theorem T7{its:L (L V × AItem)}{τ:St}{f:V}{ms:L U}:∀{r:L (L V × AItem)} {n:V},OA P its τ f ms σ r n→∀(i:V) (it:L V × AItem),r[i]?=E it→ms[n+i]?=E F→(∀j∈it.1,ms[j]?=E T)→∃pre post:L AItem,pre.all (fun i=>i.2.idle)=T∧post.all (fun i=>i.2.idle)=T∧go P [.ops (pre++it.2::post)] (fun _=>Am P its τ f (ms.set (n+i) T)) .normal (E σ)
 | [],_,_,i,it,hi,_,_=>by simp at hi
 | x::r,n,h,0,it,hi,h1,h2=>by
  simp at hi
  subst hi;exact h.1 h1 h2
 | x::r,n,h,i+1,it,hi,h1,h2=>by
  have:=T7 h.2 i it (by simpa using hi) (by rw[show n+1+i=n+(i+1) by omega]; exact h1) h2;rw[show n+1+i=n+(i+1) by omega] at this
  exact this
theorem PB{it:AItem}{post:L AItem}{K:St→Prop}:∀(pre:L AItem) (σ:St),pre.all (fun i=>i.2.idle)=T→AO P (pre++it::post) K σ→AO P pre (fun σ=>Aq it.1 σ (AA P it.2 (AO P post K) σ) (match it.2.dst with | some d=>AO P post K (σ.set d .no) | none=>False)) σ
 | [],_,_,h=>h
 | (g,o)::pre,σ,hp,h=>by
  have hi:o.idle=T:=by simp only[List.all_cons,W] at hp; exact hp.1
  have hp':pre.all (fun i=>i.2.idle)=T:=by simp only[List.all_cons,W] at hp; exact hp.2
  have h':Aq g σ (AA P o (AO P (pre++it::post) K) σ) (match o.dst with | some d=>AO P (pre++it::post) K (σ.set d .no) | none=>False):=h;show Aq g σ (AA P o (AO P pre _) σ) _
  have hno:o.dst=G:=by cases o<;>first | rfl | (simp[AOp.idle] at hi; done)
  simp only[hno] at h' ⊢
  have key:∀X Y:St→Prop,(∀σ,X σ→Y σ)→AA P o X σ→AA P o Y σ:=fun X Y hXY hx=>by
   cases o<;>first
    | (simp[AOp.idle] at hi; done)
    | (simp only[AA] at hx ⊢; split at hx<;>simp_all)
  have mono:∀{X Y:Prop},(X→Y)→Aq g σ X False→Aq g σ Y False:=fun hXY hx=>by
   unfold Aq at hx ⊢
   cases g with
   | none=>exact hXY hx
   | some g=>
    simp only at hx ⊢
    split
    ·rename_i b hb
     rw[hb] at hx
     simp only at hx
     split at hx
     ·rename_i e
      rw[if_pos e];exact hXY hx
     ·exact hx.elim
    ·rename_i hb
     rw[hb] at hx
     exact hx
    ·rename_i h1 h2
     split at hx
     ·rename_i b hb
      exact h1 b hb
     ·rename_i hb
      exact h2 hb
     ·exact hx
  exact mono (key _ _ fun σ h=>PB pre σ hp' h) h'
theorem Aw{its:L (L V × AItem)}{τ:St}{f:V}{ms:L U}(h:OA P its τ f ms σ its 0):Am P its τ (f+1) ms σ:=by
 intro i it hi h1 h2;obtain⟨pre,post,hp,hq,this⟩:=T7 h i it hi (by simpa using h1) h2;rw[Nat.zero_add] at this
 exact⟨pre,post,hp,hq,PB pre _ hp this⟩
theorem np{it:AItem}{Q:Xj→St→Prop}(h:go P [.ops [it]] Q .normal (E σ)):∃pre post:L AItem,pre.all (fun i=>i.2.idle)=T∧post.all (fun i=>i.2.idle)=T∧go P [.ops (pre++it::post)] Q .normal (E σ):=⟨[],[],rfl,rfl,h⟩
theorem Ab{α:Type}{a b:α}:(bif T then a else b)=a:=rfl
theorem Ac{α:Type}{a b:α}:(bif F then a else b)=b:=rfl
theorem hq{ms:L U}{N:L V}{a:U}(hw:∀j∈N,ms[j]?=E T)(j:V)(h:N.elem j=T)(e:ms[j]?=E a):a=T:=by
 have:=hw j (List.elem_iff.1 h);rw[e] at this
 exact Option.some.inj this
theorem hz{ms:L U}{i:V}{a:U}(h:ms[i]?=E F)(e:ms[i]?=E a):a=F:=Option.some.inj (e.symm.trans h)
theorem eL{c:Xe}{i:V}:go P (.code c::k) Q (.exit i) (E σ)=go P k Q (.exit i) (E σ):=rfl
theorem eN{c:Xe}:go P (.code c::k) Q .ret (E σ)=go P k Q .ret (E σ):=rfl
theorem dH{id:V}:go P (.blk id::k) Q .normal (E σ)=go P k Q .normal (E σ):=rfl
theorem dK{id:V}:go P (.blk id::k) Q .ret (E σ)=go P k Q .ret (E σ):=rfl
theorem dI{id i:V}:go P (.blk id::k) Q (.exit i) (E σ)=go P k Q (bif i==id then .normal else .exit i) (E σ):=by
 by_cases h:i=id
 ·simp[go,At,h]
 ·have h':(i==id)=F:=by simpa using h
  simp[go,At,h,h']
theorem eI:go P (.ops []::k) Q .normal (E σ)=go P k Q .normal (E σ):=rfl
theorem dY:go P (.dops []::k) Q .normal (E σ)=go P k Q .normal (E σ):=rfl
theorem PA{K:St→Prop}(h1:∀d f args,o≠ .call d f args)(h2:∀d x args,o≠ .callv d x args):AA P o K σ=BC (σ.step o) K:=by
 cases o<;>first
  | rfl
  | (show(match St.step σ _ with | some σ'=>K σ' | none=>False)=BC (St.step σ _) K; generalize St.step σ _=x; cases x<;>rfl)
  | exact absurd rfl (h1 _ _ _)
  | exact absurd rfl (h2 _ _ _)
theorem Tr(h:o.isPure=T):σ.step o=(σ.pure o).map fun p=>σ.set p.1 p.2:=by
 cases o<;>first
  | (simp[AOp.isPure] at h; done)
  | skip
 all_goals
  simp only[St.step,St.made];generalize σ.pure _=x
  cases x<;>rfl
theorem mH(h:o.isMade=T):σ.step o=(σ.made o).bind σ.make:=by
 cases o<;>first
  | (simp[AOp.isMade] at h; done)
  | skip
 all_goals
  simp only[St.step,St.pure];generalize σ.made _=x
  cases x<;>rfl
theorem AK(h:o.isCall=F):go P (.ops ((G,o)::its)::k) Q .normal (E σ)=go P (.ops its::k) Q .normal (σ.step o):=by
 show AA P o (AO P its (At P k Q .normal)) σ=_
 rw[PA (by rintro _ _ _ rfl; simp[AOp.isCall] at h) (by rintro _ _ _ rfl; simp[AOp.isCall] at h)];cases σ.step o<;>rfl
def ID:L V→U
 | []=>T
 | x::r=> !r.contains x&&ID r
theorem Oe:∀{l:L V},ID l=T→l.Nodup
 | [],_=>List.nodup_nil
 | x::r,h=>by
  simp only[ID,W,Bool.not_eq_true',List.contains_eq_mem,decide_eq_false_iff_not] at h;exact List.nodup_cons.2 ⟨h.1,Oe h.2⟩
theorem Db{d f args}{xs:L DV}{rs:L R1}(hf:FC P f xs rs)(h1:σ.toDVs args=E xs)(h2:BX rs)(h3:σ.fresh d=T)(h4:(rs.flatMap R1.cells).length≤64)(h5:go P (.ops its::k) Q .normal (E (σ.inst d rs))) :
  go P (.ops ((G,.call d f args)::its)::k) Q .normal (E σ):= .inl ⟨xs,rs,.inl ⟨h1,.inl h2⟩,hf,h3,h4,h5⟩
theorem Gl{d f args}{xs:L DV}{rs:L R1}(hf:FC P f xs rs)(h1:σ.toIVs args=E xs)(h3:σ.fresh d=T)(h4:(rs.flatMap R1.cells).length≤64)(h5:go P (.ops its::k) Q .normal (E (σ.inst d rs))) :
  go P (.ops ((G,.call d f args)::its)::k) Q .normal (E σ):= .inl ⟨xs,rs,.inr h1,hf,h3,h4,h5⟩
theorem Ie{d f args}{σ':St}{r:AV}(hf:D1 P f (args.map σ.val) σ σ' r)(h5:go P (.ops its::k) Q .normal (E (σ'.set d r))):go P (.ops ((G,.call d f args)::its)::k) Q .normal (E σ):= .inr (.inr ⟨σ',r,hf,h5⟩)
theorem dQ{d x args f caps}{xs:L DV}{rs:L R1}(hf:FC P f (xs++caps.map .sc) rs)(h0:Bf P f=T)(hx:σ.toDV (σ.val x)=E (.sc (.clo f caps)))(h1:σ.toDVs args=E xs)(h2:BX rs)(h3:σ.fresh d=T)(h4:(rs.flatMap R1.cells).length≤64)
  (h5:go P (.ops its::k) Q .normal (E (σ.inst d rs))):go P (.ops ((G,.callv d x args)::its)::k) Q .normal (E σ):= .inl ⟨f,caps,xs,rs,.inl ⟨hx,h1,h2⟩,h0,hf,h3,h4,h5⟩
theorem Bg(h:o.isPure=T):σ.step o=(σ.pure o).bind fun p=>Al σ p.1 (E p.2):=by
 rw[Tr h];cases σ.pure o<;>rfl
theorem Bs{d:V}{x:O AV}:((x.map (Prod.mk d)).bind fun p=>Al σ p.1 (E p.2))=Al σ d x:=by cases x<;>rfl
theorem Tn{d x}:σ.step (.mv d x)=E (σ.set d (σ.val x)):=rfl
theorem Tq{d c a b}:σ.step (.pick d c a b)=Al σ d (En (σ.val c) (σ.val a) (σ.val b)):=(Bg rfl).trans Bs
theorem Ta{d zs ps}:σ.step (.build d zs ps)=Al σ d ((CB zs (ps.map fun p=>(p.1,p.2.1,σ.val p.2.2))).map fun cs=> .v (.ag cs)):=by
 rw[Bg rfl];simp only[St.pure];cases CB zs (ps.map fun p=>(p.1,p.2.1,σ.val p.2.2))<;>rfl
theorem Tj{d x g n}:σ.step (.load d x g n)=Al σ d (BQ σ g n (σ.val x)):=(Bg rfl).trans Bs
theorem Tp{d x}:σ.step (.nilc d x)=Al σ d (DU (σ.val x)):=(Bg rfl).trans Bs
theorem T9{d op x y}:σ.step (.bin d op x y)=Al σ d (Bv op (σ.val x) (σ.val y)):=(Bg rfl).trans Bs
theorem Tf{d g ks x y}:σ.step (.geq d g ks x y)=Al σ d (Gk g ks (σ.val x) (σ.val y)):=(Bg rfl).trans Bs
theorem T8{d g x y}:σ.step (.beq d g x y)=Al σ d (Fv g (σ.val x) (σ.val y)):=(Bg rfl).trans Bs
theorem Tx{d op x}:σ.step (.un d op x)=Al σ d (Ew op (σ.val x)):=(Bg rfl).trans Bs
def Mr(k:IntKind):AV→O AV
 | .v (.sc (.dat (.int _ n)))=>E (.v (.sc (.dat (.int k (k.wrap n)))))
 | _=>G
theorem Tb{d kd x}:σ.step (.conv d kd x)=Al σ d (Mr kd (σ.val x)):=by
 rw[Bg rfl];simp only[St.pure];generalize σ.val x=v
 cases v with
 | v x=>cases x with
  | sc c=>cases c with
   | dat d=>cases d<;>rfl
   | _=>rfl
  | ag=>rfl
 | _=>rfl
theorem Tt{d sz x lo hi mx}:σ.step (.slc d sz x lo hi mx)=Al σ d (Dd σ sz (σ.val x) lo hi mx):=(Bg rfl).trans Bs
theorem Tv{d x lo hi}:σ.step (.sslc d x lo hi)=Al σ d (Er σ (σ.val x) lo hi):=(Bg rfl).trans Bs
theorem Td{d x off}:σ.step (.faddr d x off)=Al σ d (BM σ.rows off (σ.val x)):=(Bg rfl).trans Bs
theorem Te{d x off g n}:σ.step (.field d x off g n)=Al σ d (Ef off g n (σ.val x)):=(Bg rfl).trans Bs
theorem Tg{d x i sz}:σ.step (.iaddr d x i sz)=Al σ d (Cc σ.rows sz (σ.val x) (σ.val i)):=(Bg rfl).trans Bs
theorem Th{d x i}:σ.step (.idx d x i)=Al σ d (Gp (σ.val x) (σ.val i)):=(Bg rfl).trans Bs
theorem Tl{d t x}:σ.step (.mkif d t x)=Al σ d (El t (σ.val x)):=(Bg rfl).trans Bs
theorem Tw{d x t zc}:σ.step (.tass d x t zc)=Al σ d (Et t zc (σ.val x)):=(Bg rfl).trans Bs
theorem Tc{d x i}:σ.step (.extr d x i)=Al σ d (FH i (σ.val x)):=(Bg rfl).trans Bs
theorem Ti{d x}:σ.step (.len d x)=Al σ d (BP σ.rows (σ.val x)):=(Bg rfl).trans Bs
theorem Ts{d x}:σ.step (.sconv d x)=Al σ d (Ep σ.rows (σ.val x)):=(Bg rfl).trans Bs
theorem Tu{d x}:σ.step (.slen d x)=Al σ d (GE (σ.val x)):=(Bg rfl).trans Bs
theorem Tm{d m x y}:σ.step (.mm d m x y)=Al σ d (F5 m (σ.val x) (σ.val y)):=(Bg rfl).trans Bs
theorem Tk{d f caps}:σ.step (.mkf d f caps)=Al σ d ((DR f (caps.map σ.val)).map fun c=> .v (.sc c)):=by
 rw[Bg rfl];simp only[St.pure];cases DR f (caps.map σ.val)<;>rfl
theorem mI(h:o.isMade=T):σ.step o=mk1 σ (σ.made o):=by
 rw[mH h];cases σ.made o<;>rfl
theorem mK{x y n}:σ.step (.store x y n)=σ.storeV n (σ.val x) (σ.val y):=rfl
theorem mF{d sz b x y}:σ.step (.app d sz b x y)=σ.appV d sz b (σ.val x) (σ.val y):=rfl
theorem SJ{d v}:Al σ d (E v)=E (σ.set d v):=rfl
theorem Pv{t:V}{yes no:Prop}:Aq (E (t,T)) σ yes no=Bj (σ.get t) yes no no:=by
 simp only[Aq,Bj];generalize σ.get t=v
 cases v with
 | v x=>cases x with
  | sc c=>cases c with
   | dat d=>cases d<;>rfl
   | _=>rfl
  | ag=>rfl
 | _=>rfl
theorem Pu{t:V}{yes no:Prop}:Aq (E (t,F)) σ yes no=Bj (σ.get t) no yes no:=by
 simp only[Aq,Bj];generalize σ.get t=v
 cases v with
 | v x=>cases x with
  | sc c=>cases c with
   | dat d=>cases d with
    | bool b=>cases b<;>simp
    | _=>rfl
   | _=>rfl
  | ag=>rfl
 | _=>rfl
theorem dt{t}:go P (.ops ((E (t,T),o)::its)::k) Q .normal (E σ)=go P (.gd (σ.get t) T o its::k) Q .normal (E σ):=by
 show Aq (E (t,T)) σ _ _=_
 rw[Pv];show _=Bj _ _ _ _
 simp only[cond_true];congr 1<;>(cases o.dst<;>rfl)
theorem dr{t}:go P (.ops ((E (t,F),o)::its)::k) Q .normal (E σ)=go P (.gd (σ.get t) F o its::k) Q .normal (E σ):=by
 show Aq (E (t,F)) σ _ _=_
 rw[Pu];show _=Bj _ _ _ _
 simp only[cond_false];congr 1<;>(cases o.dst<;>rfl)
theorem dp{b:U}:go P (.gd (.v (.sc (.dat (.bool b)))) b o its::k) Q .normal (E σ)=go P (.ops ((G,o)::its)::k) Q .normal (E σ):=by
 cases b<;>(simp only[go,At,Bj,cond_true,cond_false]; simp[AO,Aq])
theorem dn:go P (.gd (.v (.sc (.dat (.bool F)))) T o its::k) Q .normal (E σ)=go P (.ops its::k) Q .normal (C5 σ o.dst):=by
 simp only[go,At,Bj,cond_true];cases o.dst<;>simp[BC,C5]
theorem dl:go P (.gd (.v (.sc (.dat (.bool T)))) F o its::k) Q .normal (E σ)=go P (.ops its::k) Q .normal (C5 σ o.dst):=by
 simp only[go,At,Bj,cond_false];cases o.dst<;>simp[BC,C5]
theorem eC{d x}:go P (.ops ((G,.mv d x)::its)::k) Q .normal (E σ)=go P (.ops its::k) Q .normal (E (σ.set d (σ.val x))):=by
 rw[AK rfl,Tn]
theorem eH{d c a b}:go P (.ops ((G,.pick d c a b)::its)::k) Q .normal (E σ)=go P (.ops its::k) Q .normal (Al σ d (En (σ.val c) (σ.val a) (σ.val b))):=by
 rw[AK rfl,Tq]
theorem dM{d zs ps}:go P (.ops ((G,.build d zs ps)::its)::k) Q .normal (E σ)=go P (.ops its::k) Q .normal (Al σ d ((CB zs (ps.map fun p=>(p.1,p.2.1,σ.val p.2.2))).map fun cs=> .v (.ag cs))):=by
 rw[AK rfl,Ta]
theorem dy{d x g n}:go P (.ops ((G,.load d x g n)::its)::k) Q .normal (E σ)=go P (.ops its::k) Q .normal (Al σ d (BQ σ g n (σ.val x))):=by
 rw[AK rfl,Tj]
theorem eF{d x}:go P (.ops ((G,.nilc d x)::its)::k) Q .normal (E σ)=go P (.ops its::k) Q .normal (Al σ d (DU (σ.val x))):=by
 rw[AK rfl,Tp]
theorem dF{d op x y}:go P (.ops ((G,.bin d op x y)::its)::k) Q .normal (E σ)=go P (.ops its::k) Q .normal (Al σ d (Bv op (σ.val x) (σ.val y))):=by
 rw[AK rfl,T9]
theorem dq{d g ks x y}:go P (.ops ((G,.geq d g ks x y)::its)::k) Q .normal (E σ)=go P (.ops its::k) Q .normal (Al σ d (Gk g ks (σ.val x) (σ.val y))):=by
 rw[AK rfl,Tf]
theorem dE{d g x y}:go P (.ops ((G,.beq d g x y)::its)::k) Q .normal (E σ)=go P (.ops its::k) Q .normal (Al σ d (Fv g (σ.val x) (σ.val y))):=by
 rw[AK rfl,T8]
theorem ed{d op x}:go P (.ops ((G,.un d op x)::its)::k) Q .normal (E σ)=go P (.ops its::k) Q .normal (Al σ d (Ew op (σ.val x))):=by
 rw[AK rfl,Tx]
theorem dT{d kd x}:go P (.ops ((G,.conv d kd x)::its)::k) Q .normal (E σ)=go P (.ops its::k) Q .normal (Al σ d (Mr kd (σ.val x))):=by
 rw[AK rfl,Tb]
theorem eV{d sz x lo hi mx}:go P (.ops ((G,.slc d sz x lo hi mx)::its)::k) Q .normal (E σ)=go P (.ops its::k) Q .normal (Al σ d (Dd σ sz (σ.val x) lo hi mx)):=by
 rw[AK rfl,Tt]
theorem eX{d x lo hi}:go P (.ops ((G,.sslc d x lo hi)::its)::k) Q .normal (E σ)=go P (.ops its::k) Q .normal (Al σ d (Er σ (σ.val x) lo hi)):=by
 rw[AK rfl,Tv]
theorem dc{d x off}:go P (.ops ((G,.faddr d x off)::its)::k) Q .normal (E σ)=go P (.ops its::k) Q .normal (Al σ d (BM σ.rows off (σ.val x))):=by
 rw[AK rfl,Td]
theorem de{d x off g n}:go P (.ops ((G,.field d x off g n)::its)::k) Q .normal (E σ)=go P (.ops its::k) Q .normal (Al σ d (Ef off g n (σ.val x))):=by
 rw[AK rfl,Te]
theorem du{d x i sz}:go P (.ops ((G,.iaddr d x i sz)::its)::k) Q .normal (E σ)=go P (.ops its::k) Q .normal (Al σ d (Cc σ.rows sz (σ.val x) (σ.val i))):=by
 rw[AK rfl,Tg]
theorem dA{d x i len sz}:go P (.ops ((G,.aaddr d x i len sz)::its)::k) Q .normal (E σ)=go P (.ops its::k) Q .normal (Al σ d (GR len sz (σ.val x) (σ.val i))):=by
 rw[AK rfl,(Bg (o:= .aaddr d x i len sz) rfl).trans Bs]
theorem dv{d x i}:go P (.ops ((G,.idx d x i)::its)::k) Q .normal (E σ)=go P (.ops its::k) Q .normal (Al σ d (Gp (σ.val x) (σ.val i))):=by
 rw[AK rfl,Th]
theorem eA{d t x}:go P (.ops ((G,.mkif d t x)::its)::k) Q .normal (E σ)=go P (.ops its::k) Q .normal (Al σ d (El t (σ.val x))):=by
 rw[AK rfl,Tl]
theorem eZ{d x t zc}:go P (.ops ((G,.tass d x t zc)::its)::k) Q .normal (E σ)=go P (.ops its::k) Q .normal (Al σ d (Et t zc (σ.val x))):=by
 rw[AK rfl,Tw]
theorem db{d x i}:go P (.ops ((G,.extr d x i)::its)::k) Q .normal (E σ)=go P (.ops its::k) Q .normal (Al σ d (FH i (σ.val x))):=by
 rw[AK rfl,Tc]
theorem dx{d x}:go P (.ops ((G,.len d x)::its)::k) Q .normal (E σ)=go P (.ops its::k) Q .normal (Al σ d (BP σ.rows (σ.val x))):=by
 rw[AK rfl,Ti]
theorem eS{d x}:go P (.ops ((G,.sconv d x)::its)::k) Q .normal (E σ)=go P (.ops its::k) Q .normal (Al σ d (Ep σ.rows (σ.val x))):=by
 rw[AK rfl,Ts]
theorem eW{d x}:go P (.ops ((G,.slen d x)::its)::k) Q .normal (E σ)=go P (.ops its::k) Q .normal (Al σ d (GE (σ.val x))):=by
 rw[AK rfl,Tu]
theorem eB{d m x y}:go P (.ops ((G,.mm d m x y)::its)::k) Q .normal (E σ)=go P (.ops its::k) Q .normal (Al σ d (F5 m (σ.val x) (σ.val y))):=by
 rw[AK rfl,Tm]
theorem dz{d f caps}:go P (.ops ((G,.mkf d f caps)::its)::k) Q .normal (E σ)=go P (.ops its::k) Q .normal (Al σ d ((DR f (caps.map σ.val)).map fun c=> .v (.sc c))):=by
 rw[AK rfl,Tk]
theorem eY{x y n}:go P (.ops ((G,.store x y n)::its)::k) Q .normal (E σ)=go P (.ops its::k) Q .normal (σ.storeV n (σ.val x) (σ.val y)):=by
 rw[AK rfl,mK]
theorem dC{d sz b x y}:go P (.ops ((G,.app d sz b x y)::its)::k) Q .normal (E σ)=go P (.ops its::k) Q .normal (σ.appV d sz b (σ.val x) (σ.val y)):=by
 rw[AK rfl,mF]
theorem eJ{d j id sz}:go P (.ops ((G,.ownb d j id sz)::its)::k) Q .normal (E σ)=go P (.ops its::k) Q .normal (σ.step (.ownb d j id sz)):=AK rfl
theorem Qx{id}:go P (.ops ((G,.frz id)::its)::k) Q .normal (E σ)=go P (.ops its::k) Q .normal (σ.step (.frz id)):=AK rfl
theorem di{its:L AD}:go P (.frs its::k) Q .normal (E σ)=go P (.fr (Ck its σ):: .dops its::k) Q .normal (E σ):=rfl
theorem dh{b:U}(hb:b=T)(h:go P k Q .normal (E σ)):go P (.fr b::k) Q .normal (E σ):=⟨hb,h⟩
theorem dD{its:L AD}:go P (.dops ((G,G,o)::its)::k) Q .normal (E σ)=go P (.ops [(G,o)]:: .frs its::k) Q .normal (E σ):=rfl
theorem Py{α:Type}{l:L α}{f:α→U}(h:∀x,f x=T):l.all f=T:=List.all_eq_true.2 fun x _=>h x
def L1(τ σ:St)(N:L V)(o:AOp)(K:St→Prop):Prop:=
 match τ.pure o with
 | some (d,v)=>v.avoids N=T∧K (σ.set d v)
 | none=>match τ.made o with
  | some m=>(match m with | .box _ cs=>cs.all (·.avoids N) | _=>T)=T∧(match σ.make m with
   | some σ'=>K σ'
   | none=>False)
  | none=>False
theorem M2{K:St→Prop}(hc:o.isCall=F):E3 P N o K σ=L1 (σ.less N) σ N o K:=by
 cases o<;>first
  | rfl
  | (simp[AOp.isCall] at hc; done)
theorem mG(hc:o.isCall=F)(hg:o.gentle=T):σ.step o=(match σ.pure o with
  | some (d,v)=>E (σ.set d v)
  | none=>match σ.made o with
   | some m=>σ.make m
   | none=>G):=by
 cases o<;>first
  | rfl
  | (simp[AOp.isCall] at hc; done)
  | (simp[AOp.gentle] at hg; done)
theorem WM{K:St→Prop}(hg:o.gentle=T)(hc:o.isCall=F):E3 P [] o K σ=AA P o K σ:=by
 cases hc:o.isCall with
 | true=>simp_all
 | false=>
  rw[M2 hc,PA (by rintro _ _ _ rfl; simp[AOp.isCall] at hc) (by rintro _ _ _ rfl; simp[AOp.isCall] at hc),mG hc hg];unfold L1;show(match σ.pure o with | some (d,v)=>v.avoids []=T∧K (σ.set d v) | none=>_)=_
  cases hp:σ.pure o with
  | some p=>
   have hav:p.2.avoids []=T:=Py fun c=>rfl
   simp only[BC,hav,true_and]
  | none=>
   show(match σ.made o with | some m=>_ | none=>False)=_
   cases hm:σ.made o with
   | none=>rfl
   | some m=>
    cases m with
    | box d cs=>
     have hav:cs.all (·.avoids [])=T:=Py fun c=>rfl
     show(cs.all (·.avoids [])=T∧(match σ.make (.box d cs) with | some σ'=>K σ' | none=>False))=BC (σ.make (.box d cs)) K
     rw[hav];cases σ.make (.box d cs)<;>simp[BC]
    | row d sz es=>
     show(T=T∧(match σ.make (.row d sz es) with | some σ'=>K σ' | none=>False))=BC (σ.make (.row d sz es)) K
     cases σ.make (.row d sz es)<;>simp[BC]
theorem AY{its:L AD}(hg:o.gentle=T)(hc:o.isCall=F):go P (.dops ((E [],G,o)::its)::k) Q .normal (E σ)=go P (.ops [(G,o)]:: .dops its::k) Q .normal (E σ):=
 WM hg hc
def B6(σ:St)(N:L V):O V→O St→O St
 | some d,E τ=>bif (τ.get d).avoids N then E (σ.set d (τ.get d)) else G
 | _,_=>G
theorem Bb{its:L AD}(hp:o.isPure=T):go P (.dops ((E N,G,o)::its)::k) Q .normal (E σ)=go P (.dops its::k) Q .normal (B6 σ N o.dst ((σ.less N).step o)):=by
 have hc:o.isCall=F:=by cases o<;>first | rfl | (simp[AOp.isPure] at hp; done)
 show E3 P N o _ σ=_
 rw[M2 hc,Tr hp];unfold L1;cases h:(σ.less N).pure o with
 | some p=>
  obtain⟨d,v⟩:=p;rw[(Ou h).1];show(v.avoids N=T∧_)=go P (.dops its::k) Q .normal (bif (((σ.less N).set d v).get d).avoids N then E (σ.set d (((σ.less N).set d v).get d)) else G)
  rw[St.get_set_same];cases v.avoids N with
  | true=>simp[go,At]
  | false=>simp[go]
 | none=>
  have hm:(σ.less N).made o=G:=by cases o<;>first | rfl | (simp[AOp.isPure] at hp; done)
  show(match (σ.less N).made o with | some m=>_ | none=>False)=_
  rw[hm];cases o.dst<;>rfl
def Sj(N:L V):Mk→U
 | .box _ cs=>cs.all (·.avoids N)
 | _=>T
theorem dX{its:L AD}{m:Mk}(hm:(σ.less N).made o=E m)(hv:Sj N m=T){σ':St}(hmk:σ.make m=E σ')(h:go P (.dops its::k) Q .normal (E σ')) :
  go P (.dops ((E N,G,o)::its)::k) Q .normal (E σ):=by
 have hc:o.isCall=F:=by cases o<;>first | rfl | (simp[St.made] at hm; done)
 show E3 P N o _ σ
 rw[M2 hc];unfold L1;rw[Sb hm];simp only[hm,hmk];cases m with
 | box d cs=>exact⟨hv,h⟩
 | row d sz es=>exact⟨rfl,h⟩
theorem DN{its:L AD}{d f args}{xs:L DV}{rs:L R1}(hf:FC P f xs rs)(h1:(σ.less N).toDVs args=E xs)(h2:BX rs)(h3:σ.fresh d=T)(h4:(rs.flatMap R1.cells).length≤64)(h5:go P (.dops its::k) Q .normal (E (σ.inst d rs))) :
  go P (.dops ((E N,G,.call d f args)::its)::k) Q .normal (E σ):=⟨xs,rs,.inl ⟨h1,.inl h2⟩,hf,h3,h4,h5⟩
theorem dW{its:L AD}{d x args f caps}{xs:L DV}{rs:L R1}(hf:FC P f (xs++caps.map .sc) rs)(h0:Bf P f=T)(hx:(σ.less N).toDV ((σ.less N).val x)=E (.sc (.clo f caps)))(h1:(σ.less N).toDVs args=E xs)(h2:BX rs)(h3:σ.fresh d=T)(h4:(rs.flatMap R1.cells).length≤64)
  (h5:go P (.dops its::k) Q .normal (E (σ.inst d rs))):go P (.dops ((E N,G,.callv d x args)::its)::k) Q .normal (E σ):=⟨f,caps,xs,rs,.inl ⟨hx,h1,h2⟩,h0,hf,h3,h4,h5⟩
theorem dV{its:L AD}{d f args}{xs:L DV}{rs:L R1}(hf:FC P f xs rs)(h1:(σ.less N).toIVs args=E xs)(h3:σ.fresh d=T)(h4:(rs.flatMap R1.cells).length≤64)(h5:go P (.dops its::k) Q .normal (E (σ.inst d rs))) :
  go P (.dops ((E N,G,.call d f args)::its)::k) Q .normal (E σ):=⟨xs,rs,.inr h1,hf,h3,h4,h5⟩
end
end Go.Vi
