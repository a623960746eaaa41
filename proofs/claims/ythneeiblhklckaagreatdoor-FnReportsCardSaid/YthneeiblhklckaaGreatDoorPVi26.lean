/-
The value level. No condition.
-/
import Derived.Test.YthneeiblhklckaaGreatDoorPVi25
namespace Go.Vi
set_option linter.all false
open Bool renaming and_eq_true → W, true → T, false → F
open Option renaming some → E, none → G
open _root_ renaming List → L, Option → O, Bool → U, Nat → V
inductive Fr where
 | code (c:Xg)
 | ops (its:L AItem)
 | dops (its:L AN)
 | blk (id:V)
 | pick (v:AV) (x y:Xg)
 | gd (v:AV) (want:U) (o:AOp) (its:L AItem)
 | gdd (v:AV) (want:U) (N:O (L V)) (o:AOp) (its:L AN)
 | fr (b:U)
 | frs (its:L AN)
 | panF (x:Opd)
 | calF (d:V) (f:FuncId) (args:L Opd)
def BN{α:Type}(o:O α)(f:α→Prop):Prop:=
 match o with
 | some a=>f a
 | none=>False
def By(v:AV)(X Y Z:Prop):Prop:=
 match v with
 | .v (.sc (.dat (.bool b)))=>if b=T then X else Y
 | .no=>Z
 | _=>False
def Au(σ:St)(d:V):O AV→O St
 | some v=>E (σ.set d v)
 | none=>G
def Cm(σ:St):O V→O St
 | some d=>E (σ.set d .no)
 | none=>G
def mk1(σ:St):O Mk→O St
 | some m=>σ.make m
 | none=>G
def Az(P:Program):L Fr→(Xm→St→Prop)→Xm→St→Prop
 | [],Q,e,σ=>Q e σ
 | .code c::k,Q,.normal,σ=>AX P c (Az P k Q) σ
 | .ops its::k,Q,.normal,σ=>AZ P its (Az P k Q .normal) σ
 | .dops its::k,Q,.normal,σ=>BR P its (Az P k Q .normal) σ
 | .pick v x y::k,Q,.normal,σ=>By v (AX P x (Az P k Q) σ) (AX P y (Az P k Q) σ) False
 | .gd v want o its::k,Q,.normal,σ=>By v (bif want then AL P o (AZ P its (Az P k Q .normal)) σ else BN o.dst fun d=>AZ P its (Az P k Q .normal) (σ.set d .no))
   (bif want then BN o.dst fun d=>AZ P its (Az P k Q .normal) (σ.set d .no) else AL P o (AZ P its (Az P k Q .normal)) σ)
   (BN o.dst fun d=>AZ P its (Az P k Q .normal) (σ.set d .no))
 | .gdd v want N o its::k,Q,.normal,σ=>By v (bif want then BR P ((N,G,o)::its) (Az P k Q .normal) σ else BN o.dst fun d=>BR P its (Az P k Q .normal) (σ.set d .no))
   (bif want then BN o.dst fun d=>BR P its (Az P k Q .normal) (σ.set d .no) else BR P ((N,G,o)::its) (Az P k Q .normal) σ)
   (BN o.dst fun d=>BR P its (Az P k Q .normal) (σ.set d .no))
 | .fr b::k,Q,.normal,σ=>b=T∧Az P k Q .normal σ
 | .frs its::k,Q,.normal,σ=>CL its σ=T∧BR P its (Az P k Q .normal) σ
 | .panF x::k,Q,.normal,σ=>∃d,σ.val x= .v (.sc (.dat d))∧d.flat=T∧Px d=T∧Az P k Q (.pan d) σ
 | .calF d f args::k,Q,.normal,σ=>AL P (.call d f args) (Az P k Q .normal) σ∨∃ds pd,σ.toDVs args=E ds∧Jl P f ds pd∧Az P k Q (.pan pd) σ
 | .blk id::k,Q,.exit i,σ=>if i=id then Az P k Q .normal σ else Az P k Q (.exit i) σ
 | _::k,Q,e,σ=>Az P k Q e σ
def go(P:Program)(k:L Fr)(Q:Xm→St→Prop)(e:Xm):O St→Prop
 | some σ=>Az P k Q e σ
 | none=>False
def AOp.isPure:AOp→U
 | .mv .. | .pick .. | .build .. | .load .. | .nilc .. | .bin .. | .beq .. | .geq .. | .un .. | .conv .. | .slc .. | .sslc .. | .faddr .. | .field .. | .iaddr .. | .aaddr .. | .idx .. | .extr .. | .len .. | .slen .. | .sconv .. | .mm .. | .mkf .. | .zsl _ | .mkif .. | .tass .. =>T
 | _=>F
def AOp.isMade:AOp→U
 | .box .. | .alloc .. | .bslice .. | .mksl .. | .zap .. =>T
 | _=>F
def AOp.isCall:AOp→U
 | .call .. | .callv .. =>T
 | .mv .. | .pick .. | .box .. | .alloc .. | .build .. | .bslice .. | .load .. | .store .. | .clr .. | .nilc .. | .bin .. | .beq .. | .geq .. | .un .. | .conv .. | .mksl .. | .slc .. | .sslc .. | .faddr .. | .field .. | .iaddr .. | .aaddr .. | .idx .. | .extr .. | .len .. | .slen .. | .sconv .. | .app .. | .mm .. | .mkf .. | .zsl _ | .zap .. | .mkif .. | .tass .. =>F
 | .drop _ | .own .. | .ownb .. | .ren .. | .frz _ | .frzb _ | .forget _ | .keep .. | .cut _=>F
section
variable {P : Program} {k : L Fr} {Q : Xm → St → Prop} {σ : St} {its : L AItem} {ds : L AN} {o : AOp} {N : L V}
theorem IM{c:Xg}(h:go P [.code c] Q .normal (E σ)):AX P c Q σ:=Rn c (fun _ _ h=>h) h
theorem ga{e}:go P k Q e G=False:=rfl
theorem gY{e}:go P [] Q e (E σ)=Q e σ:=rfl
theorem gu:go P (.code .skip::k) Q .normal (E σ)=go P k Q .normal (E σ):=rfl
theorem gn:go P (.code (.reg its)::k) Q .normal (E σ)=go P (.ops its::k) Q .normal (E σ):=rfl
theorem fy:go P (.code (.drw ds)::k) Q .normal (E σ)=go P (.fr (CL ds σ):: .dops ds::k) Q .normal (E σ):=rfl
theorem gD:go P (.fr T::k) Q .normal (E σ)=go P k Q .normal (E σ):=by simp[go,Az]
theorem gt{x y:Xg}:go P (.code (.seq x y)::k) Q .normal (E σ)=go P (.code x:: .code y::k) Q .normal (E σ):=by
 simp only[go,Az,AX];congr 1
 funext e σ'
 cases e<;>simp only[Az]
theorem fg{id:V}{c:Xg}:go P (.code (.block id c)::k) Q .normal (E σ)=go P (.code c:: .blk id::k) Q .normal (E σ):=by
 simp only[go,Az,AX];congr 1
 funext e σ'
 cases e<;>simp only[Az]
theorem fz{id:V}:go P (.code (.exit id)::k) Q .normal (E σ)=go P k Q (.exit id) (E σ):=rfl
theorem gp:go P (.code .ret::k) Q .normal (E σ)=go P k Q .ret (E σ):=rfl
theorem fp{c:Opd}{x y:Xg}:go P (.code (.cond c x y)::k) Q .normal (E σ)=go P (.pick (σ.val c) x y::k) Q .normal (E σ):=by
 show(match σ.val c with | .v (.sc (.dat (.bool b)))=>if b=T then AX P x (Az P k Q) σ else AX P y (Az P k Q) σ | _=>False)=By (σ.val c) _ _ _
 unfold By;generalize σ.val c=v
 cases v with
 | v x=>cases x with
  | sc c=>cases c with
   | dat d=>cases d<;>rfl
   | _=>rfl
  | ag=>rfl
 | _=>rfl
theorem gm{x y:Xg}:go P (.pick (.v (.sc (.dat (.bool T)))) x y::k) Q .normal (E σ)=go P (.code x::k) Q .normal (E σ):=by simp[go,Az,By]
theorem gl{x y:Xg}:go P (.pick (.v (.sc (.dat (.bool F)))) x y::k) Q .normal (E σ)=go P (.code y::k) Q .normal (E σ):=by simp[go,Az,By]
theorem gh{x:Opd}:go P (.code (.pan its x)::k) Q .normal (E σ)=go P (.ops its:: .panF x::k) Q .normal (E σ):=rfl
theorem fj{d f args}:go P (.code (.cal its d f args)::k) Q .normal (E σ)=go P (.ops its:: .calF d f args::k) Q .normal (E σ):=rfl
theorem L9{d f args}(H:go P (.ops [(G,.call d f args)]::k) Q .normal (E σ)):go P (.calF d f args::k) Q .normal (E σ):= .inl H
theorem gj{c:Xg}{d:D}:go P (.code c::k) Q (.pan d) (E σ)=go P k Q (.pan d) (E σ):=rfl
theorem fc{id:V}{d:D}:go P (.blk id::k) Q (.pan d) (E σ)=go P k Q (.pan d) (E σ):=rfl
theorem D3{its:L (L V × AItem)}{τ σ2:St}{ks bs rs:L V}(h0:(σ.kept ks bs rs).pad (its.filterMap fun i=>i.2.2.dst)=σ2)(h1:Af P its τ its.length (its.map fun _=>F) σ2)(h2:go P k Q .normal (E τ)):go P (.code (.any its)::k) Q .normal (E σ):=
 ⟨ks,bs,rs,τ,h0▸h1,h2⟩
def Qa(P:Program)(its:L (L V × AItem))(τ:St)(f:V)(ms:L U)(σ:St):L (L V × AItem)→V→Prop
 | [],_=>True
 | it::r,i=>(ms[i]?=E F→(∀j∈it.1,ms[j]?=E T)→∃pre post:L AItem,pre.all (fun i=>i.2.idle)=T∧post.all (fun i=>i.2.idle)=T∧go P [.ops (pre++it.2::post)] (fun _=>Af P its τ f (ms.set i T)) .normal (E σ))∧Qa P its τ f ms σ r (i+1)
theorem UG{its:L (L V × AItem)}{τ:St}{f:V}{ms:L U}:∀{r:L (L V × AItem)} {n:V},Qa P its τ f ms σ r n→∀(i:V) (it:L V × AItem),r[i]?=E it→ms[n+i]?=E F→(∀j∈it.1,ms[j]?=E T)→∃pre post:L AItem,pre.all (fun i=>i.2.idle)=T∧post.all (fun i=>i.2.idle)=T∧go P [.ops (pre++it.2::post)] (fun _=>Af P its τ f (ms.set (n+i) T)) .normal (E σ)
 | [],_,_,i,it,hi,_,_=>by simp at hi
 | x::r,n,h,0,it,hi,h1,h2=>by
  simp at hi
  subst hi;exact h.1 h1 h2
 | x::r,n,h,i+1,it,hi,h1,h2=>by
  have:=UG h.2 i it (by simpa using hi) (by rw[show n+1+i=n+(i+1) by omega]; exact h1) h2;rw[show n+1+i=n+(i+1) by omega] at this
  exact this
theorem Re{it:AItem}{post:L AItem}{K:St→Prop}:∀(pre:L AItem) (σ:St),pre.all (fun i=>i.2.idle)=T→AZ P (pre++it::post) K σ→AZ P pre (fun σ=>AF it.1 σ (AL P it.2 (AZ P post K) σ) (match it.2.dst with | some d=>AZ P post K (σ.set d .no) | none=>False)) σ
 | [],_,_,h=>h
 | (g,o)::pre,σ,hp,h=>by
  have hi:o.idle=T:=by simp only[List.all_cons,W] at hp; exact hp.1
  have hp':pre.all (fun i=>i.2.idle)=T:=by simp only[List.all_cons,W] at hp; exact hp.2
  have h':AF g σ (AL P o (AZ P (pre++it::post) K) σ) (match o.dst with | some d=>AZ P (pre++it::post) K (σ.set d .no) | none=>False):=h;show AF g σ (AL P o (AZ P pre _) σ) _
  have hno:o.dst=G:=by cases o<;>first | rfl | (simp[AOp.idle] at hi; done)
  simp only[hno] at h' ⊢
  have key:∀X Y:St→Prop,(∀σ,X σ→Y σ)→AL P o X σ→AL P o Y σ:=fun X Y hXY hx=>by
   cases o<;>first
    | (simp[AOp.idle] at hi; done)
    | (simp only[AL] at hx ⊢; split at hx<;>simp_all)
  have mono:∀{X Y:Prop},(X→Y)→AF g σ X False→AF g σ Y False:=fun hXY hx=>by
   unfold AF at hx ⊢
   cases g with
   | none=>exact hXY hx
   | some g=>
    simp only at hx ⊢
    split
    ·rename_i b hb
     rw[hb] at hx
     simp only at hx
     split at hx
     ·rename_i e
      rw[if_pos e];exact hXY hx
     ·exact hx.elim
    ·rename_i hb
     rw[hb] at hx
     exact hx
    ·rename_i h1 h2
     split at hx
     ·rename_i b hb
      exact h1 b hb
     ·rename_i hb
      exact h2 hb
     ·exact hx
  exact mono (key _ _ fun σ h=>Re pre σ hp' h) h'
theorem Aj{its:L (L V × AItem)}{τ:St}{f:V}{ms:L U}(h:Qa P its τ f ms σ its 0):Af P its τ (f+1) ms σ:=by
 intro i it hi h1 h2;obtain⟨pre,post,hp,hq,this⟩:=UG h i it hi (by simpa using h1) h2;rw[Nat.zero_add] at this
 exact⟨pre,post,hp,hq,Re pre _ hp this⟩
theorem np{it:AItem}{Q:Xm→St→Prop}(h:go P [.ops [it]] Q .normal (E σ)):∃pre post:L AItem,pre.all (fun i=>i.2.idle)=T∧post.all (fun i=>i.2.idle)=T∧go P [.ops (pre++it::post)] Q .normal (E σ):=⟨[],[],rfl,rfl,h⟩
theorem A3{α:Type}{a b:α}:(bif T then a else b)=a:=rfl
theorem A6{α:Type}{a b:α}:(bif F then a else b)=b:=rfl
theorem hq{ms:L U}{N:L V}{a:U}(hw:∀j∈N,ms[j]?=E T)(j:V)(h:N.elem j=T)(e:ms[j]?=E a):a=T:=by
 have:=hw j (List.elem_iff.1 h);rw[e] at this
 exact Option.some.inj this
theorem hz{ms:L U}{i:V}{a:U}(h:ms[i]?=E F)(e:ms[i]?=E a):a=F:=Option.some.inj (e.symm.trans h)
theorem gi{c:Xg}{i:V}:go P (.code c::k) Q (.exit i) (E σ)=go P k Q (.exit i) (E σ):=rfl
theorem gk{c:Xg}:go P (.code c::k) Q .ret (E σ)=go P k Q .ret (E σ):=rfl
theorem fZ{id:V}:go P (.blk id::k) Q .normal (E σ)=go P k Q .normal (E σ):=rfl
theorem ff{id:V}:go P (.blk id::k) Q .ret (E σ)=go P k Q .ret (E σ):=rfl
theorem fb{id i:V}:go P (.blk id::k) Q (.exit i) (E σ)=go P k Q (bif i==id then .normal else .exit i) (E σ):=by
 by_cases h:i=id
 ·simp[go,Az,h]
 ·have h':(i==id)=F:=by simpa using h
  simp[go,Az,h,h']
theorem gf:go P (.ops []::k) Q .normal (E σ)=go P k Q .normal (E σ):=rfl
theorem fx:go P (.dops []::k) Q .normal (E σ)=go P k Q .normal (E σ):=rfl
theorem Rd{K:St→Prop}(h1:∀d f args,o≠ .call d f args)(h2:∀d x args,o≠ .callv d x args):AL P o K σ=BN (σ.step o) K:=by
 cases o<;>first
  | rfl
  | (show(match St.step σ _ with | some σ'=>K σ' | none=>False)=BN (St.step σ _) K; generalize St.step σ _=x; cases x<;>rfl)
  | exact absurd rfl (h1 _ _ _)
  | exact absurd rfl (h2 _ _ _)
theorem UZ(h:o.isPure=T):σ.step o=(σ.pure o).map fun p=>σ.set p.1 p.2:=by
 cases o<;>first
  | (simp[AOp.isPure] at h; done)
  | skip
 all_goals
  simp only[St.step,St.made];generalize σ.pure _=x
  cases x<;>rfl
theorem pO(h:o.isMade=T):σ.step o=(σ.made o).bind σ.make:=by
 cases o<;>first
  | (simp[AOp.isMade] at h; done)
  | skip
 all_goals
  simp only[St.step,St.pure];generalize σ.made _=x
  cases x<;>rfl
theorem AT(h:o.isCall=F):go P (.ops ((G,o)::its)::k) Q .normal (E σ)=go P (.ops its::k) Q .normal (σ.step o):=by
 show AL P o (AZ P its (Az P k Q .normal)) σ=_
 rw[Rd (by rintro _ _ _ rfl; simp[AOp.isCall] at h) (by rintro _ _ _ rfl; simp[AOp.isCall] at h)];cases σ.step o<;>rfl
def LD:L V→U
 | []=>T
 | x::r=> !r.contains x&&LD r
theorem PM:∀{l:L V},LD l=T→l.Nodup
 | [],_=>List.nodup_nil
 | x::r,h=>by
  simp only[LD,W,Bool.not_eq_true',List.contains_eq_mem,decide_eq_false_iff_not] at h;exact List.nodup_cons.2 ⟨h.1,PM h.2⟩
theorem Dj{d f args}{xs:L DV}{rs:L R1}(hf:FC P f xs rs)(h1:σ.toDVs args=E xs)(h2:Cd rs)(h3:σ.fresh d=T)(h4:(rs.flatMap R1.cells).length≤64)(h5:go P (.ops its::k) Q .normal (E (σ.inst d rs))) :
  go P (.ops ((G,.call d f args)::its)::k) Q .normal (E σ):= .inl ⟨xs,rs,.inl ⟨h1,.inl h2⟩,hf,h3,h4,h5⟩
theorem IK{d f args}{xs:L DV}{rs:L R1}(hf:FC P f xs rs)(h1:σ.toIVs args=E xs)(h3:σ.fresh d=T)(h4:(rs.flatMap R1.cells).length≤64)(h5:go P (.ops its::k) Q .normal (E (σ.inst d rs))) :
  go P (.ops ((G,.call d f args)::its)::k) Q .normal (E σ):= .inl ⟨xs,rs,.inr h1,hf,h3,h4,h5⟩
theorem La{d f args}{σ':St}{r:AV}(hf:Dr P f (args.map σ.val) σ σ' r)(h5:go P (.ops its::k) Q .normal (E (σ'.set d r))):go P (.ops ((G,.call d f args)::its)::k) Q .normal (E σ):= .inr (.inr ⟨σ',r,hf,h5⟩)
theorem fm{d x args f caps}{xs:L DV}{rs:L R1}(hf:FC P f (xs++caps.map .sc) rs)(h0:Bs P f=T)(hx:σ.toDV (σ.val x)=E (.sc (.clo f caps)))(h1:σ.toDVs args=E xs)(h2:Cd rs)(h3:σ.fresh d=T)(h4:(rs.flatMap R1.cells).length≤64)
  (h5:go P (.ops its::k) Q .normal (E (σ.inst d rs))):go P (.ops ((G,.callv d x args)::its)::k) Q .normal (E σ):= .inl ⟨f,caps,xs,rs,.inl ⟨hx,h1,h2⟩,h0,hf,h3,h4,h5⟩
theorem Bt(h:o.isPure=T):σ.step o=(σ.pure o).bind fun p=>Au σ p.1 (E p.2):=by
 rw[UZ h];cases σ.pure o<;>rfl
theorem BG{d:V}{x:O AV}:((x.map (Prod.mk d)).bind fun p=>Au σ p.1 (E p.2))=Au σ d x:=by cases x<;>rfl
theorem UW{d x}:σ.step (.mv d x)=E (σ.set d (σ.val x)):=rfl
theorem UY{d c a b}:σ.step (.pick d c a b)=Au σ d (J9 (σ.val c) (σ.val a) (σ.val b)):=(Bt rfl).trans BG
theorem UJ{d zs ps}:σ.step (.build d zs ps)=Au σ d ((D0 zs (ps.map fun p=>(p.1,p.2.1,σ.val p.2.2))).map fun cs=> .v (.ag cs)):=by
 rw[Bt rfl];simp only[St.pure];cases D0 zs (ps.map fun p=>(p.1,p.2.1,σ.val p.2.2))<;>rfl
theorem US{d x g n}:σ.step (.load d x g n)=Au σ d (Cf σ g n (σ.val x)):=(Bt rfl).trans BG
theorem UX{d x}:σ.step (.nilc d x)=Au σ d (F1 (σ.val x)):=(Bt rfl).trans BG
theorem UI{d op x y}:σ.step (.bin d op x y)=Au σ d (BI op (σ.val x) (σ.val y)):=(Bt rfl).trans BG
theorem UO{d g ks x y}:σ.step (.geq d g ks x y)=Au σ d (IJ g ks (σ.val x) (σ.val y)):=(Bt rfl).trans BG
theorem UH{d g x y}:σ.step (.beq d g x y)=Au σ d (HZ g (σ.val x) (σ.val y)):=(Bt rfl).trans BG
theorem V6{d op x}:σ.step (.un d op x)=Au σ d (HP op (σ.val x)):=(Bt rfl).trans BG
def ON(k:IntKind):AV→O AV
 | .v (.sc (.dat (.int _ n)))=>E (.v (.sc (.dat (.int k (k.wrap n)))))
 | _=>G
theorem UK{d kd x}:σ.step (.conv d kd x)=Au σ d (ON kd (σ.val x)):=by
 rw[Bt rfl];simp only[St.pure];generalize σ.val x=v
 cases v with
 | v x=>cases x with
  | sc c=>cases c with
   | dat d=>cases d<;>rfl
   | _=>rfl
  | ag=>rfl
 | _=>rfl
theorem V2{d sz x lo hi mx}:σ.step (.slc d sz x lo hi mx)=Au σ d (DJ σ sz (σ.val x) lo hi mx):=(Bt rfl).trans BG
theorem V4{d x lo hi}:σ.step (.sslc d x lo hi)=Au σ d (G5 σ (σ.val x) lo hi):=(Bt rfl).trans BG
theorem UM{d x off}:σ.step (.faddr d x off)=Au σ d (BZ σ.rows off (σ.val x)):=(Bt rfl).trans BG
theorem UN{d x off g n}:σ.step (.field d x off g n)=Au σ d (FP off g n (σ.val x)):=(Bt rfl).trans BG
theorem UP{d x i sz}:σ.step (.iaddr d x i sz)=Au σ d (CM σ.rows sz (σ.val x) (σ.val i)):=(Bt rfl).trans BG
theorem UQ{d x i}:σ.step (.idx d x i)=Au σ d (IN (σ.val x) (σ.val i)):=(Bt rfl).trans BG
theorem UU{d t x}:σ.step (.mkif d t x)=Au σ d (FY t (σ.val x)):=(Bt rfl).trans BG
theorem V5{d x t zc}:σ.step (.tass d x t zc)=Au σ d (G7 t zc (σ.val x)):=(Bt rfl).trans BG
theorem UL{d x i}:σ.step (.extr d x i)=Au σ d (Ib i (σ.val x)):=(Bt rfl).trans BG
theorem UR{d x}:σ.step (.len d x)=Au σ d (DF σ.rows (σ.val x)):=(Bt rfl).trans BG
theorem V0{d x}:σ.step (.sconv d x)=Au σ d (G4 σ.rows (σ.val x)):=(Bt rfl).trans BG
theorem V3{d x}:σ.step (.slen d x)=Au σ d (Jb (σ.val x)):=(Bt rfl).trans BG
theorem UV{d m x y}:σ.step (.mm d m x y)=Au σ d (Hq m (σ.val x) (σ.val y)):=(Bt rfl).trans BG
theorem UT{d f caps}:σ.step (.mkf d f caps)=Au σ d ((EY f (caps.map σ.val)).map fun c=> .v (.sc c)):=by
 rw[Bt rfl];simp only[St.pure];cases EY f (caps.map σ.val)<;>rfl
theorem pP(h:o.isMade=T):σ.step o=mk1 σ (σ.made o):=by
 rw[pO h];cases σ.made o<;>rfl
theorem pR{x y n}:σ.step (.store x y n)=σ.storeV n (σ.val x) (σ.val y):=rfl
theorem pM{d sz b x y}:σ.step (.app d sz b x y)=σ.appV d sz b (σ.val x) (σ.val y):=rfl
theorem Uk{d v}:Au σ d (E v)=E (σ.set d v):=rfl
theorem R6{t:V}{yes no:Prop}:AF (E (t,T)) σ yes no=By (σ.get t) yes no no:=by
 simp only[AF,By];generalize σ.get t=v
 cases v with
 | v x=>cases x with
  | sc c=>cases c with
   | dat d=>cases d<;>rfl
   | _=>rfl
  | ag=>rfl
 | _=>rfl
theorem R5{t:V}{yes no:Prop}:AF (E (t,F)) σ yes no=By (σ.get t) no yes no:=by
 simp only[AF,By];generalize σ.get t=v
 cases v with
 | v x=>cases x with
  | sc c=>cases c with
   | dat d=>cases d with
    | bool b=>cases b<;>simp
    | _=>rfl
   | _=>rfl
  | ag=>rfl
 | _=>rfl
theorem gO{t}:go P (.ops ((E (t,T),o)::its)::k) Q .normal (E σ)=go P (.gd (σ.get t) T o its::k) Q .normal (E σ):=by
 show AF (E (t,T)) σ _ _=_
 rw[R6];show _=By _ _ _ _
 simp only[cond_true];congr 1<;>(cases o.dst<;>rfl)
theorem gN{t}:go P (.ops ((E (t,F),o)::its)::k) Q .normal (E σ)=go P (.gd (σ.get t) F o its::k) Q .normal (E σ):=by
 show AF (E (t,F)) σ _ _=_
 rw[R5];show _=By _ _ _ _
 simp only[cond_false];congr 1<;>(cases o.dst<;>rfl)
theorem gL{b:U}:go P (.gd (.v (.sc (.dat (.bool b)))) b o its::k) Q .normal (E σ)=go P (.ops ((G,o)::its)::k) Q .normal (E σ):=by
 cases b<;>(simp only[go,Az,By,cond_true,cond_false]; simp[AZ,AF])
theorem gK:go P (.gd (.v (.sc (.dat (.bool F)))) T o its::k) Q .normal (E σ)=go P (.ops its::k) Q .normal (Cm σ o.dst):=by
 simp only[go,Az,By,cond_true];cases o.dst<;>simp[BN,Cm]
theorem gJ:go P (.gd (.v (.sc (.dat (.bool T)))) F o its::k) Q .normal (E σ)=go P (.ops its::k) Q .normal (Cm σ o.dst):=by
 simp only[go,Az,By,cond_false];cases o.dst<;>simp[BN,Cm]
theorem gX{d x}:go P (.ops ((G,.mv d x)::its)::k) Q .normal (E σ)=go P (.ops its::k) Q .normal (E (σ.set d (σ.val x))):=by
 rw[AT rfl,UW]
theorem gb{d c a b}:go P (.ops ((G,.pick d c a b)::its)::k) Q .normal (E σ)=go P (.ops its::k) Q .normal (Au σ d (J9 (σ.val c) (σ.val a) (σ.val b))):=by
 rw[AT rfl,UY]
theorem fh{d zs ps}:go P (.ops ((G,.build d zs ps)::its)::k) Q .normal (E σ)=go P (.ops its::k) Q .normal (Au σ d ((D0 zs (ps.map fun p=>(p.1,p.2.1,σ.val p.2.2))).map fun cs=> .v (.ag cs))):=by
 rw[AT rfl,UJ]
theorem gT{d x g n}:go P (.ops ((G,.load d x g n)::its)::k) Q .normal (E σ)=go P (.ops its::k) Q .normal (Au σ d (Cf σ g n (σ.val x))):=by
 rw[AT rfl,US]
theorem gZ{d x}:go P (.ops ((G,.nilc d x)::its)::k) Q .normal (E σ)=go P (.ops its::k) Q .normal (Au σ d (F1 (σ.val x))):=by
 rw[AT rfl,UX]
theorem fX{d op x y}:go P (.ops ((G,.bin d op x y)::its)::k) Q .normal (E σ)=go P (.ops its::k) Q .normal (Au σ d (BI op (σ.val x) (σ.val y))):=by
 rw[AT rfl,UI]
theorem gM{d g ks x y}:go P (.ops ((G,.geq d g ks x y)::its)::k) Q .normal (E σ)=go P (.ops its::k) Q .normal (Au σ d (IJ g ks (σ.val x) (σ.val y))):=by
 rw[AT rfl,UO]
theorem fW{d g x y}:go P (.ops ((G,.beq d g x y)::its)::k) Q .normal (E σ)=go P (.ops its::k) Q .normal (Au σ d (HZ g (σ.val x) (σ.val y))):=by
 rw[AT rfl,UH]
theorem hI{d op x}:go P (.ops ((G,.un d op x)::its)::k) Q .normal (E σ)=go P (.ops its::k) Q .normal (Au σ d (HP op (σ.val x))):=by
 rw[AT rfl,V6]
theorem fq{d kd x}:go P (.ops ((G,.conv d kd x)::its)::k) Q .normal (E σ)=go P (.ops its::k) Q .normal (Au σ d (ON kd (σ.val x))):=by
 rw[AT rfl,UK]
theorem gw{d sz x lo hi mx}:go P (.ops ((G,.slc d sz x lo hi mx)::its)::k) Q .normal (E σ)=go P (.ops its::k) Q .normal (Au σ d (DJ σ sz (σ.val x) lo hi mx)):=by
 rw[AT rfl,V2]
theorem gy{d x lo hi}:go P (.ops ((G,.sslc d x lo hi)::its)::k) Q .normal (E σ)=go P (.ops its::k) Q .normal (Au σ d (G5 σ (σ.val x) lo hi)):=by
 rw[AT rfl,V4]
theorem gB{d x off}:go P (.ops ((G,.faddr d x off)::its)::k) Q .normal (E σ)=go P (.ops its::k) Q .normal (Au σ d (BZ σ.rows off (σ.val x))):=by
 rw[AT rfl,UM]
theorem gC{d x off g n}:go P (.ops ((G,.field d x off g n)::its)::k) Q .normal (E σ)=go P (.ops its::k) Q .normal (Au σ d (FP off g n (σ.val x))):=by
 rw[AT rfl,UN]
theorem gP{d x i sz}:go P (.ops ((G,.iaddr d x i sz)::its)::k) Q .normal (E σ)=go P (.ops its::k) Q .normal (Au σ d (CM σ.rows sz (σ.val x) (σ.val i))):=by
 rw[AT rfl,UP]
theorem fS{d x i len sz}:go P (.ops ((G,.aaddr d x i len sz)::its)::k) Q .normal (E σ)=go P (.ops its::k) Q .normal (Au σ d (Jq len sz (σ.val x) (σ.val i))):=by
 rw[AT rfl,(Bt (o:= .aaddr d x i len sz) rfl).trans BG]
theorem gQ{d x i}:go P (.ops ((G,.idx d x i)::its)::k) Q .normal (E σ)=go P (.ops its::k) Q .normal (Au σ d (IN (σ.val x) (σ.val i))):=by
 rw[AT rfl,UQ]
theorem gV{d t x}:go P (.ops ((G,.mkif d t x)::its)::k) Q .normal (E σ)=go P (.ops its::k) Q .normal (Au σ d (FY t (σ.val x))):=by
 rw[AT rfl,UU]
theorem hD{d x t zc}:go P (.ops ((G,.tass d x t zc)::its)::k) Q .normal (E σ)=go P (.ops its::k) Q .normal (Au σ d (G7 t zc (σ.val x))):=by
 rw[AT rfl,V5]
theorem gA{d x i}:go P (.ops ((G,.extr d x i)::its)::k) Q .normal (E σ)=go P (.ops its::k) Q .normal (Au σ d (Ib i (σ.val x))):=by
 rw[AT rfl,UL]
theorem gS{d x}:go P (.ops ((G,.len d x)::its)::k) Q .normal (E σ)=go P (.ops its::k) Q .normal (Au σ d (DF σ.rows (σ.val x))):=by
 rw[AT rfl,UR]
theorem gr{d x}:go P (.ops ((G,.sconv d x)::its)::k) Q .normal (E σ)=go P (.ops its::k) Q .normal (Au σ d (G4 σ.rows (σ.val x))):=by
 rw[AT rfl,V0]
theorem gx{d x}:go P (.ops ((G,.slen d x)::its)::k) Q .normal (E σ)=go P (.ops its::k) Q .normal (Au σ d (Jb (σ.val x))):=by
 rw[AT rfl,V3]
theorem gW{d m x y}:go P (.ops ((G,.mm d m x y)::its)::k) Q .normal (E σ)=go P (.ops its::k) Q .normal (Au σ d (Hq m (σ.val x) (σ.val y))):=by
 rw[AT rfl,UV]
theorem gU{d f caps}:go P (.ops ((G,.mkf d f caps)::its)::k) Q .normal (E σ)=go P (.ops its::k) Q .normal (Au σ d ((EY f (caps.map σ.val)).map fun c=> .v (.sc c))):=by
 rw[AT rfl,UT]
theorem gz{x y n}:go P (.ops ((G,.store x y n)::its)::k) Q .normal (E σ)=go P (.ops its::k) Q .normal (σ.storeV n (σ.val x) (σ.val y)):=by
 rw[AT rfl,pR]
theorem fU{d sz b x y}:go P (.ops ((G,.app d sz b x y)::its)::k) Q .normal (E σ)=go P (.ops its::k) Q .normal (σ.appV d sz b (σ.val x) (σ.val y)):=by
 rw[AT rfl,pM]
theorem gg{d j id sz}:go P (.ops ((G,.ownb d j id sz)::its)::k) Q .normal (E σ)=go P (.ops its::k) Q .normal (σ.step (.ownb d j id sz)):=AT rfl
theorem gG{id}:go P (.ops ((G,.frz id)::its)::k) Q .normal (E σ)=go P (.ops its::k) Q .normal (σ.step (.frz id)):=AT rfl
theorem gF{its:L AN}:go P (.frs its::k) Q .normal (E σ)=go P (.fr (CL its σ):: .dops its::k) Q .normal (E σ):=rfl
theorem gE{b:U}(hb:b=T)(h:go P k Q .normal (E σ)):go P (.fr b::k) Q .normal (E σ):=⟨hb,h⟩
theorem fV{its:L AN}:go P (.dops ((G,G,o)::its)::k) Q .normal (E σ)=go P (.ops [(G,o)]:: .frs its::k) Q .normal (E σ):=rfl
theorem R8{α:Type}{l:L α}{f:α→U}(h:∀x,f x=T):l.all f=T:=List.all_eq_true.2 fun x _=>h x
def N9(τ σ:St)(N:L V)(o:AOp)(K:St→Prop):Prop:=
 match τ.pure o with
 | some (d,v)=>v.avoids N=T∧K (σ.set d v)
 | none=>match τ.made o with
  | some m=>(match m with | .box _ cs=>cs.all (·.avoids N) | _=>T)=T∧(match σ.make m with
   | some σ'=>K σ'
   | none=>False)
  | none=>False
theorem Oo{K:St→Prop}(hc:o.isCall=F):Fh P N o K σ=N9 (σ.less N) σ N o K:=by
 cases o<;>first
  | rfl
  | (simp[AOp.isCall] at hc; done)
theorem pN(hc:o.isCall=F)(hg:o.gentle=T):σ.step o=(match σ.pure o with
  | some (d,v)=>E (σ.set d v)
  | none=>match σ.made o with
   | some m=>σ.make m
   | none=>G):=by
 cases o<;>first
  | rfl
  | (simp[AOp.isCall] at hc; done)
  | (simp[AOp.gentle] at hg; done)
theorem YA{K:St→Prop}(hg:o.gentle=T)(hc:o.isCall=F):Fh P [] o K σ=AL P o K σ:=by
 cases hc:o.isCall with
 | true=>simp_all
 | false=>
  rw[Oo hc,Rd (by rintro _ _ _ rfl; simp[AOp.isCall] at hc) (by rintro _ _ _ rfl; simp[AOp.isCall] at hc),pN hc hg];unfold N9;show(match σ.pure o with | some (d,v)=>v.avoids []=T∧K (σ.set d v) | none=>_)=_
  cases hp:σ.pure o with
  | some p=>
   have hav:p.2.avoids []=T:=R8 fun c=>rfl
   simp only[BN,hav,true_and]
  | none=>
   show(match σ.made o with | some m=>_ | none=>False)=_
   cases hm:σ.made o with
   | none=>rfl
   | some m=>
    cases m with
    | box d cs=>
     have hav:cs.all (·.avoids [])=T:=R8 fun c=>rfl
     show(cs.all (·.avoids [])=T∧(match σ.make (.box d cs) with | some σ'=>K σ' | none=>False))=BN (σ.make (.box d cs)) K
     rw[hav];cases σ.make (.box d cs)<;>simp[BN]
    | row d sz es=>
     show(T=T∧(match σ.make (.row d sz es) with | some σ'=>K σ' | none=>False))=BN (σ.make (.row d sz es)) K
     cases σ.make (.row d sz es)<;>simp[BN]
theorem B5{its:L AN}(hg:o.gentle=T)(hc:o.isCall=F):go P (.dops ((E [],G,o)::its)::k) Q .normal (E σ)=go P (.ops [(G,o)]:: .dops its::k) Q .normal (E σ):=
 YA hg hc
def Be(σ:St)(N:L V):O V→O St→O St
 | some d,E τ=>bif (τ.get d).avoids N then E (σ.set d (τ.get d)) else G
 | _,_=>G
theorem Bi{its:L AN}(hp:o.isPure=T):go P (.dops ((E N,G,o)::its)::k) Q .normal (E σ)=go P (.dops its::k) Q .normal (Be σ N o.dst ((σ.less N).step o)):=by
 have hc:o.isCall=F:=by cases o<;>first | rfl | (simp[AOp.isPure] at hp; done)
 show Fh P N o _ σ=_
 rw[Oo hc,UZ hp];unfold N9;cases h:(σ.less N).pure o with
 | some p=>
  obtain⟨d,v⟩:=p;rw[(Q0 h).1];show(v.avoids N=T∧_)=go P (.dops its::k) Q .normal (bif (((σ.less N).set d v).get d).avoids N then E (σ.set d (((σ.less N).set d v).get d)) else G)
  rw[St.get_set_same];cases v.avoids N with
  | true=>simp[go,Az]
  | false=>simp[go]
 | none=>
  have hm:(σ.less N).made o=G:=by cases o<;>first | rfl | (simp[AOp.isPure] at hp; done)
  show(match (σ.less N).made o with | some m=>_ | none=>False)=_
  rw[hm];cases o.dst<;>rfl
def TT(N:L V):Mk→U
 | .box _ cs=>cs.all (·.avoids N)
 | _=>T
theorem fw{its:L AN}{m:Mk}(hm:(σ.less N).made o=E m)(hv:TT N m=T){σ':St}(hmk:σ.make m=E σ')(h:go P (.dops its::k) Q .normal (E σ')) :
  go P (.dops ((E N,G,o)::its)::k) Q .normal (E σ):=by
 have hc:o.isCall=F:=by cases o<;>first | rfl | (simp[St.made] at hm; done)
 show Fh P N o _ σ
 rw[Oo hc];unfold N9;rw[TN hm];simp only[hm,hmk];cases m with
 | box d cs=>exact⟨hv,h⟩
 | row d sz es=>exact⟨rfl,h⟩
theorem FS{its:L AN}{d f args}{xs:L DV}{rs:L R1}(hf:FC P f xs rs)(h1:(σ.less N).toDVs args=E xs)(h2:Cd rs)(h3:σ.fresh d=T)(h4:(rs.flatMap R1.cells).length≤64)(h5:go P (.dops its::k) Q .normal (E (σ.inst d rs))) :
  go P (.dops ((E N,G,.call d f args)::its)::k) Q .normal (E σ):=⟨xs,rs,.inl ⟨h1,.inl h2⟩,hf,h3,h4,h5⟩
theorem fv{its:L AN}{d x args f caps}{xs:L DV}{rs:L R1}(hf:FC P f (xs++caps.map .sc) rs)(h0:Bs P f=T)(hx:(σ.less N).toDV ((σ.less N).val x)=E (.sc (.clo f caps)))(h1:(σ.less N).toDVs args=E xs)(h2:Cd rs)(h3:σ.fresh d=T)(h4:(rs.flatMap R1.cells).length≤64)
  (h5:go P (.dops its::k) Q .normal (E (σ.inst d rs))):go P (.dops ((E N,G,.callv d x args)::its)::k) Q .normal (E σ):=⟨f,caps,xs,rs,.inl ⟨hx,h1,h2⟩,h0,hf,h3,h4,h5⟩
theorem fu{its:L AN}{d f args}{xs:L DV}{rs:L R1}(hf:FC P f xs rs)(h1:(σ.less N).toIVs args=E xs)(h3:σ.fresh d=T)(h4:(rs.flatMap R1.cells).length≤64)(h5:go P (.dops its::k) Q .normal (E (σ.inst d rs))) :
  go P (.dops ((E N,G,.call d f args)::its)::k) Q .normal (E σ):=⟨xs,rs,.inr h1,hf,h3,h4,h5⟩
end
end Go.Vi
