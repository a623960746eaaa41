/-
The value level. No condition.
-/
import Derived.Test.YtfoohbeloilepaaGreatDVi25
namespace Go.Vi
set_option linter.all false
open Bool renaming and_eq_true → W, true → T, false → F
open Option renaming some → E, none → G
open _root_ renaming List → L, Option → O, Bool → U, Nat → V
inductive Fr where
 | code (c:Xj)
 | ops (its:L AItem)
 | dops (its:L B0)
 | blk (id:V)
 | pick (v:AV) (x y:Xj)
 | gd (v:AV) (want:U) (o:AOp) (its:L AItem)
 | gdd (v:AV) (want:U) (N:O (L V)) (o:AOp) (its:L B0)
 | fr (b:U)
 | frs (its:L B0)
 | panF (x:Opd)
 | calF (d:V) (f:FuncId) (args:L Opd)
def Cl{α:Type}(o:O α)(f:α→Prop):Prop:=
 match o with
 | some a=>f a
 | none=>False
def BN(v:AV)(X Y Z:Prop):Prop:=
 match v with
 | .v (.sc (.dat (.bool b)))=>if b=T then X else Y
 | .no=>Z
 | _=>False
def AD(σ:St)(d:V):O AV→O St
 | some v=>E (σ.set d v)
 | none=>G
def CW(σ:St):O V→O St
 | some d=>E (σ.set d .no)
 | none=>G
def mk1(σ:St):O Mk→O St
 | some m=>σ.make m
 | none=>G
def AJ(P:Program):L Fr→(Xo→St→Prop)→Xo→St→Prop
 | [],Q,e,σ=>Q e σ
 | .code c::k,Q,.normal,σ=>Bb P c (AJ P k Q) σ
 | .ops its::k,Q,.normal,σ=>Be P its (AJ P k Q .normal) σ
 | .dops its::k,Q,.normal,σ=>Cr P its (AJ P k Q .normal) σ
 | .pick v x y::k,Q,.normal,σ=>BN v (Bb P x (AJ P k Q) σ) (Bb P y (AJ P k Q) σ) False
 | .gd v want o its::k,Q,.normal,σ=>BN v (bif want then AR P o (Be P its (AJ P k Q .normal)) σ else Cl o.dst fun d=>Be P its (AJ P k Q .normal) (σ.set d .no))
   (bif want then Cl o.dst fun d=>Be P its (AJ P k Q .normal) (σ.set d .no) else AR P o (Be P its (AJ P k Q .normal)) σ)
   (Cl o.dst fun d=>Be P its (AJ P k Q .normal) (σ.set d .no))
 | .gdd v want N o its::k,Q,.normal,σ=>BN v (bif want then Cr P ((N,G,o)::its) (AJ P k Q .normal) σ else Cl o.dst fun d=>Cr P its (AJ P k Q .normal) (σ.set d .no))
   (bif want then Cl o.dst fun d=>Cr P its (AJ P k Q .normal) (σ.set d .no) else Cr P ((N,G,o)::its) (AJ P k Q .normal) σ)
   (Cl o.dst fun d=>Cr P its (AJ P k Q .normal) (σ.set d .no))
 | .fr b::k,Q,.normal,σ=>b=T∧AJ P k Q .normal σ
 | .frs its::k,Q,.normal,σ=>D7 its σ=T∧Cr P its (AJ P k Q .normal) σ
 | .panF x::k,Q,.normal,σ=>∃d,σ.val x= .v (.sc (.dat d))∧d.flat=T∧Ue d=T∧AJ P k Q (.pan d) σ
 | .calF d f args::k,Q,.normal,σ=>AR P (.call d f args) (AJ P k Q .normal) σ∨∃ds pd,σ.toDVs args=E ds∧M4 P f ds pd∧AJ P k Q (.pan pd) σ
 | .blk id::k,Q,.exit i,σ=>if i=id then AJ P k Q .normal σ else AJ P k Q (.exit i) σ
 | _::k,Q,e,σ=>AJ P k Q e σ
def go(P:Program)(k:L Fr)(Q:Xo→St→Prop)(e:Xo):O St→Prop
 | some σ=>AJ P k Q e σ
 | none=>False
def AOp.isPure:AOp→U
 | .mv .. | .pick .. | .build .. | .load .. | .nilc .. | .bin .. | .beq .. | .geq .. | .un .. | .conv .. | .slc .. | .sslc .. | .faddr .. | .field .. | .iaddr .. | .aaddr .. | .idx .. | .extr .. | .len .. | .slen .. | .sconv .. | .mm .. | .mkf .. | .zsl _ | .mkif .. | .tass .. =>T
 | _=>F
def AOp.isMade:AOp→U
 | .box .. | .alloc .. | .bslice .. | .mksl .. | .zap .. =>T
 | _=>F
def AOp.isCall:AOp→U
 | .call .. | .callv .. =>T
 | .mv .. | .pick .. | .box .. | .alloc .. | .build .. | .bslice .. | .load .. | .store .. | .clr .. | .nilc .. | .bin .. | .beq .. | .geq .. | .un .. | .conv .. | .mksl .. | .slc .. | .sslc .. | .faddr .. | .field .. | .iaddr .. | .aaddr .. | .idx .. | .extr .. | .len .. | .slen .. | .sconv .. | .app .. | .mm .. | .mkf .. | .zsl _ | .zap .. | .mkif .. | .tass .. =>F
 | .drop _ | .own .. | .ownb .. | .ren .. | .frz _ | .frzb _ | .forget _ | .keep .. | .cut _=>F
section
variable {P : Program} {k : L Fr} {Q : Xo → St → Prop} {σ : St} {its : L AItem} {ds : L B0} {o : AOp} {N : L V}
theorem Ro{c:Xj}(h:go P [.code c] Q .normal (E σ)):Bb P c Q σ:=Wr c (fun _ _ h=>h) h
theorem sI{e}:go P k Q e G=False:=rfl
theorem sG{e}:go P [] Q e (E σ)=Q e σ:=rfl
theorem sY:go P (.code .skip::k) Q .normal (E σ)=go P k Q .normal (E σ):=rfl
theorem sS:go P (.code (.reg its)::k) Q .normal (E σ)=go P (.ops its::k) Q .normal (E σ):=rfl
theorem rZ:go P (.code (.drw ds)::k) Q .normal (E σ)=go P (.fr (D7 ds σ):: .dops ds::k) Q .normal (E σ):=rfl
theorem rf:go P (.fr T::k) Q .normal (E σ)=go P k Q .normal (E σ):=by simp[go,AJ]
theorem sX{x y:Xj}:go P (.code (.seq x y)::k) Q .normal (E σ)=go P (.code x:: .code y::k) Q .normal (E σ):=by
 simp only[go,AJ,Bb];congr 1
 funext e σ'
 cases e<;>simp only[AJ]
theorem rN{id:V}{c:Xj}:go P (.code (.block id c)::k) Q .normal (E σ)=go P (.code c:: .blk id::k) Q .normal (E σ):=by
 simp only[go,AJ,Bb];congr 1
 funext e σ'
 cases e<;>simp only[AJ]
theorem ra{id:V}:go P (.code (.exit id)::k) Q .normal (E σ)=go P k Q (.exit id) (E σ):=rfl
theorem sV:go P (.code .ret::k) Q .normal (E σ)=go P k Q .ret (E σ):=rfl
theorem rR{c:Opd}{x y:Xj}:go P (.code (.cond c x y)::k) Q .normal (E σ)=go P (.pick (σ.val c) x y::k) Q .normal (E σ):=by
 show(match σ.val c with | .v (.sc (.dat (.bool b)))=>if b=T then Bb P x (AJ P k Q) σ else Bb P y (AJ P k Q) σ | _=>False)=BN (σ.val c) _ _ _
 unfold BN;generalize σ.val c=v
 cases v with
 | v x=>cases x with
  | sc c=>cases c with
   | dat d=>cases d<;>rfl
   | _=>rfl
  | ag=>rfl
 | _=>rfl
theorem sR{x y:Xj}:go P (.pick (.v (.sc (.dat (.bool T)))) x y::k) Q .normal (E σ)=go P (.code x::k) Q .normal (E σ):=by simp[go,AJ,BN]
theorem sQ{x y:Xj}:go P (.pick (.v (.sc (.dat (.bool F)))) x y::k) Q .normal (E σ)=go P (.code y::k) Q .normal (E σ):=by simp[go,AJ,BN]
theorem sM{x:Opd}:go P (.code (.pan its x)::k) Q .normal (E σ)=go P (.ops its:: .panF x::k) Q .normal (E σ):=rfl
theorem rQ{d f args}:go P (.code (.cal its d f args)::k) Q .normal (E σ)=go P (.ops its:: .calF d f args::k) Q .normal (E σ):=rfl
theorem Rk{d f args}(H:go P (.ops [(G,.call d f args)]::k) Q .normal (E σ)):go P (.calF d f args::k) Q .normal (E σ):= .inl H
theorem sO{c:Xj}{d:D}:go P (.code c::k) Q (.pan d) (E σ)=go P k Q (.pan d) (E σ):=rfl
theorem rK{id:V}{d:D}:go P (.blk id::k) Q (.pan d) (E σ)=go P k Q (.pan d) (E σ):=rfl
theorem Ee{its:L (L V × AItem)}{τ σ2:St}{ks bs rs:L V}(h0:(σ.kept ks bs rs).pad (its.filterMap fun i=>i.2.2.dst)=σ2)(h1:Ad P its τ its.length (its.map fun _=>F) σ2)(h2:go P k Q .normal (E τ)):go P (.code (.any its)::k) Q .normal (E σ):=
 ⟨ks,bs,rs,τ,h0▸h1,h2⟩
def UY(P:Program)(its:L (L V × AItem))(τ:St)(f:V)(ms:L U)(σ:St):L (L V × AItem)→V→Prop
 | [],_=>True
 | it::r,i=>(ms[i]?=E F→(∀j∈it.1,ms[j]?=E T)→∃pre post:L AItem,pre.all (fun i=>i.2.idle)=T∧post.all (fun i=>i.2.idle)=T∧go P [.ops (pre++it.2::post)] (fun _=>Ad P its τ f (ms.set i T)) .normal (E σ))∧UY P its τ f ms σ r (i+1)
theorem bp{its:L (L V × AItem)}{τ:St}{f:V}{ms:L U}:∀{r:L (L V × AItem)} {n:V},UY P its τ f ms σ r n→∀(i:V) (it:L V × AItem),r[i]?=E it→ms[n+i]?=E F→(∀j∈it.1,ms[j]?=E T)→∃pre post:L AItem,pre.all (fun i=>i.2.idle)=T∧post.all (fun i=>i.2.idle)=T∧go P [.ops (pre++it.2::post)] (fun _=>Ad P its τ f (ms.set (n+i) T)) .normal (E σ)
 | [],_,_,i,it,hi,_,_=>by simp at hi
 | x::r,n,h,0,it,hi,h1,h2=>by
  simp at hi
  subst hi;exact h.1 h1 h2
 | x::r,n,h,i+1,it,hi,h1,h2=>by
  have:=bp h.2 i it (by simpa using hi) (by rw[show n+1+i=n+(i+1) by omega]; exact h1) h2;rw[show n+1+i=n+(i+1) by omega] at this
  exact this
theorem Wl{it:AItem}{post:L AItem}{K:St→Prop}:∀(pre:L AItem) (σ:St),pre.all (fun i=>i.2.idle)=T→Be P (pre++it::post) K σ→Be P pre (fun σ=>AL it.1 σ (AR P it.2 (Be P post K) σ) (match it.2.dst with | some d=>Be P post K (σ.set d .no) | none=>False)) σ
 | [],_,_,h=>h
 | (g,o)::pre,σ,hp,h=>by
  have hi:o.idle=T:=by simp only[List.all_cons,W] at hp; exact hp.1
  have hp':pre.all (fun i=>i.2.idle)=T:=by simp only[List.all_cons,W] at hp; exact hp.2
  have h':AL g σ (AR P o (Be P (pre++it::post) K) σ) (match o.dst with | some d=>Be P (pre++it::post) K (σ.set d .no) | none=>False):=h;show AL g σ (AR P o (Be P pre _) σ) _
  have hno:o.dst=G:=by cases o<;>first | rfl | (simp[AOp.idle] at hi; done)
  simp only[hno] at h' ⊢
  have key:∀X Y:St→Prop,(∀σ,X σ→Y σ)→AR P o X σ→AR P o Y σ:=fun X Y hXY hx=>by
   cases o<;>first
    | (simp[AOp.idle] at hi; done)
    | (simp only[AR] at hx ⊢; split at hx<;>simp_all)
  have mono:∀{X Y:Prop},(X→Y)→AL g σ X False→AL g σ Y False:=fun hXY hx=>by
   unfold AL at hx ⊢
   cases g with
   | none=>exact hXY hx
   | some g=>
    simp only at hx ⊢
    split
    ·rename_i b hb
     rw[hb] at hx
     simp only at hx
     split at hx
     ·rename_i e
      rw[if_pos e];exact hXY hx
     ·exact hx.elim
    ·rename_i hb
     rw[hb] at hx
     exact hx
    ·rename_i h1 h2
     split at hx
     ·rename_i b hb
      exact h1 b hb
     ·rename_i hb
      exact h2 hb
     ·exact hx
  exact mono (key _ _ fun σ h=>Wl pre σ hp' h) h'
theorem Ai{its:L (L V × AItem)}{τ:St}{f:V}{ms:L U}(h:UY P its τ f ms σ its 0):Ad P its τ (f+1) ms σ:=by
 intro i it hi h1 h2;obtain⟨pre,post,hp,hq,this⟩:=bp h i it hi (by simpa using h1) h2;rw[Nat.zero_add] at this
 exact⟨pre,post,hp,hq,Wl pre _ hp this⟩
theorem np{it:AItem}{Q:Xo→St→Prop}(h:go P [.ops [it]] Q .normal (E σ)):∃pre post:L AItem,pre.all (fun i=>i.2.idle)=T∧post.all (fun i=>i.2.idle)=T∧go P [.ops (pre++it::post)] Q .normal (E σ):=⟨[],[],rfl,rfl,h⟩
theorem A6{α:Type}{a b:α}:(bif T then a else b)=a:=rfl
theorem A7{α:Type}{a b:α}:(bif F then a else b)=b:=rfl
theorem hq{ms:L U}{N:L V}{a:U}(hw:∀j∈N,ms[j]?=E T)(j:V)(h:N.elem j=T)(e:ms[j]?=E a):a=T:=by
 have:=hw j (List.elem_iff.1 h);rw[e] at this
 exact Option.some.inj this
theorem hz{ms:L U}{i:V}{a:U}(h:ms[i]?=E F)(e:ms[i]?=E a):a=F:=Option.some.inj (e.symm.trans h)
theorem sN{c:Xj}{i:V}:go P (.code c::k) Q (.exit i) (E σ)=go P k Q (.exit i) (E σ):=rfl
theorem sP{c:Xj}:go P (.code c::k) Q .ret (E σ)=go P k Q .ret (E σ):=rfl
theorem rH{id:V}:go P (.blk id::k) Q .normal (E σ)=go P k Q .normal (E σ):=rfl
theorem rM{id:V}:go P (.blk id::k) Q .ret (E σ)=go P k Q .ret (E σ):=rfl
theorem rJ{id i:V}:go P (.blk id::k) Q (.exit i) (E σ)=go P k Q (bif i==id then .normal else .exit i) (E σ):=by
 by_cases h:i=id
 ·simp[go,AJ,h]
 ·have h':(i==id)=F:=by simpa using h
  simp[go,AJ,h,h']
theorem sK:go P (.ops []::k) Q .normal (E σ)=go P k Q .normal (E σ):=rfl
theorem rY:go P (.dops []::k) Q .normal (E σ)=go P k Q .normal (E σ):=rfl
theorem Wk{K:St→Prop}(h1:∀d f args,o≠ .call d f args)(h2:∀d x args,o≠ .callv d x args):AR P o K σ=Cl (σ.step o) K:=by
 cases o<;>first
  | rfl
  | (show(match St.step σ _ with | some σ'=>K σ' | none=>False)=Cl (St.step σ _) K; generalize St.step σ _=x; cases x<;>rfl)
  | exact absurd rfl (h1 _ _ _)
  | exact absurd rfl (h2 _ _ _)
theorem cM(h:o.isPure=T):σ.step o=(σ.pure o).map fun p=>σ.set p.1 p.2:=by
 cases o<;>first
  | (simp[AOp.isPure] at h; done)
  | skip
 all_goals
  simp only[St.step,St.made];generalize σ.pure _=x
  cases x<;>rfl
theorem A1s(h:o.isMade=T):σ.step o=(σ.made o).bind σ.make:=by
 cases o<;>first
  | (simp[AOp.isMade] at h; done)
  | skip
 all_goals
  simp only[St.step,St.pure];generalize σ.made _=x
  cases x<;>rfl
theorem B2(h:o.isCall=F):go P (.ops ((G,o)::its)::k) Q .normal (E σ)=go P (.ops its::k) Q .normal (σ.step o):=by
 show AR P o (Be P its (AJ P k Q .normal)) σ=_
 rw[Wk (by rintro _ _ _ rfl; simp[AOp.isCall] at h) (by rintro _ _ _ rfl; simp[AOp.isCall] at h)];cases σ.step o<;>rfl
def Se:L V→U
 | []=>T
 | x::r=> !r.contains x&&Se r
theorem aa:∀{l:L V},Se l=T→l.Nodup
 | [],_=>List.nodup_nil
 | x::r,h=>by
  simp only[Se,W,Bool.not_eq_true',List.contains_eq_mem,decide_eq_false_iff_not] at h;exact List.nodup_cons.2 ⟨h.1,aa h.2⟩
theorem BO{d f args}{xs:L DV}{rs:L R1}(hf:FC P f xs rs)(h1:σ.toDVs args=E xs)(h2:CO rs)(h3:σ.fresh d=T)(h4:(rs.flatMap R1.cells).length≤64)(h5:go P (.ops its::k) Q .normal (E (σ.inst d rs))) :
  go P (.ops ((G,.call d f args)::its)::k) Q .normal (E σ):= .inl ⟨xs,rs,.inl ⟨h1,.inl h2⟩,hf,h3,h4,h5⟩
theorem Lx{d f args}{xs:L DV}{rs:L R1}(hf:FC P f xs rs)(h1:σ.toIVs args=E xs)(h3:σ.fresh d=T)(h4:(rs.flatMap R1.cells).length≤64)(h5:go P (.ops its::k) Q .normal (E (σ.inst d rs))) :
  go P (.ops ((G,.call d f args)::its)::k) Q .normal (E σ):= .inl ⟨xs,rs,.inr h1,hf,h3,h4,h5⟩
theorem D8{d f args}{ids:L V}{xs:L XV}{R0 R1:Aq}{r:D}(hf:Co P f xs R0 R1 r)(h0:Se ids=T)(h1:σ.toXVs ids args=E xs)(h2:CE σ.rows ids=E R0)(h3:DM R0)(h4:DW R0 R1=T)(h5:go P (.ops its::k) Q .normal (E (σ.instX d ids R1 r))) :
  go P (.ops ((G,.call d f args)::its)::k) Q .normal (E σ):= .inr (.inl ⟨ids,xs,R0,R1,r,⟨aa h0,h1,h2,h3,h4⟩,hf,h5⟩)
theorem XQ{d f args}{σ':St}{r:AV}(hf:F5 P f (args.map σ.val) σ σ' r)(h5:go P (.ops its::k) Q .normal (E (σ'.set d r))):go P (.ops ((G,.call d f args)::its)::k) Q .normal (E σ):= .inr (.inr ⟨σ',r,hf,h5⟩)
theorem Ly{d x args f caps}{xs:L DV}{rs:L R1}(hf:FC P f (xs++caps.map .sc) rs)(h0:B4 P f=T)(hx:σ.toDV (σ.val x)=E (.sc (.clo f caps)))(h1:σ.toDVs args=E xs)(h2:CO rs)(h3:σ.fresh d=T)(h4:(rs.flatMap R1.cells).length≤64)
  (h5:go P (.ops its::k) Q .normal (E (σ.inst d rs))):go P (.ops ((G,.callv d x args)::its)::k) Q .normal (E σ):=⟨f,caps,xs,rs,.inl ⟨hx,h1,h2⟩,h0,hf,h3,h4,h5⟩
theorem BK(h:o.isPure=T):σ.step o=(σ.pure o).bind fun p=>AD σ p.1 (E p.2):=by
 rw[cM h];cases σ.pure o<;>rfl
theorem Ca{d:V}{x:O AV}:((x.map (Prod.mk d)).bind fun p=>AD σ p.1 (E p.2))=AD σ d x:=by cases x<;>rfl
theorem cJ{d x}:σ.step (.mv d x)=E (σ.set d (σ.val x)):=rfl
theorem cL{d c a b}:σ.step (.pick d c a b)=AD σ d (LS (σ.val c) (σ.val a) (σ.val b)):=(BK rfl).trans Ca
theorem bt{d zs ps}:σ.step (.build d zs ps)=AD σ d ((Dr zs (ps.map fun p=>(p.1,p.2.1,σ.val p.2.2))).map fun cs=> .v (.ag cs)):=by
 rw[BK rfl];simp only[St.pure];cases Dr zs (ps.map fun p=>(p.1,p.2.1,σ.val p.2.2))<;>rfl
theorem cF{d x g n}:σ.step (.load d x g n)=AD σ d (CR σ g n (σ.val x)):=(BK rfl).trans Ca
theorem cK{d x}:σ.step (.nilc d x)=AD σ d (G2 (σ.val x)):=(BK rfl).trans Ca
theorem br{d op x y}:σ.step (.bin d op x y)=AD σ d (Cs op (σ.val x) (σ.val y)):=(BK rfl).trans Ca
theorem cB{d g ks x y}:σ.step (.geq d g ks x y)=AD σ d (Lw g ks (σ.val x) (σ.val y)):=(BK rfl).trans Ca
theorem bq{d g x y}:σ.step (.beq d g x y)=AD σ d (K6 g (σ.val x) (σ.val y)):=(BK rfl).trans Ca
theorem cS{d op x}:σ.step (.un d op x)=AD σ d (JV op (σ.val x)):=(BK rfl).trans Ca
def Tf(k:IntKind):AV→O AV
 | .v (.sc (.dat (.int _ n)))=>E (.v (.sc (.dat (.int k (k.wrap n)))))
 | _=>G
theorem bu{d kd x}:σ.step (.conv d kd x)=AD σ d (Tf kd (σ.val x)):=by
 rw[BK rfl];simp only[St.pure];generalize σ.val x=v
 cases v with
 | v x=>cases x with
  | sc c=>cases c with
   | dat d=>cases d<;>rfl
   | _=>rfl
  | ag=>rfl
 | _=>rfl
theorem cO{d sz x lo hi mx}:σ.step (.slc d sz x lo hi mx)=AD σ d (Dd σ sz (σ.val x) lo hi mx):=(BK rfl).trans Ca
theorem cQ{d x lo hi}:σ.step (.sslc d x lo hi)=AD σ d (Hz σ (σ.val x) lo hi):=(BK rfl).trans Ca
theorem bw{d x off}:σ.step (.faddr d x off)=AD σ d (CB σ.rows off (σ.val x)):=(BK rfl).trans Ca
theorem cA{d x off g n}:σ.step (.field d x off g n)=AD σ d (H5 off g n (σ.val x)):=(BK rfl).trans Ca
theorem cC{d x i sz}:σ.step (.iaddr d x i sz)=AD σ d (D9 σ.rows sz (σ.val x) (σ.val i)):=(BK rfl).trans Ca
theorem cD{d x i}:σ.step (.idx d x i)=AD σ d (LB (σ.val x) (σ.val i)):=(BK rfl).trans Ca
theorem cH{d t x}:σ.step (.mkif d t x)=AD σ d (Hk t (σ.val x)):=(BK rfl).trans Ca
theorem cR{d x t zc}:σ.step (.tass d x t zc)=AD σ d (LX t zc (σ.val x)):=(BK rfl).trans Ca
theorem bv{d x i}:σ.step (.extr d x i)=AD σ d (Kk i (σ.val x)):=(BK rfl).trans Ca
theorem cE{d x}:σ.step (.len d x)=AD σ d (Eg σ.rows (σ.val x)):=(BK rfl).trans Ca
theorem cN{d x}:σ.step (.sconv d x)=AD σ d (Hv σ.rows (σ.val x)):=(BK rfl).trans Ca
theorem cP{d x}:σ.step (.slen d x)=AD σ d (LV (σ.val x)):=(BK rfl).trans Ca
theorem cI{d m x y}:σ.step (.mm d m x y)=AD σ d (JE m (σ.val x) (σ.val y)):=(BK rfl).trans Ca
theorem cG{d f caps}:σ.step (.mkf d f caps)=AD σ d ((FZ f (caps.map σ.val)).map fun c=> .v (.sc c)):=by
 rw[BK rfl];simp only[St.pure];cases FZ f (caps.map σ.val)<;>rfl
theorem A1t(h:o.isMade=T):σ.step o=mk1 σ (σ.made o):=by
 rw[A1s h];cases σ.made o<;>rfl
theorem A1v{x y n}:σ.step (.store x y n)=σ.storeV n (σ.val x) (σ.val y):=rfl
theorem A1q{d sz b x y}:σ.step (.app d sz b x y)=σ.appV d sz b (σ.val x) (σ.val y):=rfl
theorem UO{d v}:AD σ d (E v)=E (σ.set d v):=rfl
theorem Wb{t:V}{yes no:Prop}:AL (E (t,T)) σ yes no=BN (σ.get t) yes no no:=by
 simp only[AL,BN];generalize σ.get t=v
 cases v with
 | v x=>cases x with
  | sc c=>cases c with
   | dat d=>cases d<;>rfl
   | _=>rfl
  | ag=>rfl
 | _=>rfl
theorem Wa{t:V}{yes no:Prop}:AL (E (t,F)) σ yes no=BN (σ.get t) no yes no:=by
 simp only[AL,BN];generalize σ.get t=v
 cases v with
 | v x=>cases x with
  | sc c=>cases c with
   | dat d=>cases d with
    | bool b=>cases b<;>simp
    | _=>rfl
   | _=>rfl
  | ag=>rfl
 | _=>rfl
theorem rv{t}:go P (.ops ((E (t,T),o)::its)::k) Q .normal (E σ)=go P (.gd (σ.get t) T o its::k) Q .normal (E σ):=by
 show AL (E (t,T)) σ _ _=_
 rw[Wb];show _=BN _ _ _ _
 simp only[cond_true];congr 1<;>(cases o.dst<;>rfl)
theorem ru{t}:go P (.ops ((E (t,F),o)::its)::k) Q .normal (E σ)=go P (.gd (σ.get t) F o its::k) Q .normal (E σ):=by
 show AL (E (t,F)) σ _ _=_
 rw[Wa];show _=BN _ _ _ _
 simp only[cond_false];congr 1<;>(cases o.dst<;>rfl)
theorem rq{b:U}:go P (.gd (.v (.sc (.dat (.bool b)))) b o its::k) Q .normal (E σ)=go P (.ops ((G,o)::its)::k) Q .normal (E σ):=by
 cases b<;>(simp only[go,AJ,BN,cond_true,cond_false]; simp[Be,AL])
theorem rp:go P (.gd (.v (.sc (.dat (.bool F)))) T o its::k) Q .normal (E σ)=go P (.ops its::k) Q .normal (CW σ o.dst):=by
 simp only[go,AJ,BN,cond_true];cases o.dst<;>simp[Cl,CW]
theorem ro:go P (.gd (.v (.sc (.dat (.bool T)))) F o its::k) Q .normal (E σ)=go P (.ops its::k) Q .normal (CW σ o.dst):=by
 simp only[go,AJ,BN,cond_false];cases o.dst<;>simp[Cl,CW]
theorem sF{d x}:go P (.ops ((G,.mv d x)::its)::k) Q .normal (E σ)=go P (.ops its::k) Q .normal (E (σ.set d (σ.val x))):=by
 rw[B2 rfl,cJ]
theorem sJ{d c a b}:go P (.ops ((G,.pick d c a b)::its)::k) Q .normal (E σ)=go P (.ops its::k) Q .normal (AD σ d (LS (σ.val c) (σ.val a) (σ.val b))):=by
 rw[B2 rfl,cL]
theorem rO{d zs ps}:go P (.ops ((G,.build d zs ps)::its)::k) Q .normal (E σ)=go P (.ops its::k) Q .normal (AD σ d ((Dr zs (ps.map fun p=>(p.1,p.2.1,σ.val p.2.2))).map fun cs=> .v (.ag cs))):=by
 rw[B2 rfl,bt]
theorem sB{d x g n}:go P (.ops ((G,.load d x g n)::its)::k) Q .normal (E σ)=go P (.ops its::k) Q .normal (AD σ d (CR σ g n (σ.val x))):=by
 rw[B2 rfl,cF]
theorem sH{d x}:go P (.ops ((G,.nilc d x)::its)::k) Q .normal (E σ)=go P (.ops its::k) Q .normal (AD σ d (G2 (σ.val x))):=by
 rw[B2 rfl,cK]
theorem rF{d op x y}:go P (.ops ((G,.bin d op x y)::its)::k) Q .normal (E σ)=go P (.ops its::k) Q .normal (AD σ d (Cs op (σ.val x) (σ.val y))):=by
 rw[B2 rfl,br]
theorem rr{d g ks x y}:go P (.ops ((G,.geq d g ks x y)::its)::k) Q .normal (E σ)=go P (.ops its::k) Q .normal (AD σ d (Lw g ks (σ.val x) (σ.val y))):=by
 rw[B2 rfl,cB]
theorem rE{d g x y}:go P (.ops ((G,.beq d g x y)::its)::k) Q .normal (E σ)=go P (.ops its::k) Q .normal (AD σ d (K6 g (σ.val x) (σ.val y))):=by
 rw[B2 rfl,bq]
theorem si{d op x}:go P (.ops ((G,.un d op x)::its)::k) Q .normal (E σ)=go P (.ops its::k) Q .normal (AD σ d (JV op (σ.val x))):=by
 rw[B2 rfl,cS]
theorem rT{d kd x}:go P (.ops ((G,.conv d kd x)::its)::k) Q .normal (E σ)=go P (.ops its::k) Q .normal (AD σ d (Tf kd (σ.val x))):=by
 rw[B2 rfl,bu]
theorem sZ{d sz x lo hi mx}:go P (.ops ((G,.slc d sz x lo hi mx)::its)::k) Q .normal (E σ)=go P (.ops its::k) Q .normal (AD σ d (Dd σ sz (σ.val x) lo hi mx)):=by
 rw[B2 rfl,cO]
theorem sd{d x lo hi}:go P (.ops ((G,.sslc d x lo hi)::its)::k) Q .normal (E σ)=go P (.ops its::k) Q .normal (AD σ d (Hz σ (σ.val x) lo hi)):=by
 rw[B2 rfl,cQ]
theorem rd{d x off}:go P (.ops ((G,.faddr d x off)::its)::k) Q .normal (E σ)=go P (.ops its::k) Q .normal (AD σ d (CB σ.rows off (σ.val x))):=by
 rw[B2 rfl,bw]
theorem re{d x off g n}:go P (.ops ((G,.field d x off g n)::its)::k) Q .normal (E σ)=go P (.ops its::k) Q .normal (AD σ d (H5 off g n (σ.val x))):=by
 rw[B2 rfl,cA]
theorem rx{d x i sz}:go P (.ops ((G,.iaddr d x i sz)::its)::k) Q .normal (E σ)=go P (.ops its::k) Q .normal (AD σ d (D9 σ.rows sz (σ.val x) (σ.val i))):=by
 rw[B2 rfl,cC]
theorem qz{d x i len sz}:go P (.ops ((G,.aaddr d x i len sz)::its)::k) Q .normal (E σ)=go P (.ops its::k) Q .normal (AD σ d (M7 len sz (σ.val x) (σ.val i))):=by
 rw[B2 rfl,(BK (o:= .aaddr d x i len sz) rfl).trans Ca]
theorem ry{d x i}:go P (.ops ((G,.idx d x i)::its)::k) Q .normal (E σ)=go P (.ops its::k) Q .normal (AD σ d (LB (σ.val x) (σ.val i))):=by
 rw[B2 rfl,cD]
theorem sD{d t x}:go P (.ops ((G,.mkif d t x)::its)::k) Q .normal (E σ)=go P (.ops its::k) Q .normal (AD σ d (Hk t (σ.val x))):=by
 rw[B2 rfl,cH]
theorem sg{d x t zc}:go P (.ops ((G,.tass d x t zc)::its)::k) Q .normal (E σ)=go P (.ops its::k) Q .normal (AD σ d (LX t zc (σ.val x))):=by
 rw[B2 rfl,cR]
theorem rl{id}:go P (.ops ((G,.frzb id)::its)::k) Q .normal (E σ)=go P (.ops its::k) Q .normal (σ.step (.frzb id)):=B2 rfl
theorem rc{d x i}:go P (.ops ((G,.extr d x i)::its)::k) Q .normal (E σ)=go P (.ops its::k) Q .normal (AD σ d (Kk i (σ.val x))):=by
 rw[B2 rfl,bv]
theorem sA{d x}:go P (.ops ((G,.len d x)::its)::k) Q .normal (E σ)=go P (.ops its::k) Q .normal (AD σ d (Eg σ.rows (σ.val x))):=by
 rw[B2 rfl,cE]
theorem sW{d x}:go P (.ops ((G,.sconv d x)::its)::k) Q .normal (E σ)=go P (.ops its::k) Q .normal (AD σ d (Hv σ.rows (σ.val x))):=by
 rw[B2 rfl,cN]
theorem sb{d x}:go P (.ops ((G,.slen d x)::its)::k) Q .normal (E σ)=go P (.ops its::k) Q .normal (AD σ d (LV (σ.val x))):=by
 rw[B2 rfl,cP]
theorem sE{d m x y}:go P (.ops ((G,.mm d m x y)::its)::k) Q .normal (E σ)=go P (.ops its::k) Q .normal (AD σ d (JE m (σ.val x) (σ.val y))):=by
 rw[B2 rfl,cI]
theorem sC{d f caps}:go P (.ops ((G,.mkf d f caps)::its)::k) Q .normal (E σ)=go P (.ops its::k) Q .normal (AD σ d ((FZ f (caps.map σ.val)).map fun c=> .v (.sc c))):=by
 rw[B2 rfl,cG]
theorem se{x y n}:go P (.ops ((G,.store x y n)::its)::k) Q .normal (E σ)=go P (.ops its::k) Q .normal (σ.storeV n (σ.val x) (σ.val y)):=by
 rw[B2 rfl,A1v]
theorem rC{d sz b x y}:go P (.ops ((G,.app d sz b x y)::its)::k) Q .normal (E σ)=go P (.ops its::k) Q .normal (σ.appV d sz b (σ.val x) (σ.val y)):=by
 rw[B2 rfl,A1q]
theorem sL{d j id sz}:go P (.ops ((G,.ownb d j id sz)::its)::k) Q .normal (E σ)=go P (.ops its::k) Q .normal (σ.step (.ownb d j id sz)):=B2 rfl
theorem sT{a b}:go P (.ops ((G,.ren a b)::its)::k) Q .normal (E σ)=go P (.ops its::k) Q .normal (σ.step (.ren a b)):=B2 rfl
theorem ri{id}:go P (.ops ((G,.frz id)::its)::k) Q .normal (E σ)=go P (.ops its::k) Q .normal (σ.step (.frz id)):=B2 rfl
theorem rh{its:L B0}:go P (.frs its::k) Q .normal (E σ)=go P (.fr (D7 its σ):: .dops its::k) Q .normal (E σ):=rfl
theorem rg{b:U}(hb:b=T)(h:go P k Q .normal (E σ)):go P (.fr b::k) Q .normal (E σ):=⟨hb,h⟩
theorem rD{its:L B0}:go P (.dops ((G,G,o)::its)::k) Q .normal (E σ)=go P (.ops [(G,o)]:: .frs its::k) Q .normal (E σ):=rfl
theorem Wd{α:Type}{l:L α}{f:α→U}(h:∀x,f x=T):l.all f=T:=List.all_eq_true.2 fun x _=>h x
def Rj(τ σ:St)(N:L V)(o:AOp)(K:St→Prop):Prop:=
 match τ.pure o with
 | some (d,v)=>v.avoids N=T∧K (σ.set d v)
 | none=>match τ.made o with
  | some m=>(match m with | .box _ cs=>cs.all (·.avoids N) | _=>T)=T∧(match σ.make m with
   | some σ'=>K σ'
   | none=>False)
  | none=>False
theorem SU{K:St→Prop}(hc:o.isCall=F):Gf P N o K σ=Rj (σ.less N) σ N o K:=by
 cases o<;>first
  | rfl
  | (simp[AOp.isCall] at hc; done)
theorem A1r(hc:o.isCall=F)(hg:o.gentle=T):σ.step o=(match σ.pure o with
  | some (d,v)=>E (σ.set d v)
  | none=>match σ.made o with
   | some m=>σ.make m
   | none=>G):=by
 cases o<;>first
  | rfl
  | (simp[AOp.isCall] at hc; done)
  | (simp[AOp.gentle] at hg; done)
theorem jR{K:St→Prop}(hg:o.gentle=T)(hc:o.isCall=F):Gf P [] o K σ=AR P o K σ:=by
 cases hc:o.isCall with
 | true=>simp_all
 | false=>
  rw[SU hc,Wk (by rintro _ _ _ rfl; simp[AOp.isCall] at hc) (by rintro _ _ _ rfl; simp[AOp.isCall] at hc),A1r hc hg];unfold Rj;show(match σ.pure o with | some (d,v)=>v.avoids []=T∧K (σ.set d v) | none=>_)=_
  cases hp:σ.pure o with
  | some p=>
   have hav:p.2.avoids []=T:=Wd fun c=>rfl
   simp only[Cl,hav,true_and]
  | none=>
   show(match σ.made o with | some m=>_ | none=>False)=_
   cases hm:σ.made o with
   | none=>rfl
   | some m=>
    cases m with
    | box d cs=>
     have hav:cs.all (·.avoids [])=T:=Wd fun c=>rfl
     show(cs.all (·.avoids [])=T∧(match σ.make (.box d cs) with | some σ'=>K σ' | none=>False))=Cl (σ.make (.box d cs)) K
     rw[hav];cases σ.make (.box d cs)<;>simp[Cl]
    | row d sz es=>
     show(T=T∧(match σ.make (.row d sz es) with | some σ'=>K σ' | none=>False))=Cl (σ.make (.row d sz es)) K
     cases σ.make (.row d sz es)<;>simp[Cl]
theorem Bk{its:L B0}(hg:o.gentle=T)(hc:o.isCall=F):go P (.dops ((E [],G,o)::its)::k) Q .normal (E σ)=go P (.ops [(G,o)]:: .dops its::k) Q .normal (E σ):=
 jR hg hc
def By(σ:St)(N:L V):O V→O St→O St
 | some d,E τ=>bif (τ.get d).avoids N then E (σ.set d (τ.get d)) else G
 | _,_=>G
theorem BC{its:L B0}(hp:o.isPure=T):go P (.dops ((E N,G,o)::its)::k) Q .normal (E σ)=go P (.dops its::k) Q .normal (By σ N o.dst ((σ.less N).step o)):=by
 have hc:o.isCall=F:=by cases o<;>first | rfl | (simp[AOp.isPure] at hp; done)
 show Gf P N o _ σ=_
 rw[SU hc,cM hp];unfold Rj;cases h:(σ.less N).pure o with
 | some p=>
  obtain⟨d,v⟩:=p;rw[(UN h).1];show(v.avoids N=T∧_)=go P (.dops its::k) Q .normal (bif (((σ.less N).set d v).get d).avoids N then E (σ.set d (((σ.less N).set d v).get d)) else G)
  rw[St.get_set_same];cases v.avoids N with
  | true=>simp[go,AJ]
  | false=>simp[go]
 | none=>
  have hm:(σ.less N).made o=G:=by cases o<;>first | rfl | (simp[AOp.isPure] at hp; done)
  show(match (σ.less N).made o with | some m=>_ | none=>False)=_
  rw[hm];cases o.dst<;>rfl
def aP(N:L V):Mk→U
 | .box _ cs=>cs.all (·.avoids N)
 | _=>T
theorem rX{its:L B0}{m:Mk}(hm:(σ.less N).made o=E m)(hv:aP N m=T){σ':St}(hmk:σ.make m=E σ')(h:go P (.dops its::k) Q .normal (E σ')) :
  go P (.dops ((E N,G,o)::its)::k) Q .normal (E σ):=by
 have hc:o.isCall=F:=by cases o<;>first | rfl | (simp[St.made] at hm; done)
 show Gf P N o _ σ
 rw[SU hc];unfold Rj;rw[aE hm];simp only[hm,hmk];cases m with
 | box d cs=>exact⟨hv,h⟩
 | row d sz es=>exact⟨rfl,h⟩
theorem Rl{its:L B0}{d f args}{xs:L DV}{rs:L R1}(hf:FC P f xs rs)(h1:(σ.less N).toDVs args=E xs)(h2:CO rs)(h3:σ.fresh d=T)(h4:(rs.flatMap R1.cells).length≤64)(h5:go P (.dops its::k) Q .normal (E (σ.inst d rs))) :
  go P (.dops ((E N,G,.call d f args)::its)::k) Q .normal (E σ):=⟨xs,rs,.inl ⟨h1,.inl h2⟩,hf,h3,h4,h5⟩
theorem rW{its:L B0}{d x args f caps}{xs:L DV}{rs:L R1}(hf:FC P f (xs++caps.map .sc) rs)(h0:B4 P f=T)(hx:(σ.less N).toDV ((σ.less N).val x)=E (.sc (.clo f caps)))(h1:(σ.less N).toDVs args=E xs)(h2:CO rs)(h3:σ.fresh d=T)(h4:(rs.flatMap R1.cells).length≤64)
  (h5:go P (.dops its::k) Q .normal (E (σ.inst d rs))):go P (.dops ((E N,G,.callv d x args)::its)::k) Q .normal (E σ):=⟨f,caps,xs,rs,.inl ⟨hx,h1,h2⟩,h0,hf,h3,h4,h5⟩
theorem rV{its:L B0}{d f args}{xs:L DV}{rs:L R1}(hf:FC P f xs rs)(h1:(σ.less N).toIVs args=E xs)(h3:σ.fresh d=T)(h4:(rs.flatMap R1.cells).length≤64)(h5:go P (.dops its::k) Q .normal (E (σ.inst d rs))) :
  go P (.dops ((E N,G,.call d f args)::its)::k) Q .normal (E σ):=⟨xs,rs,.inr h1,hf,h3,h4,h5⟩
end
end Go.Vi
