/-
The value level. No condition.
-/
import Derived.Test.YtdgododldkbndaaGreatFVi25
namespace Go.Vi
set_option linter.all false
open Bool renaming and_eq_true → W, true → T, false → F
open Option renaming some → E, none → G
open _root_ renaming List → L, Option → O, Bool → U, Nat → V
inductive Fr where
 | code (c:Xh)
 | ops (its:L AItem)
 | dops (its:L B0)
 | blk (id:V)
 | pick (v:AV) (x y:Xh)
 | gd (v:AV) (want:U) (o:AOp) (its:L AItem)
 | gdd (v:AV) (want:U) (N:O (L V)) (o:AOp) (its:L B0)
 | fr (b:U)
 | frs (its:L B0)
 | panF (x:Opd)
 | calF (d:V) (f:FuncId) (args:L Opd)
def Ch{α:Type}(o:O α)(f:α→Prop):Prop:=
 match o with
 | some a=>f a
 | none=>False
def BI(v:AV)(X Y Z:Prop):Prop:=
 match v with
 | .v (.sc (.dat (.bool b)))=>if b=T then X else Y
 | .no=>Z
 | _=>False
def AB(σ:St)(d:V):O AV→O St
 | some v=>E (σ.set d v)
 | none=>G
def CU(σ:St):O V→O St
 | some d=>E (σ.set d .no)
 | none=>G
def mk1(σ:St):O Mk→O St
 | some m=>σ.make m
 | none=>G
def AK(P:Program):L Fr→(Xm→St→Prop)→Xm→St→Prop
 | [],Q,e,σ=>Q e σ
 | .code c::k,Q,.normal,σ=>Bd P c (AK P k Q) σ
 | .ops its::k,Q,.normal,σ=>Be P its (AK P k Q .normal) σ
 | .dops its::k,Q,.normal,σ=>Cp P its (AK P k Q .normal) σ
 | .pick v x y::k,Q,.normal,σ=>BI v (Bd P x (AK P k Q) σ) (Bd P y (AK P k Q) σ) False
 | .gd v want o its::k,Q,.normal,σ=>BI v (bif want then AU P o (Be P its (AK P k Q .normal)) σ else Ch o.dst fun d=>Be P its (AK P k Q .normal) (σ.set d .no))
   (bif want then Ch o.dst fun d=>Be P its (AK P k Q .normal) (σ.set d .no) else AU P o (Be P its (AK P k Q .normal)) σ)
   (Ch o.dst fun d=>Be P its (AK P k Q .normal) (σ.set d .no))
 | .gdd v want N o its::k,Q,.normal,σ=>BI v (bif want then Cp P ((N,G,o)::its) (AK P k Q .normal) σ else Ch o.dst fun d=>Cp P its (AK P k Q .normal) (σ.set d .no))
   (bif want then Ch o.dst fun d=>Cp P its (AK P k Q .normal) (σ.set d .no) else Cp P ((N,G,o)::its) (AK P k Q .normal) σ)
   (Ch o.dst fun d=>Cp P its (AK P k Q .normal) (σ.set d .no))
 | .fr b::k,Q,.normal,σ=>b=T∧AK P k Q .normal σ
 | .frs its::k,Q,.normal,σ=>D5 its σ=T∧Cp P its (AK P k Q .normal) σ
 | .panF x::k,Q,.normal,σ=>∃d,σ.val x= .v (.sc (.dat d))∧d.flat=T∧Sq d=T∧AK P k Q (.pan d) σ
 | .calF d f args::k,Q,.normal,σ=>AU P (.call d f args) (AK P k Q .normal) σ∨∃ds pd,σ.toDVs args=E ds∧Lp P f ds pd∧AK P k Q (.pan pd) σ
 | .blk id::k,Q,.exit i,σ=>if i=id then AK P k Q .normal σ else AK P k Q (.exit i) σ
 | _::k,Q,e,σ=>AK P k Q e σ
def go(P:Program)(k:L Fr)(Q:Xm→St→Prop)(e:Xm):O St→Prop
 | some σ=>AK P k Q e σ
 | none=>False
def AOp.isPure:AOp→U
 | .mv .. | .pick .. | .build .. | .load .. | .nilc .. | .bin .. | .beq .. | .geq .. | .un .. | .conv .. | .slc .. | .sslc .. | .faddr .. | .field .. | .iaddr .. | .aaddr .. | .idx .. | .extr .. | .len .. | .slen .. | .sconv .. | .mm .. | .mkf .. | .zsl _ | .mkif .. | .tass .. =>T
 | _=>F
def AOp.isMade:AOp→U
 | .box .. | .alloc .. | .bslice .. | .mksl .. | .zap .. =>T
 | _=>F
def AOp.isCall:AOp→U
 | .call .. | .callv .. =>T
 | .mv .. | .pick .. | .box .. | .alloc .. | .build .. | .bslice .. | .load .. | .store .. | .clr .. | .nilc .. | .bin .. | .beq .. | .geq .. | .un .. | .conv .. | .mksl .. | .slc .. | .sslc .. | .faddr .. | .field .. | .iaddr .. | .aaddr .. | .idx .. | .extr .. | .len .. | .slen .. | .sconv .. | .app .. | .mm .. | .mkf .. | .zsl _ | .zap .. | .mkif .. | .tass .. =>F
 | .drop _ | .own .. | .ownb .. | .ren .. | .frz _ | .frzb _ | .forget _ | .keep .. | .cut _=>F
section
variable {P : Program} {k : L Fr} {Q : Xm → St → Prop} {σ : St} {its : L AItem} {ds : L B0} {o : AOp} {N : L V}
theorem PY{c:Xh}(h:go P [.code c] Q .normal (E σ)):Bd P c Q σ:=Uq c (fun _ _ h=>h) h
theorem nv{e}:go P k Q e G=False:=rfl
theorem nr{e}:go P [] Q e (E σ)=Q e σ:=rfl
theorem oL:go P (.code .skip::k) Q .normal (E σ)=go P k Q .normal (E σ):=rfl
theorem oF:go P (.code (.reg its)::k) Q .normal (E σ)=go P (.ops its::k) Q .normal (E σ):=rfl
theorem nM:go P (.code (.drw ds)::k) Q .normal (E σ)=go P (.fr (D5 ds σ):: .dops ds::k) Q .normal (E σ):=rfl
theorem nR:go P (.fr T::k) Q .normal (E σ)=go P k Q .normal (E σ):=by simp[go,AK]
theorem oK{x y:Xh}:go P (.code (.seq x y)::k) Q .normal (E σ)=go P (.code x:: .code y::k) Q .normal (E σ):=by
 simp only[go,AK,Bd];congr 1
 funext e σ'
 cases e<;>simp only[AK]
theorem nB{id:V}{c:Xh}:go P (.code (.block id c)::k) Q .normal (E σ)=go P (.code c:: .blk id::k) Q .normal (E σ):=by
 simp only[go,AK,Bd];congr 1
 funext e σ'
 cases e<;>simp only[AK]
theorem nN{id:V}:go P (.code (.exit id)::k) Q .normal (E σ)=go P k Q (.exit id) (E σ):=rfl
theorem oI:go P (.code .ret::k) Q .normal (E σ)=go P k Q .ret (E σ):=rfl
theorem nG{c:Opd}{x y:Xh}:go P (.code (.cond c x y)::k) Q .normal (E σ)=go P (.pick (σ.val c) x y::k) Q .normal (E σ):=by
 show(match σ.val c with | .v (.sc (.dat (.bool b)))=>if b=T then Bd P x (AK P k Q) σ else Bd P y (AK P k Q) σ | _=>False)=BI (σ.val c) _ _ _
 unfold BI;generalize σ.val c=v
 cases v with
 | v x=>cases x with
  | sc c=>cases c with
   | dat d=>cases d<;>rfl
   | _=>rfl
  | ag=>rfl
 | _=>rfl
theorem oE{x y:Xh}:go P (.pick (.v (.sc (.dat (.bool T)))) x y::k) Q .normal (E σ)=go P (.code x::k) Q .normal (E σ):=by simp[go,AK,BI]
theorem oD{x y:Xh}:go P (.pick (.v (.sc (.dat (.bool F)))) x y::k) Q .normal (E σ)=go P (.code y::k) Q .normal (E σ):=by simp[go,AK,BI]
theorem nz{x:Opd}:go P (.code (.pan its x)::k) Q .normal (E σ)=go P (.ops its:: .panF x::k) Q .normal (E σ):=rfl
theorem nE{d f args}:go P (.code (.cal its d f args)::k) Q .normal (E σ)=go P (.ops its:: .calF d f args::k) Q .normal (E σ):=rfl
theorem KR{d f args}(H:go P (.ops [(G,.call d f args)]::k) Q .normal (E σ)):go P (.calF d f args::k) Q .normal (E σ):= .inl H
theorem oB{c:Xh}{d:D}:go P (.code c::k) Q (.pan d) (E σ)=go P k Q (.pan d) (E σ):=rfl
theorem mz{id:V}{d:D}:go P (.blk id::k) Q (.pan d) (E σ)=go P k Q (.pan d) (E σ):=rfl
theorem EA{its:L (L V × AItem)}{τ σ2:St}{ks bs rs:L V}(h0:(σ.kept ks bs rs).pad (its.filterMap fun i=>i.2.2.dst)=σ2)(h1:Ae P its τ its.length (its.map fun _=>F) σ2)(h2:go P k Q .normal (E τ)):go P (.code (.any its)::k) Q .normal (E σ):=
 ⟨ks,bs,rs,τ,h0▸h1,h2⟩
def T5(P:Program)(its:L (L V × AItem))(τ:St)(f:V)(ms:L U)(σ:St):L (L V × AItem)→V→Prop
 | [],_=>True
 | it::r,i=>(ms[i]?=E F→(∀j∈it.1,ms[j]?=E T)→∃pre post:L AItem,pre.all (fun i=>i.2.idle)=T∧post.all (fun i=>i.2.idle)=T∧go P [.ops (pre++it.2::post)] (fun _=>Ae P its τ f (ms.set i T)) .normal (E σ))∧T5 P its τ f ms σ r (i+1)
theorem YY{its:L (L V × AItem)}{τ:St}{f:V}{ms:L U}:∀{r:L (L V × AItem)} {n:V},T5 P its τ f ms σ r n→∀(i:V) (it:L V × AItem),r[i]?=E it→ms[n+i]?=E F→(∀j∈it.1,ms[j]?=E T)→∃pre post:L AItem,pre.all (fun i=>i.2.idle)=T∧post.all (fun i=>i.2.idle)=T∧go P [.ops (pre++it.2::post)] (fun _=>Ae P its τ f (ms.set (n+i) T)) .normal (E σ)
 | [],_,_,i,it,hi,_,_=>by simp at hi
 | x::r,n,h,0,it,hi,h1,h2=>by
  simp at hi
  subst hi;exact h.1 h1 h2
 | x::r,n,h,i+1,it,hi,h1,h2=>by
  have:=YY h.2 i it (by simpa using hi) (by rw[show n+1+i=n+(i+1) by omega]; exact h1) h2;rw[show n+1+i=n+(i+1) by omega] at this
  exact this
theorem Ul{it:AItem}{post:L AItem}{K:St→Prop}:∀(pre:L AItem) (σ:St),pre.all (fun i=>i.2.idle)=T→Be P (pre++it::post) K σ→Be P pre (fun σ=>AP it.1 σ (AU P it.2 (Be P post K) σ) (match it.2.dst with | some d=>Be P post K (σ.set d .no) | none=>False)) σ
 | [],_,_,h=>h
 | (g,o)::pre,σ,hp,h=>by
  have hi:o.idle=T:=by simp only[List.all_cons,W] at hp; exact hp.1
  have hp':pre.all (fun i=>i.2.idle)=T:=by simp only[List.all_cons,W] at hp; exact hp.2
  have h':AP g σ (AU P o (Be P (pre++it::post) K) σ) (match o.dst with | some d=>Be P (pre++it::post) K (σ.set d .no) | none=>False):=h;show AP g σ (AU P o (Be P pre _) σ) _
  have hno:o.dst=G:=by cases o<;>first | rfl | (simp[AOp.idle] at hi; done)
  simp only[hno] at h' ⊢
  have key:∀X Y:St→Prop,(∀σ,X σ→Y σ)→AU P o X σ→AU P o Y σ:=fun X Y hXY hx=>by
   cases o<;>first
    | (simp[AOp.idle] at hi; done)
    | (simp only[AU] at hx ⊢; split at hx<;>simp_all)
  have mono:∀{X Y:Prop},(X→Y)→AP g σ X False→AP g σ Y False:=fun hXY hx=>by
   unfold AP at hx ⊢
   cases g with
   | none=>exact hXY hx
   | some g=>
    simp only at hx ⊢
    split
    ·rename_i b hb
     rw[hb] at hx
     simp only at hx
     split at hx
     ·rename_i e
      rw[if_pos e];exact hXY hx
     ·exact hx.elim
    ·rename_i hb
     rw[hb] at hx
     exact hx
    ·rename_i h1 h2
     split at hx
     ·rename_i b hb
      exact h1 b hb
     ·rename_i hb
      exact h2 hb
     ·exact hx
  exact mono (key _ _ fun σ h=>Ul pre σ hp' h) h'
theorem Aj{its:L (L V × AItem)}{τ:St}{f:V}{ms:L U}(h:T5 P its τ f ms σ its 0):Ae P its τ (f+1) ms σ:=by
 intro i it hi h1 h2;obtain⟨pre,post,hp,hq,this⟩:=YY h i it hi (by simpa using h1) h2;rw[Nat.zero_add] at this
 exact⟨pre,post,hp,hq,Ul pre _ hp this⟩
theorem np{it:AItem}{Q:Xm→St→Prop}(h:go P [.ops [it]] Q .normal (E σ)):∃pre post:L AItem,pre.all (fun i=>i.2.idle)=T∧post.all (fun i=>i.2.idle)=T∧go P [.ops (pre++it::post)] Q .normal (E σ):=⟨[],[],rfl,rfl,h⟩
theorem A6{α:Type}{a b:α}:(bif T then a else b)=a:=rfl
theorem A7{α:Type}{a b:α}:(bif F then a else b)=b:=rfl
theorem hq{ms:L U}{N:L V}{a:U}(hw:∀j∈N,ms[j]?=E T)(j:V)(h:N.elem j=T)(e:ms[j]?=E a):a=T:=by
 have:=hw j (List.elem_iff.1 h);rw[e] at this
 exact Option.some.inj this
theorem hz{ms:L U}{i:V}{a:U}(h:ms[i]?=E F)(e:ms[i]?=E a):a=F:=Option.some.inj (e.symm.trans h)
theorem oA{c:Xh}{i:V}:go P (.code c::k) Q (.exit i) (E σ)=go P k Q (.exit i) (E σ):=rfl
theorem oC{c:Xh}:go P (.code c::k) Q .ret (E σ)=go P k Q .ret (E σ):=rfl
theorem mw{id:V}:go P (.blk id::k) Q .normal (E σ)=go P k Q .normal (E σ):=rfl
theorem nA{id:V}:go P (.blk id::k) Q .ret (E σ)=go P k Q .ret (E σ):=rfl
theorem my{id i:V}:go P (.blk id::k) Q (.exit i) (E σ)=go P k Q (bif i==id then .normal else .exit i) (E σ):=by
 by_cases h:i=id
 ·simp[go,AK,h]
 ·have h':(i==id)=F:=by simpa using h
  simp[go,AK,h,h']
theorem nx:go P (.ops []::k) Q .normal (E σ)=go P k Q .normal (E σ):=rfl
theorem nL:go P (.dops []::k) Q .normal (E σ)=go P k Q .normal (E σ):=rfl
theorem Uk{K:St→Prop}(h1:∀d f args,o≠ .call d f args)(h2:∀d x args,o≠ .callv d x args):AU P o K σ=Ch (σ.step o) K:=by
 cases o<;>first
  | rfl
  | (show(match St.step σ _ with | some σ'=>K σ' | none=>False)=Ch (St.step σ _) K; generalize St.step σ _=x; cases x<;>rfl)
  | exact absurd rfl (h1 _ _ _)
  | exact absurd rfl (h2 _ _ _)
theorem Zh(h:o.isPure=T):σ.step o=(σ.pure o).map fun p=>σ.set p.1 p.2:=by
 cases o<;>first
  | (simp[AOp.isPure] at h; done)
  | skip
 all_goals
  simp only[St.step,St.made];generalize σ.pure _=x
  cases x<;>rfl
theorem vU(h:o.isMade=T):σ.step o=(σ.made o).bind σ.make:=by
 cases o<;>first
  | (simp[AOp.isMade] at h; done)
  | skip
 all_goals
  simp only[St.step,St.pure];generalize σ.made _=x
  cases x<;>rfl
theorem B8(h:o.isCall=F):go P (.ops ((G,o)::its)::k) Q .normal (E σ)=go P (.ops its::k) Q .normal (σ.step o):=by
 show AU P o (Be P its (AK P k Q .normal)) σ=_
 rw[Uk (by rintro _ _ _ rfl; simp[AOp.isCall] at h) (by rintro _ _ _ rfl; simp[AOp.isCall] at h)];cases σ.step o<;>rfl
def Qy:L V→U
 | []=>T
 | x::r=> !r.contains x&&Qy r
theorem Ya:∀{l:L V},Qy l=T→l.Nodup
 | [],_=>List.nodup_nil
 | x::r,h=>by
  simp only[Qy,W,Bool.not_eq_true',List.contains_eq_mem,decide_eq_false_iff_not] at h;exact List.nodup_cons.2 ⟨h.1,Ya h.2⟩
theorem Cf{d f args}{xs:L DV}{rs:L R1}(hf:FC P f xs rs)(h1:σ.toDVs args=E xs)(h2:CM rs)(h3:σ.fresh d=T)(h4:(rs.flatMap R1.cells).length≤64)(h5:go P (.ops its::k) Q .normal (E (σ.inst d rs))) :
  go P (.ops ((G,.call d f args)::its)::k) Q .normal (E σ):= .inl ⟨xs,rs,.inl ⟨h1,.inl h2⟩,hf,h3,h4,h5⟩
theorem KT{d f args}{xs:L DV}{rs:L R1}(hf:FC P f xs rs)(h1:σ.toIVs args=E xs)(h3:σ.fresh d=T)(h4:(rs.flatMap R1.cells).length≤64)(h5:go P (.ops its::k) Q .normal (E (σ.inst d rs))) :
  go P (.ops ((G,.call d f args)::its)::k) Q .normal (E σ):= .inl ⟨xs,rs,.inr h1,hf,h3,h4,h5⟩
theorem Dl{d f args}{ids:L V}{xs:L XV}{R0 R1:Ap}{r:D}(hf:Cv P f xs R0 R1 r)(h0:Qy ids=T)(h1:σ.toXVs ids args=E xs)(h2:CE σ.rows ids=E R0)(h3:DG R0)(h4:DO R0 R1=T)(h5:go P (.ops its::k) Q .normal (E (σ.instX d ids R1 r))) :
  go P (.ops ((G,.call d f args)::its)::k) Q .normal (E σ):= .inr (.inl ⟨ids,xs,R0,R1,r,⟨Ya h0,h1,h2,h3,h4⟩,hf,h5⟩)
theorem Vm{d f args}{σ':St}{r:AV}(hf:EW P f (args.map σ.val) σ σ' r)(h5:go P (.ops its::k) Q .normal (E (σ'.set d r))):go P (.ops ((G,.call d f args)::its)::k) Q .normal (E σ):= .inr (.inr ⟨σ',r,hf,h5⟩)
theorem nF{d x args f caps}{xs:L DV}{rs:L R1}(hf:FC P f (xs++caps.map .sc) rs)(h0:BV P f=T)(hx:σ.toDV (σ.val x)=E (.sc (.clo f caps)))(h1:σ.toDVs args=E xs)(h2:CM rs)(h3:σ.fresh d=T)(h4:(rs.flatMap R1.cells).length≤64)
  (h5:go P (.ops its::k) Q .normal (E (σ.inst d rs))):go P (.ops ((G,.callv d x args)::its)::k) Q .normal (E σ):=⟨f,caps,xs,rs,.inl ⟨hx,h1,h2⟩,h0,hf,h3,h4,h5⟩
theorem BG(h:o.isPure=T):σ.step o=(σ.pure o).bind fun p=>AB σ p.1 (E p.2):=by
 rw[Zh h];cases σ.pure o<;>rfl
theorem BX{d:V}{x:O AV}:((x.map (Prod.mk d)).bind fun p=>AB σ p.1 (E p.2))=AB σ d x:=by cases x<;>rfl
theorem Ze{d x}:σ.step (.mv d x)=E (σ.set d (σ.val x)):=rfl
theorem Zg{d c a b}:σ.step (.pick d c a b)=AB σ d (Le (σ.val c) (σ.val a) (σ.val b)):=(BG rfl).trans BX
theorem Z1{d zs ps}:σ.step (.build d zs ps)=AB σ d ((Dk zs (ps.map fun p=>(p.1,p.2.1,σ.val p.2.2))).map fun cs=> .v (.ag cs)):=by
 rw[BG rfl];simp only[St.pure];cases Dk zs (ps.map fun p=>(p.1,p.2.1,σ.val p.2.2))<;>rfl
theorem Za{d x g n}:σ.step (.load d x g n)=AB σ d (CQ σ g n (σ.val x)):=(BG rfl).trans BX
theorem Zf{d x}:σ.step (.nilc d x)=AB σ d (FU (σ.val x)):=(BG rfl).trans BX
theorem Z0{d op x y}:σ.step (.bin d op x y)=AB σ d (CJ op (σ.val x) (σ.val y)):=(BG rfl).trans BX
theorem Z6{d g ks x y}:σ.step (.geq d g ks x y)=AB σ d (KQ g ks (σ.val x) (σ.val y)):=(BG rfl).trans BX
theorem YZ{d g x y}:σ.step (.beq d g x y)=AB σ d (JB g (σ.val x) (σ.val y)):=(BG rfl).trans BX
theorem Zn{d op x}:σ.step (.un d op x)=AB σ d (Jp op (σ.val x)):=(BG rfl).trans BX
def Rx(k:IntKind):AV→O AV
 | .v (.sc (.dat (.int _ n)))=>E (.v (.sc (.dat (.int k (k.wrap n)))))
 | _=>G
theorem Z2{d kd x}:σ.step (.conv d kd x)=AB σ d (Rx kd (σ.val x)):=by
 rw[BG rfl];simp only[St.pure];generalize σ.val x=v
 cases v with
 | v x=>cases x with
  | sc c=>cases c with
   | dat d=>cases d<;>rfl
   | _=>rfl
  | ag=>rfl
 | _=>rfl
theorem Zj{d sz x lo hi mx}:σ.step (.slc d sz x lo hi mx)=AB σ d (Eg σ sz (σ.val x) lo hi mx):=(BG rfl).trans BX
theorem Zl{d x lo hi}:σ.step (.sslc d x lo hi)=AB σ d (H6 σ (σ.val x) lo hi):=(BG rfl).trans BX
theorem Z4{d x off}:σ.step (.faddr d x off)=AB σ d (CA σ.rows off (σ.val x)):=(BG rfl).trans BX
theorem Z5{d x off g n}:σ.step (.field d x off g n)=AB σ d (GO off g n (σ.val x)):=(BG rfl).trans BX
theorem Z7{d x i sz}:σ.step (.iaddr d x i sz)=AB σ d (D6 σ.rows sz (σ.val x) (σ.val i)):=(BG rfl).trans BX
theorem Z8{d x i}:σ.step (.idx d x i)=AB σ d (KU (σ.val x) (σ.val i)):=(BG rfl).trans BX
theorem Zc{d t x}:σ.step (.mkif d t x)=AB σ d (GZ t (σ.val x)):=(BG rfl).trans BX
theorem Zm{d x t zc}:σ.step (.tass d x t zc)=AB σ d (Li t zc (σ.val x)):=(BG rfl).trans BX
theorem Z3{d x i}:σ.step (.extr d x i)=AB σ d (JO i (σ.val x)):=(BG rfl).trans BX
theorem Z9{d x}:σ.step (.len d x)=AB σ d (E9 σ.rows (σ.val x)):=(BG rfl).trans BX
theorem Zi{d x}:σ.step (.sconv d x)=AB σ d (H5 σ.rows (σ.val x)):=(BG rfl).trans BX
theorem Zk{d x}:σ.step (.slen d x)=AB σ d (Lf (σ.val x)):=(BG rfl).trans BX
theorem Zd{d m x y}:σ.step (.mm d m x y)=AB σ d (J5 m (σ.val x) (σ.val y)):=(BG rfl).trans BX
theorem Zb{d f caps}:σ.step (.mkf d f caps)=AB σ d ((FR f (caps.map σ.val)).map fun c=> .v (.sc c)):=by
 rw[BG rfl];simp only[St.pure];cases FR f (caps.map σ.val)<;>rfl
theorem vV(h:o.isMade=T):σ.step o=mk1 σ (σ.made o):=by
 rw[vU h];cases σ.made o<;>rfl
theorem vX{x y n}:σ.step (.store x y n)=σ.storeV n (σ.val x) (σ.val y):=rfl
theorem vS{d sz b x y}:σ.step (.app d sz b x y)=σ.appV d sz b (σ.val x) (σ.val y):=rfl
theorem Yt{d v}:AB σ d (E v)=E (σ.set d v):=rfl
theorem Uc{t:V}{yes no:Prop}:AP (E (t,T)) σ yes no=BI (σ.get t) yes no no:=by
 simp only[AP,BI];generalize σ.get t=v
 cases v with
 | v x=>cases x with
  | sc c=>cases c with
   | dat d=>cases d<;>rfl
   | _=>rfl
  | ag=>rfl
 | _=>rfl
theorem Ub{t:V}{yes no:Prop}:AP (E (t,F)) σ yes no=BI (σ.get t) no yes no:=by
 simp only[AP,BI];generalize σ.get t=v
 cases v with
 | v x=>cases x with
  | sc c=>cases c with
   | dat d=>cases d with
    | bool b=>cases b<;>simp
    | _=>rfl
   | _=>rfl
  | ag=>rfl
 | _=>rfl
theorem nc{t}:go P (.ops ((E (t,T),o)::its)::k) Q .normal (E σ)=go P (.gd (σ.get t) T o its::k) Q .normal (E σ):=by
 show AP (E (t,T)) σ _ _=_
 rw[Uc];show _=BI _ _ _ _
 simp only[cond_true];congr 1<;>(cases o.dst<;>rfl)
theorem nb{t}:go P (.ops ((E (t,F),o)::its)::k) Q .normal (E σ)=go P (.gd (σ.get t) F o its::k) Q .normal (E σ):=by
 show AP (E (t,F)) σ _ _=_
 rw[Ub];show _=BI _ _ _ _
 simp only[cond_false];congr 1<;>(cases o.dst<;>rfl)
theorem nZ{b:U}:go P (.gd (.v (.sc (.dat (.bool b)))) b o its::k) Q .normal (E σ)=go P (.ops ((G,o)::its)::k) Q .normal (E σ):=by
 cases b<;>(simp only[go,AK,BI,cond_true,cond_false]; simp[Be,AP])
theorem nY:go P (.gd (.v (.sc (.dat (.bool F)))) T o its::k) Q .normal (E σ)=go P (.ops its::k) Q .normal (CU σ o.dst):=by
 simp only[go,AK,BI,cond_true];cases o.dst<;>simp[Ch,CU]
theorem nX:go P (.gd (.v (.sc (.dat (.bool T)))) F o its::k) Q .normal (E σ)=go P (.ops its::k) Q .normal (CU σ o.dst):=by
 simp only[go,AK,BI,cond_false];cases o.dst<;>simp[Ch,CU]
theorem nq{d x}:go P (.ops ((G,.mv d x)::its)::k) Q .normal (E σ)=go P (.ops its::k) Q .normal (E (σ.set d (σ.val x))):=by
 rw[B8 rfl,Ze]
theorem nw{d c a b}:go P (.ops ((G,.pick d c a b)::its)::k) Q .normal (E σ)=go P (.ops its::k) Q .normal (AB σ d (Le (σ.val c) (σ.val a) (σ.val b))):=by
 rw[B8 rfl,Zg]
theorem nC{d zs ps}:go P (.ops ((G,.build d zs ps)::its)::k) Q .normal (E σ)=go P (.ops its::k) Q .normal (AB σ d ((Dk zs (ps.map fun p=>(p.1,p.2.1,σ.val p.2.2))).map fun cs=> .v (.ag cs))):=by
 rw[B8 rfl,Z1]
theorem ni{d x g n}:go P (.ops ((G,.load d x g n)::its)::k) Q .normal (E σ)=go P (.ops its::k) Q .normal (AB σ d (CQ σ g n (σ.val x))):=by
 rw[B8 rfl,Za]
theorem nu{d x}:go P (.ops ((G,.nilc d x)::its)::k) Q .normal (E σ)=go P (.ops its::k) Q .normal (AB σ d (FU (σ.val x))):=by
 rw[B8 rfl,Zf]
theorem mr{d op x y}:go P (.ops ((G,.bin d op x y)::its)::k) Q .normal (E σ)=go P (.ops its::k) Q .normal (AB σ d (CJ op (σ.val x) (σ.val y))):=by
 rw[B8 rfl,Z0]
theorem na{d g ks x y}:go P (.ops ((G,.geq d g ks x y)::its)::k) Q .normal (E σ)=go P (.ops its::k) Q .normal (AB σ d (KQ g ks (σ.val x) (σ.val y))):=by
 rw[B8 rfl,Z6]
theorem mq{d g x y}:go P (.ops ((G,.beq d g x y)::its)::k) Q .normal (E σ)=go P (.ops its::k) Q .normal (AB σ d (JB g (σ.val x) (σ.val y))):=by
 rw[B8 rfl,YZ]
theorem oR{d op x}:go P (.ops ((G,.un d op x)::its)::k) Q .normal (E σ)=go P (.ops its::k) Q .normal (AB σ d (Jp op (σ.val x))):=by
 rw[B8 rfl,Zn]
theorem nH{d kd x}:go P (.ops ((G,.conv d kd x)::its)::k) Q .normal (E σ)=go P (.ops its::k) Q .normal (AB σ d (Rx kd (σ.val x))):=by
 rw[B8 rfl,Z2]
theorem oM{d sz x lo hi mx}:go P (.ops ((G,.slc d sz x lo hi mx)::its)::k) Q .normal (E σ)=go P (.ops its::k) Q .normal (AB σ d (Eg σ sz (σ.val x) lo hi mx)):=by
 rw[B8 rfl,Zj]
theorem oO{d x lo hi}:go P (.ops ((G,.sslc d x lo hi)::its)::k) Q .normal (E σ)=go P (.ops its::k) Q .normal (AB σ d (H6 σ (σ.val x) lo hi)):=by
 rw[B8 rfl,Zl]
theorem nP{d x off}:go P (.ops ((G,.faddr d x off)::its)::k) Q .normal (E σ)=go P (.ops its::k) Q .normal (AB σ d (CA σ.rows off (σ.val x))):=by
 rw[B8 rfl,Z4]
theorem nQ{d x off g n}:go P (.ops ((G,.field d x off g n)::its)::k) Q .normal (E σ)=go P (.ops its::k) Q .normal (AB σ d (GO off g n (σ.val x))):=by
 rw[B8 rfl,Z5]
theorem nd{d x i sz}:go P (.ops ((G,.iaddr d x i sz)::its)::k) Q .normal (E σ)=go P (.ops its::k) Q .normal (AB σ d (D6 σ.rows sz (σ.val x) (σ.val i))):=by
 rw[B8 rfl,Z7]
theorem mg{d x i len sz}:go P (.ops ((G,.aaddr d x i len sz)::its)::k) Q .normal (E σ)=go P (.ops its::k) Q .normal (AB σ d (Ls len sz (σ.val x) (σ.val i))):=by
 rw[B8 rfl,(BG (o:= .aaddr d x i len sz) rfl).trans BX]
theorem nf{d x i}:go P (.ops ((G,.idx d x i)::its)::k) Q .normal (E σ)=go P (.ops its::k) Q .normal (AB σ d (KU (σ.val x) (σ.val i))):=by
 rw[B8 rfl,Z8]
theorem nk{d t x}:go P (.ops ((G,.mkif d t x)::its)::k) Q .normal (E σ)=go P (.ops its::k) Q .normal (AB σ d (GZ t (σ.val x))):=by
 rw[B8 rfl,Zc]
theorem oQ{d x t zc}:go P (.ops ((G,.tass d x t zc)::its)::k) Q .normal (E σ)=go P (.ops its::k) Q .normal (AB σ d (Li t zc (σ.val x))):=by
 rw[B8 rfl,Zm]
theorem nO{d x i}:go P (.ops ((G,.extr d x i)::its)::k) Q .normal (E σ)=go P (.ops its::k) Q .normal (AB σ d (JO i (σ.val x))):=by
 rw[B8 rfl,Z3]
theorem nh{d x}:go P (.ops ((G,.len d x)::its)::k) Q .normal (E σ)=go P (.ops its::k) Q .normal (AB σ d (E9 σ.rows (σ.val x))):=by
 rw[B8 rfl,Z9]
theorem oJ{d x}:go P (.ops ((G,.sconv d x)::its)::k) Q .normal (E σ)=go P (.ops its::k) Q .normal (AB σ d (H5 σ.rows (σ.val x))):=by
 rw[B8 rfl,Zi]
theorem oN{d x}:go P (.ops ((G,.slen d x)::its)::k) Q .normal (E σ)=go P (.ops its::k) Q .normal (AB σ d (Lf (σ.val x))):=by
 rw[B8 rfl,Zk]
theorem nl{d m x y}:go P (.ops ((G,.mm d m x y)::its)::k) Q .normal (E σ)=go P (.ops its::k) Q .normal (AB σ d (J5 m (σ.val x) (σ.val y))):=by
 rw[B8 rfl,Zd]
theorem nj{d f caps}:go P (.ops ((G,.mkf d f caps)::its)::k) Q .normal (E σ)=go P (.ops its::k) Q .normal (AB σ d ((FR f (caps.map σ.val)).map fun c=> .v (.sc c))):=by
 rw[B8 rfl,Zb]
theorem oP{x y n}:go P (.ops ((G,.store x y n)::its)::k) Q .normal (E σ)=go P (.ops its::k) Q .normal (σ.storeV n (σ.val x) (σ.val y)):=by
 rw[B8 rfl,vX]
theorem mn{d sz b x y}:go P (.ops ((G,.app d sz b x y)::its)::k) Q .normal (E σ)=go P (.ops its::k) Q .normal (σ.appV d sz b (σ.val x) (σ.val y)):=by
 rw[B8 rfl,vS]
theorem ny{d j id sz}:go P (.ops ((G,.ownb d j id sz)::its)::k) Q .normal (E σ)=go P (.ops its::k) Q .normal (σ.step (.ownb d j id sz)):=B8 rfl
theorem oG{a b}:go P (.ops ((G,.ren a b)::its)::k) Q .normal (E σ)=go P (.ops its::k) Q .normal (σ.step (.ren a b)):=B8 rfl
theorem nU{id}:go P (.ops ((G,.frz id)::its)::k) Q .normal (E σ)=go P (.ops its::k) Q .normal (σ.step (.frz id)):=B8 rfl
theorem nT{its:L B0}:go P (.frs its::k) Q .normal (E σ)=go P (.fr (D5 its σ):: .dops its::k) Q .normal (E σ):=rfl
theorem nS{b:U}(hb:b=T)(h:go P k Q .normal (E σ)):go P (.fr b::k) Q .normal (E σ):=⟨hb,h⟩
theorem mp{its:L B0}:go P (.dops ((G,G,o)::its)::k) Q .normal (E σ)=go P (.ops [(G,o)]:: .frs its::k) Q .normal (E σ):=rfl
theorem Ue{α:Type}{l:L α}{f:α→U}(h:∀x,f x=T):l.all f=T:=List.all_eq_true.2 fun x _=>h x
def PW(τ σ:St)(N:L V)(o:AOp)(K:St→Prop):Prop:=
 match τ.pure o with
 | some (d,v)=>v.avoids N=T∧K (σ.set d v)
 | none=>match τ.made o with
  | some m=>(match m with | .box _ cs=>cs.all (·.avoids N) | _=>T)=T∧(match σ.make m with
   | some σ'=>K σ'
   | none=>False)
  | none=>False
theorem Ra{K:St→Prop}(hc:o.isCall=F):G6 P N o K σ=PW (σ.less N) σ N o K:=by
 cases o<;>first
  | rfl
  | (simp[AOp.isCall] at hc; done)
theorem vT(hc:o.isCall=F)(hg:o.gentle=T):σ.step o=(match σ.pure o with
  | some (d,v)=>E (σ.set d v)
  | none=>match σ.made o with
   | some m=>σ.make m
   | none=>G):=by
 cases o<;>first
  | rfl
  | (simp[AOp.isCall] at hc; done)
  | (simp[AOp.gentle] at hg; done)
theorem eW{K:St→Prop}(hg:o.gentle=T)(hc:o.isCall=F):G6 P [] o K σ=AU P o K σ:=by
 cases hc:o.isCall with
 | true=>simp_all
 | false=>
  rw[Ra hc,Uk (by rintro _ _ _ rfl; simp[AOp.isCall] at hc) (by rintro _ _ _ rfl; simp[AOp.isCall] at hc),vT hc hg];unfold PW;show(match σ.pure o with | some (d,v)=>v.avoids []=T∧K (σ.set d v) | none=>_)=_
  cases hp:σ.pure o with
  | some p=>
   have hav:p.2.avoids []=T:=Ue fun c=>rfl
   simp only[Ch,hav,true_and]
  | none=>
   show(match σ.made o with | some m=>_ | none=>False)=_
   cases hm:σ.made o with
   | none=>rfl
   | some m=>
    cases m with
    | box d cs=>
     have hav:cs.all (·.avoids [])=T:=Ue fun c=>rfl
     show(cs.all (·.avoids [])=T∧(match σ.make (.box d cs) with | some σ'=>K σ' | none=>False))=Ch (σ.make (.box d cs)) K
     rw[hav];cases σ.make (.box d cs)<;>simp[Ch]
    | row d sz es=>
     show(T=T∧(match σ.make (.row d sz es) with | some σ'=>K σ' | none=>False))=Ch (σ.make (.row d sz es)) K
     cases σ.make (.row d sz es)<;>simp[Ch]
theorem Bi{its:L B0}(hg:o.gentle=T)(hc:o.isCall=F):go P (.dops ((E [],G,o)::its)::k) Q .normal (E σ)=go P (.ops [(G,o)]:: .dops its::k) Q .normal (E σ):=
 eW hg hc
def Bs(σ:St)(N:L V):O V→O St→O St
 | some d,E τ=>bif (τ.get d).avoids N then E (σ.set d (τ.get d)) else G
 | _,_=>G
theorem Bw{its:L B0}(hp:o.isPure=T):go P (.dops ((E N,G,o)::its)::k) Q .normal (E σ)=go P (.dops its::k) Q .normal (Bs σ N o.dst ((σ.less N).step o)):=by
 have hc:o.isCall=F:=by cases o<;>first | rfl | (simp[AOp.isPure] at hp; done)
 show G6 P N o _ σ=_
 rw[Ra hc,Zh hp];unfold PW;cases h:(σ.less N).pure o with
 | some p=>
  obtain⟨d,v⟩:=p;rw[(SX h).1];show(v.avoids N=T∧_)=go P (.dops its::k) Q .normal (bif (((σ.less N).set d v).get d).avoids N then E (σ.set d (((σ.less N).set d v).get d)) else G)
  rw[St.get_set_same];cases v.avoids N with
  | true=>simp[go,AK]
  | false=>simp[go]
 | none=>
  have hm:(σ.less N).made o=G:=by cases o<;>first | rfl | (simp[AOp.isPure] at hp; done)
  show(match (σ.less N).made o with | some m=>_ | none=>False)=_
  rw[hm];cases o.dst<;>rfl
def Y0(N:L V):Mk→U
 | .box _ cs=>cs.all (·.avoids N)
 | _=>T
theorem nK{its:L B0}{m:Mk}(hm:(σ.less N).made o=E m)(hv:Y0 N m=T){σ':St}(hmk:σ.make m=E σ')(h:go P (.dops its::k) Q .normal (E σ')) :
  go P (.dops ((E N,G,o)::its)::k) Q .normal (E σ):=by
 have hc:o.isCall=F:=by cases o<;>first | rfl | (simp[St.made] at hm; done)
 show G6 P N o _ σ
 rw[Ra hc];unfold PW;rw[XR hm];simp only[hm,hmk];cases m with
 | box d cs=>exact⟨hv,h⟩
 | row d sz es=>exact⟨rfl,h⟩
theorem GQ{its:L B0}{d f args}{xs:L DV}{rs:L R1}(hf:FC P f xs rs)(h1:(σ.less N).toDVs args=E xs)(h2:CM rs)(h3:σ.fresh d=T)(h4:(rs.flatMap R1.cells).length≤64)(h5:go P (.dops its::k) Q .normal (E (σ.inst d rs))) :
  go P (.dops ((E N,G,.call d f args)::its)::k) Q .normal (E σ):=⟨xs,rs,.inl ⟨h1,.inl h2⟩,hf,h3,h4,h5⟩
theorem nJ{its:L B0}{d x args f caps}{xs:L DV}{rs:L R1}(hf:FC P f (xs++caps.map .sc) rs)(h0:BV P f=T)(hx:(σ.less N).toDV ((σ.less N).val x)=E (.sc (.clo f caps)))(h1:(σ.less N).toDVs args=E xs)(h2:CM rs)(h3:σ.fresh d=T)(h4:(rs.flatMap R1.cells).length≤64)
  (h5:go P (.dops its::k) Q .normal (E (σ.inst d rs))):go P (.dops ((E N,G,.callv d x args)::its)::k) Q .normal (E σ):=⟨f,caps,xs,rs,.inl ⟨hx,h1,h2⟩,h0,hf,h3,h4,h5⟩
theorem nI{its:L B0}{d f args}{xs:L DV}{rs:L R1}(hf:FC P f xs rs)(h1:(σ.less N).toIVs args=E xs)(h3:σ.fresh d=T)(h4:(rs.flatMap R1.cells).length≤64)(h5:go P (.dops its::k) Q .normal (E (σ.inst d rs))) :
  go P (.dops ((E N,G,.call d f args)::its)::k) Q .normal (E σ):=⟨xs,rs,.inr h1,hf,h3,h4,h5⟩
end
end Go.Vi
