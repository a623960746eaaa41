/-
The value level. No condition.
-/
import Derived.Test.YtpigjggbnclpbaaGreatOVi7
namespace Go.Vi
set_option linter.all false
open Option renaming map_eq_some_iff → E, some → T
open Prod.mk renaming injEq → G
open Option.some renaming injEq → L
open _root_ renaming rfl → F
section
variable {P : Program} {A : Ar} {B : Nat} {w0 : Base} {nm : Ad} {σ : St} {a : Act} {w : World}
theorem ND(R:Rel A B w0 nm σ a.tmps w):∀{xs:List Operand} {ys:List Opd},BG xs=T ys→
  ys.length=xs.length∧∀(i:Nat) (u:AV) (v:Value),(ys.map σ.val)[i]?=T u→(xs.map a.eval)[i]?=T v→VRel (cx A nm σ w) u v
 | [],ys,hy=>by simp[BG] at hy; subst hy; exact⟨rfl,fun i u v hu=>by simp at hu⟩
 | x::xs,ys,hy=>by
  simp only[BG] at hy
  split at hy
  ·rename_i y ys' h1 h2
   cases hy;obtain⟨hl,H⟩:=ND R h2;refine⟨by simp[hl],fun i u v hu hv=> ?_⟩;cases i with
   | zero=>simp at hu hv; subst hu hv; exact Al R h1
   | succ i=>simp only[List.map_cons,List.getElem?_cons_succ] at hu hv; exact H i u v hu hv
  ·cases hy
theorem U7(R:Rel A B w0 nm σ a.tmps w){places:List (Nat × Nat)}:∀{ps:List (Nat × Operand)} {qs:List (Nat × Nat × Opd)},Lw places ps=T qs→
  PartsRel (cx A nm σ w) (places.toArray[·]?) (qs.map fun p=>(p.1,p.2.1,σ.val p.2.2)) (ps.map fun p=>(p.1,a.eval p.2))
 | [],qs,hq=>by simp[Lw] at hq; subst hq; exact .nil
 | (i,x)::r,qs,hq=>by
  simp only[Lw] at hq
  split at hq
  ·rename_i p y ys h1 h2 h3
   cases hq;exact .cons (by simpa using h1) (Al R h2) (U7 R h3)
  ·cases hq
theorem U6(R:Rel A B w0 nm σ a.tmps w){sz:Nat}:∀{ps:List (Nat × Operand)} {qs:List (Nat × Nat × Opd)},Lv sz ps=T qs→
  PartsRel (cx A nm σ w) (fun i=>T (i*sz,sz)) (qs.map fun p=>(p.1,p.2.1,σ.val p.2.2)) (ps.map fun p=>(p.1,a.eval p.2))
 | [],qs,hq=>by simp[Lv] at hq; subst hq; exact .nil
 | (i,x)::r,qs,hq=>by
  simp only[Lv] at hq
  split at hq
  ·rename_i y ys h2 h3
   cases hq;exact .cons F (Al R h2) (U6 R h3)
  ·cases hq
theorem LS{t:TypeId}{i:TypeInfo}{z:Value}(hz:Hr P t=T (i,z)):P.info? t=T i∧i.zero=T z:=by
 unfold Hr at hz
 split at hz
 ·rename_i i' hi
  simp only[E,G] at hz
  obtain⟨z',h1,rfl,rfl⟩:=hz;exact⟨hi,h1⟩
 ·cases hz
theorem HN{t:TypeId}{i:TypeInfo}{z:Value}(hz:HM P t=T (i,z)):∃e,P.underlying t=T (.slice e)∧P.info? e=T i∧i.zero=T z:=by
 unfold HM at hz
 split at hz
 ·rename_i e hu
  exact⟨e,hu,LS hz⟩
 ·cases hz
theorem YI{X:Cx}{c:AC}{v:Value}{d:D}(H:CRel X c v)(hd:DK c=T d):Rep X.h d v:=by
 cases c with
 | dat d'=>
  simp only[DK,L] at hd
  subst hd;cases H with | dat h=>exact h
 | nil=>
  simp only[DK,L] at hd
  subst hd;cases H;exact .nil
 | _=>simp[DK] at hd
theorem QO{X:Cx}:∀{cs:List AC} {vs:List Value} {ds:List D},CRels X cs vs→Cn cs=T ds→Reps X.h ds vs∧ds.length=cs.length
 | [],vs,ds,_,hd=>by simp[Cn] at hd; subst hd; exact⟨.nil,rfl⟩
 | c::cs,_,ds,.cons a b,hd=>by
  simp only[Cn] at hd
  split at hd
  ·rename_i d ds' h1 h2
   cases hd;obtain⟨h3,h4⟩:=QO b h2;exact⟨.cons (YI a h1) h3,by simp[h4]⟩
  ·cases hd
theorem lY{t:TypeId}{u:TypeDesc}{ax r:AV}{vx:Value}{X:Cx}(hu:P.underlying t=T u)(hn:∀ms,u≠ .interface ms)(hx:VRel X ax vx)(hr:Ft t ax=T r) :
  ∃v,(Instr.makeInterface t vx).run P w= .ok v w∧VRel X r v:=by
 unfold Ft at hr
 split at hr
 ·cases hr;refine⟨.iface t vx,?_,.v (.sc (.dat (.ifc (by cases hx.inv_sc with | dat h=>exact h))))⟩;simp only[Instr.makeInterface,Sem.run_bind,run_underlying hu,Result.andThen_ok];cases u<;>first | rfl | exact absurd rfl (hn _)
 ·cases hr;refine⟨.iface t vx,?_,?_⟩
  ·simp only[Instr.makeInterface,Sem.run_bind,run_underlying hu,Result.andThen_ok];cases u<;>first | rfl | exact absurd rfl (hn _)
  ·have hc:=hx.inv_sc;cases hc with | pb hb=>exact .v (.sc (.ipb hb))
 ·simp only[E] at hr
  obtain⟨ds,hds,rfl⟩:=hr;obtain⟨vs,rfl,hcs⟩:=hx.inv_ag;obtain⟨k1,k2⟩:=QO hcs hds;refine⟨.iface t (.agg vs.toArray),?_,.v (.sc (.dat (.ifs k1 (k2.trans hcs.length))))⟩;simp only[Instr.makeInterface,Sem.run_bind,run_underlying hu,Result.andThen_ok];cases u<;>first | rfl | exact absurd rfl (hn _)
 ·cases hr
theorem pQ{s t:TypeId}{u:TypeDesc}{i:TypeInfo}{z:Value}{ax r:AV}{vx:Value}{X:Cx}(hu:P.underlying t=T u)(hn:∀ms,u≠ .interface ms)(hz:Hr P t=T (i,z))(h1:z.oneCell'=true)(hx:VRel X ax vx)(hr:IU t (FQ z) ax=T r) :
  ∃v,(Instr.typeAssert vx s t true).run P w= .ok v w∧VRel X r v:=by
 unfold IU at hr
 split at hr
 ·rename_i q d
  obtain⟨hi,hz0⟩:=LS hz;have hc:=hx.inv_sc;cases hc with | dat hc=>
  cases hc with | ifc hd=>
  rename_i v
  by_cases e:q=t
  ·subst e;simp only[beq_self_eq_true,cond_true,L] at hr
   subst hr;refine⟨.tuple #[v,.bool true],?_,.tup (.cons (.sc (.dat hd)) (.cons (.sc (.dat .bool)) .nil))⟩;simp only[Instr.typeAssert,Sem.run_bind,run_underlying hu,Result.andThen_ok];cases u<;>first | (simp; done) | exact absurd rfl (hn _)
  ·have e':(q==t)=false:=by simpa using e
   simp only[e',cond_false,L] at hr
   subst hr;refine⟨.tuple #[z,.bool false],?_,.tup (.cons (.sc (Ox z h1)) (.cons (.sc (.dat .bool)) .nil))⟩;simp only[Instr.typeAssert,Sem.run_bind,run_underlying hu,Result.andThen_ok];cases u<;>first | (simp[e,zeroValue,typeInfo,hi,hz0]; done) | exact absurd rfl (hn _)
 ·cases hr
theorem md(R:Rel A B w0 nm σ a.tmps w){d d':Nat}{o:Oper}{ao:AOp}{av:AV}(hc:Ae P d o=T ao)(hp:σ.pure ao=T (d',av)) :
  d'=d∧∃v,(execOp a.eval o).run P w= .ok (.value v) w∧VRel (cx A nm σ w) av v:=by
 obtain⟨dst,op,ty,pos,after,guard⟩:=o
 have fin:∀{s:Sem Value} {v:Value},s.run P w= .ok v w→(do pure (Next.value (← s)):Sem Next).run P w= .ok (.value v) w:=by
  intro s v hs;simp[hs]
 cases op
 case move x=>
  simp only[Ae,E] at hc
  obtain⟨y,hy,rfl⟩:=hc;simp only[St.pure,L,G] at hp
  obtain⟨rfl,rfl⟩:=hp;exact⟨F,_,F,Al R hy⟩
 case assign x=>
  simp only[Ae,E] at hc
  obtain⟨y,hy,rfl⟩:=hc;simp only[St.pure,L,G] at hp
  obtain⟨rfl,rfl⟩:=hp;exact⟨F,_,F,Al R hy⟩
 case pick c x y=>
  simp only[Ae] at hc
  split at hc
  ·rename_i c' x' y' h1 h2 h3
   cases hc;simp only[St.pure,E,G] at hp
   obtain⟨r,hr,rfl,rfl⟩:=hp;obtain⟨b,hb,hrel⟩:=mZ (Al R h1) (Al R h2) (Al R h3) hr;refine⟨F,_,?_,hrel⟩;simp only[execOp,hb,asBool,Sem.run_bind,Sem.run_pure,Result.andThen_ok]
  ·cases hc
 case build t ps=>
  simp only[Ae] at hc
  split at hc
  ·rename_i fs i z hu hi
   obtain⟨hi,hz0⟩:=LS hi;split at hc
   ·rename_i places hpl
    split at hc
    ·rename_i zs qs hz hq
     cases hc;simp only[St.pure,E,G] at hp
     obtain⟨cs,hcs,rfl,rfl⟩:=hp;obtain⟨cells,h1,h2⟩:=Rx (cells:=z.cells) (U7 R hq) (Jm hz) hcs;refine⟨F,.agg cells,?_,?_⟩
     ·refine fin (run_build w t _ cells ?_);unfold Program.built;rw[hi,hu];simp only[hpl,hz0];simpa using h1
     ·have:=V1Rel.ag h2;simp only[Array.toArray_toList] at this
      exact .v this
    ·cases hc
   ·cases hc
  ·rename_i n e i z hu hi
   obtain⟨hi,hz0⟩:=LS hi;split at hc
   ·rename_i ie hie
    split at hc
    ·rename_i zs qs hz hq
     cases hc;simp only[St.pure,E,G] at hp
     obtain⟨cs,hcs,rfl,rfl⟩:=hp;obtain⟨cells,h1,h2⟩:=Rx (cells:=z.cells) (U6 R hq) (Jm hz) hcs;refine⟨F,.agg cells,?_,?_⟩
     ·refine fin (run_build w t _ cells ?_);unfold Program.built;rw[hi,hu];simp only[hie,hz0];simpa using h1
     ·have:=V1Rel.ag h2;simp only[Array.toArray_toList] at this
      exact .v this
    ·cases hc
   ·cases hc
  ·cases hc
 case load t x=>
  simp only[Ae] at hc
  split at hc
  ·rename_i g n y h1 h2
   split at hc
   ·cases hc;simp only[St.pure,E,G] at hp
    obtain⟨r,hr,rfl,rfl⟩:=hp;obtain⟨v,hv,hrel⟩:=TE R h1 (Al R h2) hr;exact⟨F,v,fin hv,hrel⟩
   ·cases hc
  ·cases hc
 case nilCheck x=>
  simp only[Ae,E] at hc
  obtain⟨y,hy,rfl⟩:=hc;simp only[St.pure,E,G] at hp
  obtain⟨r,hr,rfl,rfl⟩:=hp;obtain⟨⟨ad,hv⟩,hrel⟩:=lm (Al R hy) hr;refine⟨F,_,?_,hrel⟩;simp[execOp,hv]
 case binOp op t x y yt=>
  simp only[Ae] at hc
  split at hc
  ·rename_i x' y' h1 h2
   split at hc
   ·rename_i hu
    cases hc;simp only[St.pure,E,G] at hp
    obtain⟨r,hr,rfl,rfl⟩:=hp;obtain⟨v,hv,hrel⟩:=R9 (P:=P) (w:=w) (op:= .eql) (OX:=x) (OY:=y) hu rfl (Al R h1) (Al R h2) hr;exact⟨F,v,fin hv,hrel⟩
   ·rename_i hu
    cases hc;simp only[St.pure,E,G] at hp
    obtain⟨r,hr,rfl,rfl⟩:=hp;obtain⟨v,hv,hrel⟩:=R9 (P:=P) (w:=w) (op:= .neq) (OX:=x) (OY:=y) hu rfl (Al R h1) (Al R h2) hr;exact⟨F,v,fin hv,hrel⟩
   ·rename_i hu
    simp only[E] at hc
    obtain⟨ks,hks,rfl⟩:=hc;simp only[St.pure,E,G] at hp
    obtain⟨r,hr,rfl,rfl⟩:=hp;obtain⟨v,hv,hrel⟩:=RU (P:=P) (w:=w) (op:= .eql) (OX:=x) (OY:=y) hks rfl (Al R h1) (Al R h2) hr;exact⟨F,v,fin hv,hrel⟩
   ·rename_i hu
    simp only[E] at hc
    obtain⟨ks,hks,rfl⟩:=hc;simp only[St.pure,E,G] at hp
    obtain⟨r,hr,rfl,rfl⟩:=hp;obtain⟨v,hv,hrel⟩:=RU (P:=P) (w:=w) (op:= .neq) (OX:=x) (OY:=y) hks rfl (Al R h1) (Al R h2) hr;exact⟨F,v,fin hv,hrel⟩
   ·cases hc;simp only[St.pure,E,G] at hp
    obtain⟨r,hr,rfl,rfl⟩:=hp;obtain⟨v,hv,hrel⟩:=Zs (P:=P) (w:=w) (t:=t) (OX:=x) (OY:=y) (Al R h1) (Al R h2) hr;exact⟨F,v,fin hv,hrel⟩
  ·cases hc
 case unOp op t x=>
  simp only[Ae,E] at hc
  obtain⟨y,hy,rfl⟩:=hc;simp only[St.pure,E,G] at hp
  obtain⟨r,hr,rfl,rfl⟩:=hp;obtain⟨v,hv,hrel⟩:=pu (P:=P) (w:=w) (Al R hy) hr;exact⟨F,v,fin hv,hrel⟩
 case convert s t x=>
  simp only[Ae] at hc
  split at hc
  ·rename_i k y hs ht hy
   cases hc;simp only[St.pure] at hp
   split at hp
   ·rename_i k' n hv
    simp only[L,G] at hp
    obtain⟨rfl,rfl⟩:=hp;have hx:=Al R hy;rw[hv] at hx
    obtain⟨e,_⟩:=hx.inv_int;refine⟨F,_,fin ?_,IH⟩;simp only[convert,Sem.run_bind,run_underlying hs,run_underlying ht,Result.andThen_ok,e];rename_i ds _ _
    cases ds<;>rfl
   ·cases hp
  ·rename_i e y hs ht hy
   split at hc
   ·rename_i he
    cases hc;simp only[St.pure,E,G] at hp
    obtain⟨r,hr,rfl,rfl⟩:=hp;obtain⟨v,hv,hrel⟩:=ng (P:=P) (w:=w) hs he ht (Al R hy) hr;exact⟨F,v,fin hv,hrel⟩
   ·cases hc
  ·cases hc
 case slice t x lo hi mx=>
  simp only[Ae] at hc
  split at hc
  ·rename_i y l q m h1 h2 h3 h4
   split at hc
   ·cases hc
   ·rename_i hnm
    split at hc
    ·rename_i hu
     split at hc
     ·rename_i hmx
      cases hc;simp only[St.pure,E,G] at hp
      obtain⟨r,hr,rfl,rfl⟩:=hp;have hm0:mx=none:=by simpa using hmx
      subst hm0;obtain⟨v,hv,hrel⟩:=nu (P:=P) (w:=w) hu (Al R h1) (Ls R h2) (Ls R h3) hr;exact⟨F,v,fin hv,hrel⟩
     ·cases hc
    ·rename_i e hu
     simp only[E] at hc
     obtain⟨inf,hi,rfl⟩:=hc;simp only[St.pure,E,G] at hp
     obtain⟨r,hr,rfl,rfl⟩:=hp;obtain⟨v,hv,hrel⟩:=nr (P:=P) (w:=w) hu hi hnm (Al R h1) (Ls R h2) (Ls R h3) (Ls R h4) hr;exact⟨F,v,fin hv,hrel⟩
    ·cases hc
  ·cases hc
 case fieldAddr s x f=>
  simp only[Ae] at hc
  split at hc
  ·rename_i fs y hu hy
   split at hc
   ·rename_i fd hf
    split at hc
    ·rename_i i hi
     split at hc
     ·cases hc
     ·rename_i hz
      cases hc;simp only[St.pure,E,G] at hp
      obtain⟨r,hr,rfl,rfl⟩:=hp;obtain⟨v,hv,hrel⟩:=dv (P:=P) hu hf hi hz (Al R hy) hr;exact⟨F,v,fin hv,hrel⟩
    ·cases hc
   ·cases hc
  ·cases hc
 case field t x f=>
  simp only[Ae] at hc
  split at hc
  ·rename_i fs y hu hy
   split at hc
   ·rename_i fd hf
    split at hc
    ·rename_i g n hg
     split at hc
     ·cases hc;simp only[St.pure,E,G] at hp
      obtain⟨r,hr,rfl,rfl⟩:=hp;obtain⟨v,hv,hrel⟩:=eA (P:=P) hu hf hg (Al R hy) hr;exact⟨F,v,fin hv,hrel⟩
     ·cases hc
    ·cases hc
   ·cases hc
  ·cases hc
 case indexAddr t x i=>
  simp only[Ae] at hc
  split at hc
  ·rename_i inf y j h1 h2 h3
   cases hc;simp only[St.pure,E,G] at hp
   obtain⟨r,hr,rfl,rfl⟩:=hp;obtain⟨v,hv,hrel⟩:=hF (P:=P) h1 (Al R h2) (Al R h3) hr;exact⟨F,v,fin hv,hrel⟩
  ·rename_i y j h1 h2 h3
   split at hc
   ·rename_i len e hu
    split at hc
    ·rename_i ie hie
     split at hc
     ·rename_i k n
      split at hc
      ·rename_i hn
       cases hc;simp only[St.pure,E,G] at hp
       obtain⟨r,hr,rfl,rfl⟩:=hp;obtain⟨v,hv,hrel⟩:=du (P:=P) (k:=k) hu hie hn.1 hn.2.1 (Al R h2) hr;exact⟨F,v,fin hv,hrel⟩
      ·cases hc
     ·cases hc;simp only[St.pure,E,G] at hp
      obtain⟨r,hr,rfl,rfl⟩:=hp;obtain⟨v,hv,hrel⟩:=YH (P:=P) hu hie (Al R h2) (Al R h3) hr;exact⟨F,v,fin hv,hrel⟩
    ·cases hc
   ·cases hc
  ·cases hc
 case index t x i=>
  simp only[Ae] at hc
  split at hc
  ·rename_i y j h1 h2 h3
   cases hc;simp only[St.pure,E,G] at hp
   obtain⟨r,hr,rfl,rfl⟩:=hp;obtain⟨v,hv,hrel⟩:=hI (P:=P) h1 (Al R h2) (Al R h3) hr;exact⟨F,v,fin hv,hrel⟩
  ·rename_i len e y j h1 h2 h3
   split at hc
   ·rename_i g m k n hg
    split at hc
    ·rename_i hn
     cases hc;simp only[St.pure,E,G] at hp
     obtain⟨r,hr,rfl,rfl⟩:=hp;obtain⟨v,hv,hrel⟩:=dy (P:=P) (k:=k) h1 hg hn.1 hn.2.1 (Al R h2) hr;exact⟨F,v,fin hv,hrel⟩
    ·cases hc
   ·cases hc
  ·cases hc
 case extract x i=>
  simp only[Ae,E] at hc
  obtain⟨y,hy,rfl⟩:=hc;simp only[St.pure,E,G] at hp
  obtain⟨r,hr,rfl,rfl⟩:=hp;obtain⟨v,hv,hrel⟩:=dk (P:=P) (w:=w) (Al R hy) hr;exact⟨F,v,fin hv,hrel⟩
 case makeInterface t x=>
  simp only[Ae] at hc
  split at hc
  ·cases hc
  ·rename_i u y hn hu hy
   cases hc;simp only[St.pure,E,G] at hp
   obtain⟨r,hr,rfl,rfl⟩:=hp;obtain⟨v,hv,hrel⟩:=lY (P:=P) (w:=w) hu (fun ms e=>hn ms e) (Al R hy) hr;exact⟨F,v,fin hv,hrel⟩
  ·cases hc
 case typeAssert x s t ok=>
  simp only[Ae] at hc
  split at hc
  ·cases hc
  ·rename_i u i z y hn hu hz hy
   split at hc
   ·rename_i h1
    obtain⟨h1,rfl⟩:=h1;cases hc;simp only[St.pure,E,G] at hp
    obtain⟨r,hr,rfl,rfl⟩:=hp;obtain⟨v,hv,hrel⟩:=pQ (P:=P) (w:=w) (s:=s) hu (fun ms e=>hn ms e) hz h1 (Al R hy) hr;exact⟨F,v,fin hv,hrel⟩
   ·cases hc
  ·cases hc
 case makeFunc fn first caps=>
  cases fn with
  | func f=>
   simp only[Ae] at hc
   split at hc
   ·rename_i hf
    simp only[E] at hc
    obtain⟨ys,hy,rfl⟩:=hc;simp only[St.pure,E,G] at hp
    obtain⟨c,hr,rfl,rfl⟩:=hp;obtain⟨hl,H⟩:=ND R hy;have hc:=lQ (by simp[hl]) H hr;have hf0:first= #[]:=by simpa using hf
    subst hf0;refine⟨F,.func (.func f) #[] (caps.map a.eval),by simp[execOp,Instr.makeFunc],?_⟩;refine Be ?_
    have e:caps.map a.eval=(List.map a.eval caps.toList).toArray:=by
     apply Array.ext'
     rw[Array.toList_map]
    rw[e];exact hc
   ·cases hc
  | _=>simp[Ae] at hc
 case call c=>
  obtain⟨callee,args,argTypes⟩:=c;cases callee with
  | value f=>
   exfalso
   cases f with
   | func f=>
    simp only[Ae] at hc
    split at hc
    ·split at hc
     ·simp only[E] at hc
      obtain⟨ys,_,rfl⟩:=hc;simp[St.pure] at hp
     ·cases hc
    ·cases hc
   | tmp t=>
    simp only[Ae,E] at hc
    obtain⟨ys,_,rfl⟩:=hc;simp[St.pure] at hp
   | _=>simp[Ae] at hc
  | invoke r m=>simp[Ae] at hc
  | builtin bi=>
   have fin2:∀{s:Sem Value} {v:Value},s.run P w= .ok v w→(do pure (Next.value (← s)):Sem Next).run P w= .ok (.value v) w:=fin;cases bi<;>try (simp[Ae] at hc; done)
   case append=>
    exfalso
    simp only[Ae] at hc
    split at hc
    ·split at hc
     ·split at hc
      ·cases hc; simp[St.pure] at hp
      ·cases hc
     ·cases hc
    ·cases hc
   case len=>
    simp only[Ae] at hc
    split at hc
    ·rename_i x t hargs htys
     have e1:args= #[x]:=by apply Array.ext'; simpa using hargs
     have e2:argTypes= #[t]:=by apply Array.ext'; simpa using htys
     subst e1 e2;split at hc
     ·rename_i y hu hy
      cases hc;simp only[St.pure,E,G] at hp
      obtain⟨r,hr,rfl,rfl⟩:=hp;obtain⟨v,hv,hrel⟩:=nx (P:=P) (ty:=ty) hu (Al R hy) hr;refine⟨F,v,?_,hrel⟩;simp[execOp,resolve,invoke,builtin,hv]
     ·rename_i e y hu hy
      cases hc;simp only[St.pure,E,G] at hp
      obtain⟨r,hr,rfl,rfl⟩:=hp;obtain⟨v,hv,hrel⟩:=kg (P:=P) (ty:=ty) hu (Al R hy) hr;refine⟨F,v,?_,hrel⟩;simp[execOp,resolve,invoke,builtin,hv]
     ·cases hc
    ·cases hc
   case max=>
    simp only[Ae] at hc
    split at hc
    ·rename_i x y hargs
     have e1:args= #[x,y]:=by apply Array.ext'; simpa using hargs
     subst e1;split at hc
     ·rename_i x' y' hx hy
      cases hc;simp only[St.pure,E,G] at hp
      obtain⟨r,hr,rfl,rfl⟩:=hp;obtain⟨v,hv,hrel⟩:=TR (P:=P) (Al R hx) (Al R hy) hr;simp only[if_true] at hv
      refine⟨F,v,?_,hrel⟩;simp[execOp,resolve,invoke,builtin,Builtin.max_,hv]
     ·cases hc
    ·cases hc
   case min=>
    simp only[Ae] at hc
    split at hc
    ·rename_i x y hargs
     have e1:args= #[x,y]:=by apply Array.ext'; simpa using hargs
     subst e1;split at hc
     ·rename_i x' y' hx hy
      cases hc;simp only[St.pure,E,G] at hp
      obtain⟨r,hr,rfl,rfl⟩:=hp;obtain⟨v,hv,hrel⟩:=TR (P:=P) (Al R hx) (Al R hy) hr;simp only[Bool.false_eq_true,if_false] at hv
      refine⟨F,v,?_,hrel⟩;simp[execOp,resolve,invoke,builtin,Builtin.min_,hv]
     ·cases hc
    ·cases hc
 case alloc e=>
  exfalso
  simp only[Ae] at hc
  split at hc
  ·simp only[E] at hc
   obtain⟨_,_,rfl⟩:=hc;simp[St.pure] at hp
  ·cases hc
 case box e x=>
  exfalso
  simp only[Ae,E] at hc
  obtain⟨_,_,rfl⟩:=hc;simp[St.pure] at hp
 case buildSlice t l ps=>
  exfalso
  simp only[Ae] at hc
  split at hc
  ·split at hc
   ·split at hc
    ·cases hc; simp[St.pure] at hp
    ·cases hc
   ·cases hc
  ·cases hc
 case makeSlice t l c=>
  exfalso
  simp only[Ae] at hc
  split at hc
  ·split at hc
   ·split at hc
    ·cases hc; simp[St.pure] at hp
    ·cases hc
   ·cases hc
  ·cases hc
 all_goals (simp[Ae] at hc)
end
end Go.Vi
