/-
The value level. No condition.
-/
import Derived.Test.YtpigjggbnclpbaaGreatOVi16
namespace Go.Vi
set_option linter.all false
open Option renaming map_eq_some_iff → F, some → T
open List renaming getElem?_append_right → E, getElem?_append_left → G, getElem?_eq_some_iff → L
section
variable {P : Program} {A : Ar} {B : Nat} {w0 : Base} {w : World} {nm : Ad} {σ : St} {a : Act}
theorem VB{w:World}:Af (fun _ _=>True) w=AS w:=by
 funext b C
 simp[Af,AS]
theorem D2{w:World}:Af (fun b fr=>(∀i,nm i≠T b)∧A b fr) w=Ab A nm w:=by
 funext b C
 simp[Af,Ab,and_assoc]
theorem Rd{Q:Exit→Act→World→Prop}{K:Act→World→Prop}{nt d:Nat}{f:FuncId}{vs:List Value}{ds:List DV}{rs:List R1}(R:Rel A B w0 nm σ a.tmps w)(hnt:a.tmps.size=nt)(hd:d<nt)
  (hargs:(DVRels (AS w) ds vs∧(C7 rs∨FCf P f ds rs))∨DVRels (Ab A nm w) ds vs) (hf:FC P f ds rs) (hfr:σ.fresh d=true) (h64:(rs.flatMap R1.cells).length≤64)
  (hK:∀nm' a' w',Rel A B w0 nm' (σ.inst d rs) a'.tmps w'→a'.tmps.size=nt→a'.defers=a.defers→K a' w') :
  Calls P f vs.toArray w fun
   | .returned v,w''=>K (a.put (T d) v) w''
   | .panicked chain,w''=>Q (.panic chain) a w''
   | .outgrown,_=>LetsOut Q:=by
 have key:∀{A':AY},DVRels (Af A' w) ds vs→((∀b fr,A' b fr→(∀i,nm i≠T b)∧A b fr)∨C7 rs)→Calls P f vs.toArray w fun
   | .returned v,w''=>K (a.put (T d) v) w''
   | .panicked chain,w''=>Q (.panic chain) a w''
   | .outgrown,_=>LetsOut Q:=by
  intro A' hv hA;refine(hf w A' vs (R.good w R.below) hv).mono fun e w' h=> ?_
  obtain⟨v,bs,rfl,hb,hr,hn,hdis⟩:=h;obtain⟨nm',R'⟩:=R.behind (by rw[hnt]; exact hd) hfr h64 hA hb hr hn hdis;exact hK nm' _ w' R' (by simp[Act.put,hnt]) rfl
 rcases hargs with ⟨h1,h2|h2⟩|h1
 ·exact key (by rw[VB]; exact h1) (.inr h2)
 ·refine(h2 w (fun _ _=>True) vs (R.good w R.below) (by rw[VB]; exact h1)).mono fun e w' h=> ?_
  obtain⟨v,bs,rfl,hb,hr,hn,hdis⟩:=h;obtain⟨nm',R'⟩:=R.behind (A':=fun _ _=>False) (by rw[hnt]; exact hd) hfr h64 (.inl fun _ _ h=>h.elim) hb hr hn hdis;exact hK nm' _ w' R' (by simp[Act.put,hnt]) rfl
 ·exact key (by rw[D2]; exact h1) (.inl fun b fr hb=>hb)
theorem PA{f:FuncId}(h:Bi P f=true)(args:Array Value):(callFunc f args).run P w= .ok (.enter f args) w:=by
 unfold Bi at h;split at h
 ·rename_i fn hfn
  simp only[Bool.and_eq_true,Bool.not_eq_true',beq_eq_false_iff_ne,ne_eq] at h;cases hb:fn.body with
  | none=>simp[hb] at h
  | some c=>simp[callFunc,hfn,hb,h.2]
 ·cases h
theorem VsRel.app{X:Cx}{l1 bs:List AV}{us vs:List Value}(h1:VsRel X l1 us)(h2:VsRel X bs vs):VsRel X (l1++bs) (us++vs):=by
 refine⟨by simp[h1.1,h2.1],fun i u v hu hv=> ?_⟩;by_cases hi:i<l1.length
 ·rw[G hi] at hu
  rw[G (by rw[← h1.1]; exact hi)] at hv
  exact h1.2 i u v hu hv
 ·rw[E (by omega)] at hu
  rw[E (by rw[← h1.1]; omega)] at hv
  rw[← h1.1] at hv
  exact h2.2 _ u v hu hv
theorem Rg{X:Cx}:∀{ids bs:List Nat},ids.mapM (fun i=>X.nm (2*i))=T bs→VsRel X (ids.map fun i=>AV.v (.sc (.pb i 0))) (bs.map fun b=>Value.pointer (T ⟨b,0,none⟩))
 | [],bs,h=>by
  simp at h;subst h;exact⟨rfl,fun i u v hu=>by simp at hu⟩
 | i::ids,bs,h=>by
  simp only[List.mapM_cons] at h;cases h1:X.nm (2*i) with
  | none=>rw[h1] at h; cases h
  | some b=>
   rw[h1] at h;cases h2:ids.mapM (fun i=>X.nm (2*i)) with
   | none=>rw[h2] at h; cases h
   | some bs'=>
    rw[h2] at h;cases h;obtain⟨e,H⟩:=Rg h2;refine⟨by simpa using e,fun j u v hu hv=> ?_⟩;cases j with
    | zero=>
     simp at hu hv
     subst hu hv;exact .v (.sc (.pb h1))
    | succ j=>exact H j u v (by simpa using hu) (by simpa using hv)
theorem Ou{d d':Nat}{op:Op}{o:Oper}{ao:AOp}(ho:o.op=op)(h:Ae P d o=T ao)(hcl:(∃f args,ao= .call d' f args)∨(∃x args,ao= .callv d' x args)) :
  (∃f args xs tys,ao= .call d f args∧op= .call {callee:= .value (.func f),args:=xs,argTypes:=tys}∧BG xs.toList=T args∧Bi P f=true)∨
  (∃t args xs tys,ao= .callv d (.t t) args∧op= .call {callee:= .value (.tmp t),args:=xs,argTypes:=tys}∧BG xs.toList=T args):=by
 subst ho;obtain⟨dst,op,ty,pos,after,guard⟩:=o;cases op
 case call c=>
  obtain⟨callee,args,argTypes⟩:=c;cases callee with
  | value f=>
   cases f with
   | func f=>
    simp only[Ae] at h;split at h
    ·rename_i fn hfn
     split at h
     ·rename_i hcond
      simp only[F] at h;obtain⟨ys,hy,rfl⟩:=h;refine .inl ⟨f,ys,args,argTypes,rfl,rfl,hy,?_⟩;unfold Bi;rw[hfn];simp[hcond.1,hcond.2]
     ·cases h
    ·cases h
   | tmp t=>
    simp only[Ae,F] at h;obtain⟨ys,hy,rfl⟩:=h;exact .inr ⟨t,ys,args,argTypes,rfl,rfl,hy⟩
   | _=>simp[Ae] at h
  | invoke r m=>simp[Ae] at h
  | builtin bi=>
   exfalso
   cases bi<;>try (simp[Ae] at h; done)
   all_goals
    simp only[Ae] at h;(repeat' (split at h))<;>first | (cases h; done) | (cases h; rcases hcl with ⟨_,_,h2⟩ | ⟨_,_,h2⟩<;>cases h2)
 case makeFunc fn first caps=>
  exfalso
  cases fn<;>simp only[Ae,reduceCtorEq] at h;split at h
  ·simp only[F] at h;obtain⟨_,_,rfl⟩:=h;rcases hcl with ⟨_,_,h2⟩|⟨_,_,h2⟩<;>cases h2
  ·cases h
 all_goals
  exfalso
  simp only[Ae] at h
  first
   | (cases h; done)
   | (simp only[F] at h; obtain⟨_,_,h⟩:=h; cases h; rcases hcl with ⟨_,_,h2⟩ | ⟨_,_,h2⟩<;>cases h2; done)
   | ((repeat' (split at h))<;>first | (cases h; done) | (cases h; rcases hcl with ⟨_,_,h2⟩ | ⟨_,_,h2⟩<;>cases h2; done) | (simp only[F] at h; obtain⟨_,_,h⟩:=h; cases h; rcases hcl with ⟨_,_,h2⟩ | ⟨_,_,h2⟩<;>cases h2; done))
theorem QV{Q:Exit→Act→World→Prop}{K:Act→World→Prop}{K':St→Prop}{nt:Nat}{o:Oper}{ao:AOp}(R:Rel A B w0 nm σ a.tmps w)(hnt:a.tmps.size=nt)(hc:C6 P nt o=T ao)(hs:AN P ao K' σ)
  (hK:∀nm' σ' a' w',K' σ'→Rel A B w0 nm' σ' a'.tmps w'→a'.tmps.size=nt→a'.defers=a.defers→K a' w'):o.wp P a w K Q:=by
 have plain:(match σ.step ao with | some σ'=>K' σ' | none=>False)→o.wp P a w K Q:=by
  intro h;split at h
  ·rename_i σ' hst
   exact oZ R hnt hc hst fun nm' a' w' R' h1 h2=>hK nm' σ' a' w' h R' h1 h2
  ·exact h.elim
 cases ao<;>try exact plain hs
 case call d f args=>
  unfold C6 at hc
  split at hc
  ·rename_i d' hd
   split at hc
   ·rename_i hlt
    have e:=(Jj hc).1;simp only[AOp.dst,Option.some.injEq] at e
    subst e;obtain⟨dst,op,ty,pos,after,guard⟩:=o;simp only at hd
    subst hd
    have hcall:∃xs tys,op= .call {callee:= .value (.func f),args:=xs,argTypes:=tys}∧BG xs.toList=T args∧Bi P f=true:=by
     rcases Ou (d':=d) rfl hc (.inl ⟨f,args,rfl⟩) with ⟨f',args',xs,tys,h1,h2,h3,h4⟩|⟨t,args',xs,tys,h1,_⟩
     ·cases h1; exact⟨xs,tys,h2,h3,h4⟩
     ·cases h1
    obtain⟨xs,tys,rfl,hxs,hok⟩:=hcall
    have hrun:(execOp a.eval {dst:=some d,op:= .call {callee:= .value (.func f),args:=xs,argTypes:=tys },type:=ty,pos,after,guard }).run P w= .ok (.enter f (xs.toList.map a.eval).toArray) w:=by
     have:=PA (w:=w) hok (xs.map a.eval);have e2:(xs.toList.map a.eval).toArray=xs.map a.eval:=by apply Array.ext'; simp
     rw[e2];simp[execOp,resolve,Deferred.ofValue,invoke,Act.eval,this]
    unfold Oper.wp;rw[hrun,Oper.upon_enter];rcases hs with ⟨ds,rs,hh,hfc,hfr,h64,hk⟩|⟨ids,ys,R0,R1,r,⟨hnd,hys,hrows,hflat,hsame⟩,hfx,hk⟩|⟨S,hcc,hk⟩
    rotate_left
    rotate_left
    ·obtain⟨hl,H⟩:=ND R hxs;refine(hcc A B w0 w nm a.tmps _ R ⟨by simp[hl],H⟩).mono fun e w' h=> ?_
     obtain⟨v,nm',σ',r,rfl,hS,R',hv⟩:=h;exact hK nm' _ (a.put (T d) v) w' (hk _ _ hS) (R'.put (by rw[hnt]; exact hlt) hv) (by simp[Act.put,hnt]) rfl
    rotate_left
    ·have hlen:=(He hrows).1;refine(hfx w _ (AH nm ids) (by simp[AH,hlen]) (fun i j b hi hj=> ?_) (fun b hb=> ?_) (fun w2 hb2=>R.good w2 ?_) (Vu R hrows hflat hxs hys)).mono fun e w' h=> ?_
     ·simp only[AH,List.getElem?_map,F] at hi hj
      obtain⟨x,hx,hxb⟩:=hi;obtain⟨y,hy,hyb⟩:=hj;have:=R.inj _ _ _ hxb hyb;have e:x=y:=by omega
      subst e;have hi1:=L.1 hx;have hj1:=L.1 hy;obtain⟨hil,hie⟩:=hi1;obtain⟨hjl,hje⟩:=hj1;have hp:=List.pairwise_iff_getElem.1 hnd;rcases Nat.lt_trichotomy i j with hlt|he|hgt
      ·exact absurd (hie.trans hje.symm) (hp i j hil hjl hlt)
      ·exact he
      ·exact absurd (hje.trans hie.symm) (hp j i hjl hil hgt)
     ·simp only[AH,List.mem_map] at hb
      obtain⟨id,_,hb⟩:=hb;exact(R.names _ _ hb).2
     ·refine R.below.after hb2 R.size R.there fun i b e=> ?_
      obtain⟨j,_,h2⟩:=Fw e;simp only[AH,List.getElem?_map,F] at h2
      obtain⟨id,_,h4⟩:=h2;exact(R.names _ _ h4).1
     ·obtain⟨v,rfl,hb2,hv,hrow⟩:=h;exact hK nm _ (a.put (T d) v) w' hk (R.behindX (by rw[hnt]; exact hlt) hnd hrows hsame hb2 hv hrow) (by simp[Act.put,hnt]) rfl
    refine Rd (Q:=Q) R hnt hlt ?_ hfc hfr h64 (fun nm' a' w' R' h1 h2=>hK nm' _ a' w' hk R' h1 h2);rcases hh with ⟨h1,h2⟩|h1
    ·exact .inl ⟨NO R hxs h1,h2⟩
    ·exact .inr (PX R hxs h1)
   ·cases hc
  ·split at hc
   ·split at hc<;>cases hc
   ·(repeat' split at hc)<;>cases hc
   ·cases hc
 case callv d x args=>
  unfold C6 at hc
  split at hc
  ·rename_i d' hd
   split at hc
   ·rename_i hlt
    have e:=(Jj hc).1;simp only[AOp.dst,Option.some.injEq] at e
    subst e;obtain⟨dst,op,ty,pos,after,guard⟩:=o;simp only at hd
    subst hd
    have hcall:∃t xs tys,x= .t t∧op= .call {callee:= .value (.tmp t),args:=xs,argTypes:=tys}∧BG xs.toList=T args:=by
     rcases Ou (d':=d) rfl hc (.inr ⟨x,args,rfl⟩) with ⟨f',args',xs,tys,h1,_⟩|⟨t,args',xs,tys,h1,h2,h3⟩
     ·cases h1
     ·cases h1; exact⟨t,xs,tys,rfl,h2,h3⟩
    obtain⟨t,xs,tys,rfl,rfl,hxs⟩:=hcall;have hx:VRel (cx A nm σ w) (σ.val (.t t)) (a.tmps.getD t undef):=R.env t
    have hrun:∀f cvs,Bi P f=true→a.tmps.getD t undef= .func (.func f) #[] cvs.toArray→(execOp a.eval {dst:=some d,op:= .call {callee:= .value (.tmp t),args:=xs,argTypes:=tys },type:=ty,pos,after,guard }).run P w= .ok (.enter f (xs.toList.map a.eval++cvs).toArray) w:=by
     intro f cvs hok hcv;have:=PA (w:=w) hok (xs.map a.eval++cvs.toArray);have e2:(xs.toList.map a.eval++cvs).toArray=xs.map a.eval++cvs.toArray:=by apply Array.ext'; simp
     rw[e2];have e3:a.eval (.tmp t)= .func (.func f) #[] cvs.toArray:=hcv;simp[execOp,resolve,Deferred.ofValue,invoke,e3,this]
    unfold Oper.wp;rcases hs with ⟨f,caps,ds,rs,hh,hok,hfc,hfr,h64,hk⟩|⟨f,ids,σ',r,hv,hok,hcc,hk⟩
    rotate_left
    ·rw[hv] at hx
     generalize hgv:a.tmps.getD t undef=gv at hx
     cases hx with | v hx=>
     cases hx with | sc hx=>
     cases hx with | @clo _ _ bs hbs=>
     rw[hrun f _ hok hgv,Oper.upon_enter];obtain⟨hl,H⟩:=ND R hxs;refine(hcc A B w0 w nm a.tmps _ R (VsRel.app ⟨by simp[hl],H⟩ (Rg hbs))).mono fun e w' h=> ?_
     obtain⟨v,nm',rfl,R',hv⟩:=h;exact hK nm' _ (a.put (T d) v) w' hk (R'.put (by rw[hnt]; exact hlt) hv) (by simp[Act.put,hnt]) rfl
    have hfun:∃cvs,a.tmps.getD t undef= .func (.func f) #[] cvs.toArray∧((DVRels (AS w) (ds++caps.map .sc) (xs.toList.map a.eval++cvs)∧C7 rs)∨DVRels (Ab A nm w) (ds++caps.map .sc) (xs.toList.map a.eval++cvs)):=by
     rcases hh with ⟨h1,h2,h3⟩|⟨h1,h2⟩
     ·have:=PW R hx h1;cases this with | sc hr=>
      generalize hgv:a.tmps.getD t undef=gv at hr
      cases hr with | clo hrs hl=>
      exact⟨_,rfl,.inl ⟨(NO R hxs h2).append (.of_reps hrs hl),h3⟩⟩
     ·rw[h1] at hx
      generalize hgv:a.tmps.getD t undef=gv at hx
      cases hx with | v hx=>
      cases hx with | sc hx=>
      cases hx with | dat hr=>
      cases hr with | clo hrs hl=>
      exact⟨_,rfl,.inr ((PX R hxs h2).append (.of_reps hrs hl))⟩
    obtain⟨cvs,hcv,hcall⟩:=hfun;rw[hrun f _ hok hcv,Oper.upon_enter];exact Rd (Q:=Q) R hnt hlt (hcall.imp (fun h=>⟨h.1,.inl h.2⟩) id) hfc hfr h64 (fun nm' a' w' R' h1 h2=>hK nm' _ a' w' hk R' h1 h2)
   ·cases hc
  ·split at hc
   ·split at hc<;>cases hc
   ·(repeat' split at hc)<;>cases hc
   ·cases hc
end
end Go.Vi
