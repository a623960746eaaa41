/-
The value level. No condition.
-/
import Derived.Test.YtpigjggbnclpbaaGreatOVi20
import Derived.Orders
namespace Go.Vi
set_option linter.all false
open Bool renaming and_eq_true → U, not_eq_true' → W, true → T, false → F
open Option renaming map_eq_some_iff → V, some → E
open List renaming all_eq_true → Z, contains_eq_mem → I, getD_eq_getElem?_getD → zA, mem_filter → zB, filterMap_cons → zC, getElem?_eq_some_iff → zD, mem_range → zE
open _root_ renaming List → G, Nat → O
inductive Zed:AOp→AOp→Prop
 | refl {o}:Zed o o
 | sl {d sz zs}:Zed (.bslice d sz zs 0 []) (.zsl d)
 | ap {d sz b x y}:Zed (.app d sz b x y) (.zap d sz b x y)
def LW(P:Program)(nt:O)(ops:Array Oper)(o:Oper)(it:AItem):Prop:=∃o0,FP P nt ops o=E (it.1,o0)∧Zed o0 it.2
theorem uZ(z:G O)(it:AItem):(LR z it).1=it.1∧Zed it.2 (LR z it).2:=by
 unfold LR;split
 ·split
  ·exact⟨rfl,.sl⟩
  ·exact⟨rfl,.refl⟩
 ·split
  ·exact⟨rfl,.ap⟩
  ·exact⟨rfl,.refl⟩
 ·exact⟨rfl,.refl⟩
theorem Zed.dst{o0 o:AOp}(h:Zed o0 o):o.dst=o0.dst:=by cases h<;>rfl
section
variable {P : Program} {A : Ar} {B : O} {w0 : Base} {w : World} {nm : Ad} {σ : St} {tmps : Array Value} {a : Act} {nt : O}
theorem Rel.spare(R:Rel A B w0 nm σ tmps w)(ob:Obj):Rel A B w0 nm σ tmps (w.alloc ob):=by
 have hb:RowKit.Below w.heap.size w (w.alloc ob):=(RowKit.Below.refl w.heap.size w).alloc (Nat.le_refl _) _;refine R.carry (f:=fun c=>c) (R.below.trans R.there hb R.size) (by simp; have:=R.size; omega) (fun i b h=> ?_) R.inj (fun _ _=>rfl) (fun k=>by rw[AV.mapId]) (fun id=>by simp) (fun id cs _ b hb=>⟨hb,heap_alloc_old w _ b (R.names _ b hb).2⟩) (fun c v _ hrel=> ?_)
 ·obtain⟨k1,k2⟩:=R.names i b h;exact⟨k1,by simp; omega⟩
 ·exact hrel.move (Cf fun b hb hn=>⟨hn,heap_alloc_old w _ b hb⟩) (fun id _=> .inr ⟨rfl,rfl,fun b hb=>heap_alloc_old w _ b (R.names _ b hb).2⟩) (fun id _ b hb=>hb)
theorem ur(R:Rel A B w0 nm σ a.tmps w){d sz len:O}{zs:G D}{qs:G (O × Opd)}{o:Oper}(hd:d<a.tmps.size)(hod:o.dst=E d)(hc:Ae P d o=E (.bslice d sz zs len qs))(h0:len=0)(hq0:qs= []) :
  ∃v w',(execOp a.eval o).run P w= .ok (.value v) w'∧Rel A B w0 nm (σ.set d (.v (.sc .z))) (a.put o.dst v).tmps w':=by
 obtain⟨dst,op,ty,pos,after,guard⟩:=o;simp only at hod
 subst hod;cases op
 case buildSlice t len' ps=>
  simp only[Ae] at hc
  split at hc
  ·rename_i i z hz
   obtain⟨e,hu,hi,hz2⟩:=HN hz;split at hc
   ·rename_i hcond
    split at hc
    ·rename_i zs' qs' hzs hqs
     cases hc;subst h0 hq0
     have hps:ps.toList= []:=by
      cases hl:ps.toList with
      | nil=>rfl
      | cons p r=>
       rw[hl] at hqs
       simp only[IP] at hqs
       split at hqs<;>cases hqs
     refine⟨.slice (E ⟨w.heap.size,0,none⟩) 0 0,w.alloc (.cells #[] e),?_,(R.spare _).put hd (Be .z)⟩;simp[Instr.buildSlice,execOp,run_underlying hu,sizeOf,typeInfo,hi,newRow,hps,Instr.fill,Array.range_zero']
    ·cases hc
   ·cases hc
  ·cases hc
 case call c=>
  obtain⟨callee,args,argTypes⟩:=c;cases callee with
  | value f=>cases f<;>(try simp only[Ae] at hc)<;>(repeat' (split at hc))<;>first | (cases hc; done) | (simp only[V] at hc; obtain⟨_,_,h⟩:=hc; cases h; done) | (simp at hc; done)
  | invoke r m=>simp[Ae] at hc
  | builtin bi=>cases bi<;>simp only[Ae] at hc<;>(repeat' (split at hc))<;>first | (cases hc; done) | (simp at hc; done)
 case makeFunc fn _ _=>cases fn<;>simp only[Ae] at hc<;>(repeat' (split at hc))<;>first | (cases hc; done) | (simp only[V] at hc; obtain⟨_,_,h⟩:=hc; cases h; done) | (simp at hc; done)
 all_goals (simp only[Ae] at hc)
 all_goals (repeat' (split at hc))
 all_goals first | (cases hc; done) | (simp only[V] at hc; obtain⟨_,_,h⟩:=hc; cases h; done)
theorem eH{g:O}(h:σ.fresh g=T):σ.has (g*64)=F:=by
 have key:∀c:AC,c.uses g=F→c.has (g*64)=F:=by
  intro c hc;cases c<;>simp only[AC.uses,AC.has,beq_eq_false_iff_ne,ne_eq] at hc ⊢
  all_goals (intro e; subst e; exact hc (by omega))
 simp only[St.fresh,U,Z,W] at h;simp only[St.has,Bool.or_eq_false_iff,List.any_eq_false,Bool.not_eq_true];refine⟨fun p hp=> ?_,fun p hp=> ?_⟩
 ·exact fun c hc=>key c (h.2.1 p hp c hc)
 ·exact fun c hc=>key c ((h.2.2 p hp).2 c hc)
theorem ui(R:Rel A B w0 nm σ a.tmps w){t t' ty e e':TypeId}{i:TypeInfo}{z:Value}{d:O}{ay:AV}{vx vy:Value}{es:G (G D)}(ht:P.underlying t=E (.slice e))(ht':P.underlying t'=E (.slice e'))
  (hi:P.info? e=E i) (hz:i.zero=E z) (hzs:z.cells.size=i.size) (hpos:0<i.size) (hd:d<a.tmps.size) (hx:VRel (cx A nm σ w) (.v (.sc .z)) vx) (hy:VRel (cx A nm σ w) ay vy) (hes:appSrc σ.rows ay=E es)
  (hall:es.all (fun r=>r.length==i.size)=T) (hb47:es.length*i.bytes≤140737488355328) (h62:es.length≤4611686018427387904) (hf:σ.fresh d=T) :
  ∃v w' nm',(Builtin.append_ #[t,t'] ty #[vx,vy]).run P w= .ok v w'∧Rel A B w0 nm' {(σ.set d (.v (.sc (.own (d*64))))) with rows:=put σ.rows (d*64) (i.size,es)} (a.put (E d) v).tmps w':=by
 obtain⟨a0,rfl⟩:∃a0,vx= .slice a0 0 0:=by
  cases hx.inv_sc with | z=>exact⟨_,rfl⟩
 obtain⟨p,c,news,rfl,hnl,hnr,hload⟩:=QY (P:=P) hy hes hall hpos
 have hd30:d<1073741824:=by
  simp only[St.fresh,U,decide_eq_true_eq] at hf
  exact hf.1
 by_cases he:es= []
 ·subst he;have hl0:=hload w rfl;have hn0:news= []:=List.length_eq_zero_iff.1 (by simpa using hnl);subst hn0;obtain⟨R1,_⟩:=R.nilRow (id:=d*64) (sz:=i.size) (eH hf) (by omega);refine⟨_,w,_,Ux (base:=a0) ht ht' hi rfl hl0 rfl,R1.put hd (Be (.ownNil (B9 _ _ _) ?_))⟩;show(if 2*(d*64)+1=2*(d*64)+1 then none else nm (2*(d*64)+1))=none
  rw[if_pos rfl]
 ·have hp0:0<es.length:=List.length_pos_iff.2 he;have hrun:=Uw (P:=P) (w:=w) (ty:=ty) ht ht' hi hz (base:=a0) (n:=0) (cap:=0) (olds:= []) (x:= .slice p es.length c) rfl (by cases a0<;>simp[Builtin.firstCells,loadCells,loadCellsFrom]) (hload w.drew rfl) (by omega) (by omega) (by simpa using hb47);have hge:=grownCap_ge w (0+es.length) 0 e;have hcm:grownCap w (0+es.length) 0 e≤maxLen:=grownCap_le_maxLen w (0+es.length) 0 e (by unfold maxLen; omega);generalize grownCap w (0+es.length) 0 e=gc at hrun hge hcm
  rw[Nat.zero_add] at hrun hge
  have R0:Rel A B w0 nm σ a.tmps w.drew:=R.drawn _
  obtain⟨nm',R2⟩:=R0.newRow (t:=e) (C:= #[]++news.toArray++Builtin.zeroCells z.cells (gc - es.length)) (cap:=gc) (len:=es.length) hd hf hpos (by
   simp only[Array.size_append,List.size_toArray,size_zeroCells,hzs,hnl,List.length_nil,Nat.zero_add];rw[← Nat.add_mul];congr 1
   omega) hcm rfl hge (by
   simp only[Array.toList_append];exact hnr.more _)
  exact⟨_,_,nm',hrun,R2⟩
theorem uh(R:Rel A B w0 nm σ a.tmps w){d sz b:O}{x y:Opd}{o:Oper}{m:Mk}{σ':St}(hd:d<a.tmps.size)(hod:o.dst=E d)(hc:Ae P d o=E (.app d sz b x y))(hm:σ.made (.zap d sz b x y)=E m)(hs:σ.make m=E σ') :
  ∃v w' nm',(execOp a.eval o).run P w= .ok (.value v) w'∧Rel A B w0 nm' σ' (a.put o.dst v).tmps w':=by
 obtain⟨dst,op,ty,pos,after,guard⟩:=o;simp only at hod
 subst hod;cases op<;>try (simp[Ae] at hc; done)
 case call c=>
  obtain⟨callee,args,argTypes⟩:=c;cases callee with
  | builtin bi=>
   cases bi<;>try (simp[Ae] at hc; done)
   case append=>
    simp only[Ae] at hc
    split at hc
    ·rename_i X Y t t' hargs htys
     have e1:args= #[X,Y]:=by apply Array.ext'; simpa using hargs
     have e2:argTypes= #[t,t']:=by apply Array.ext'; simpa using htys
     subst e1 e2;split at hc
     ·rename_i i z e' x' y' hz hu' hx hy
      split at hc
      ·rename_i hcond
       cases hc;obtain⟨e,hu,hi,hz2⟩:=HN hz;simp only[St.made,V] at hm
       obtain⟨p,hzv,rfl⟩:=hm;have hX:=Al R hx;have hY:=Al R hy;unfold zapV at hzv
       split at hzv
       ·rename_i ay hxv
        split at hzv
        ·rename_i es hes
         split at hzv
         ·rename_i hb
          cases hzv;simp only[St.make] at hs
          split at hs
          ·rename_i hf
           cases hs;rw[hxv] at hX
           obtain⟨v,w',nm',hrun,R'⟩:=ui (P:=P) (ty:=ty) R hu hu' hi hz2 hcond.1 hcond.2.1 hd hX hY hes hb.1 hb.2.1 hb.2.2 hf;refine⟨v,w',nm',?_,R'⟩;simp[execOp,resolve,invoke,builtin,hrun]
          ·cases hs
         ·cases hzv
        ·cases hzv
       ·cases hzv
      ·cases hc
     ·cases hc
    ·cases hc
   all_goals ((try simp only[Ae] at hc)<;>(repeat' (split at hc))<;>first | (cases hc; done) | (simp at hc; done))
  | value f=>cases f<;>(try simp only[Ae] at hc)<;>(repeat' (split at hc))<;>first | (cases hc; done) | (obtain⟨_,_,h⟩:=V.1 hc; cases h; done) | (simp at hc; done)
  | invoke r m=>simp[Ae] at hc
 case makeFunc fn _ _=>cases fn<;>(try simp only[Ae] at hc)<;>(repeat' (split at hc))<;>first | (cases hc; done) | (obtain⟨_,_,h⟩:=V.1 hc; cases h; done) | (simp at hc; done)
 all_goals (simp only[Ae] at hc)
 all_goals (repeat' (split at hc))
 all_goals first | (cases hc; done) | (simp only[V] at hc; obtain⟨_,_,h⟩:=hc; cases h; done)
theorem Nh{Q:Exit→Act→World→Prop}{K:Act→World→Prop}{K':St→Prop}{ops:Array Oper}{o:Oper}{g:Option (O × Bool)}{ao:AOp}(R:Rel A B w0 nm σ a.tmps w)(hnt:a.tmps.size=nt)
  (hc:LW P nt ops o (g,ao)) (h:AA g σ (AN P ao K' σ) (match ao.dst with | some d=>K' (σ.set d .no) | none=>False))
  (hK:∀nm' σ' a' w',K' σ'→Rel A B w0 nm' σ' a'.tmps w'→a'.tmps.size=nt→a'.defers=a.defers→K a' w') :
  if Region.wanted o (yielded ops a.tmps) then o.wp P a w K Q∨(o.asks P a w∧LetsOut Q) else K (a.put o.dst undef) w:=by
 obtain⟨o0,hc0,hz⟩:=hc;simp only at hc0 hz
 obtain⟨h1,h2⟩:=Rj hc0
 have Ce:Region.wanted o (yielded ops a.tmps)=F→(match ao.dst with | some d=>K' (σ.set d .no) | none=>False)→K (a.put o.dst undef) w:=by
  intro _ hn;cases hd:ao.dst with
  | none=>simp[hd] at hn
  | some d=>
   simp only[hd] at hn
   obtain⟨r1,r2,r3⟩:=Vx R hnt h2 (hz.dst.symm.trans hd);exact hK nm _ _ w hn r1 r2 r3
 have value:∀{d:O} {v:Value} {w':World} {nm':Ad} {σ':St},o.dst=E d→K' σ'→(execOp a.eval o).run P w= .ok (.value v) w'→Rel A B w0 nm' σ' (a.put o.dst v).tmps w'→o.wp P a w K Q:=by
  intro d v w' nm' σ' hd hk hrun R';unfold Oper.wp;rw[hrun,Oper.upon_value,hd];rw[hd] at R'
  exact hK nm' _ _ _ hk R' (by simp[Act.put,hnt]) rfl
 cases hz with
 | refl=>exact Ng R hnt hc0 h hK
 | @sl d sz zs=>
  rcases OM R h1 h with ⟨hw,hy⟩|⟨hw,hn⟩
  ·rw[hw];obtain⟨e1,_,e3⟩:=Ov h2;have hod:o.dst=E d:=e1.symm
   have hca:Ae P d o=E (.bslice d sz zs 0 []):=by
    unfold C6 at h2
    rw[hod] at h2
    simp only at h2
    split at h2
    ·exact h2
    ·cases h2
   obtain⟨v,w',hrun,R'⟩:=ur R (by rw[hnt]; exact e3 d hod) hod hca rfl rfl;exact .inl (value hod hy hrun R')
  ·rw[hw];exact Ce hw hn
 | @ap d sz b x y=>
  rcases OM R h1 h with ⟨hw,hy⟩|⟨hw,hn⟩
  ·rw[hw];obtain⟨e1,_,e3⟩:=Ov h2;have hod:o.dst=E d:=e1.symm
   have hca:Ae P d o=E (.app d sz b x y):=by
    unfold C6 at h2
    rw[hod] at h2
    simp only at h2
    split at h2
    ·exact h2
    ·cases h2
   obtain⟨m,σ',hm,hs,hk⟩:∃m σ',σ.made (.zap d sz b x y)=E m∧σ.make m=E σ'∧K' σ':=by
    simp only[AN,St.step] at hy
    have hp:σ.pure (.zap d sz b x y)=none:=rfl;simp only[hp] at hy
    cases hm:σ.made (.zap d sz b x y) with
    | none=>simp[hm] at hy
    | some m=>
     simp only[hm,Option.bind_some] at hy
     cases hs:σ.make m with
     | none=>simp[hs] at hy
     | some σ'=>simp only[hs] at hy; exact⟨m,σ',rfl,hs,hy⟩
   obtain⟨v,w',nm',hrun,R'⟩:=uh R (by rw[hnt]; exact e3 d hod) hod hca hm hs;exact .inl (value hod hk hrun R')
  ·rw[hw];exact Ce hw hn
end
theorem Er:∀{l m:G O},l.Nodup→(∀x∈l,x∈m)→l.length≤m.length
 | [],m,_,_=>Nat.zero_le _
 | x::l,m,hn,h=>by
  have hx:x∈m:=h x (by simp);have hn':=List.nodup_cons.1 hn
  have:=Er (l:=l) (m:=m.erase x) hn'.2 fun y hy=>by
   have hne:y≠x:=fun e=>hn'.1 (e▸hy)
   exact(List.mem_erase_of_ne hne).2 (h y (by simp[hy]))
  rw[List.length_erase_of_mem hx] at this
  have hpos:0<m.length:=List.length_pos_of_mem hx;simp only[List.length_cons];omega
theorem Pr{p:O→Prop}:∀{i:O},¬p i→∃m,m≤i∧¬p m∧∀j,j<m→p j:=by
 intro i
 induction i using Nat.strongRecOn with
 | _ i ih=>
  intro h;by_cases hall:∀j,j<i→p j
  ·exact⟨i,Nat.le_refl _,h,hall⟩
  ·obtain⟨j,hj⟩:=Classical.not_forall.1 hall;obtain⟨hj1,hj2⟩:=Classical.not_imp.1 hj;obtain⟨m,h1,h2,h3⟩:=ih j hj1 hj2;exact⟨m,by omega,h2,h3⟩
def Cg(ops:Array Oper)(L:O→Prop):Prop:=∀i o,ops[i]?=E o→L i→∀j∈waits o,L j
def Qx(ops:Array Oper)(i:O)(s:G O):Prop:=∀L:O→Prop,Cg ops L→(∀o,ops[i]?=E o→∀j∈waits o,L j)→∀x∈s,L x
theorem Pz{x:O}:∀{l m:G O},x∈Q5 l m→x∈l∨x∈m
 | [],m,h=> .inr h
 | y::l,m,h=>by
  simp only[Q5,List.foldr_cons] at h;split at h
  ·rcases Pz (l:=l) h with h|h
   ·exact .inl (by simp[h])
   ·exact .inr h
  ·rcases List.mem_cons.1 h with h|h
   ·exact .inl (by simp[h])
   ·rcases Pz (l:=l) h with h|h
    ·exact .inl (by simp[h])
    ·exact .inr h
theorem TM{acc:G (G O)}{x:O}:∀{ws:G O},x∈Di acc ws→∃j∈ws,x=j∨x∈acc.getD j []
 | [],h=>by simp[Di] at h
 | j::r,h=>by
  simp only[Di] at h;rcases Pz h with h|h
  ·exact⟨j,by simp,List.mem_cons.1 h⟩
  ·obtain⟨k,hk,h⟩:=TM h;exact⟨k,by simp[hk],h⟩
theorem Od{ops:Array Oper}:∀(l:G Oper) (acc:G (G O)),ops.toList.drop acc.length=l→(∀i,Qx ops i (acc.getD i []))→∀i,Qx ops i ((B6 l acc).getD i [])
 | [],acc,_,h=>h
 | o::r,acc,hl,h=>by
  have ho:ops[acc.length]?=E o:=by
   have:(ops.toList.drop acc.length)[0]?=E o:=by rw[hl]; rfl
   simpa using this
  refine Od r (acc++ [Di acc (waits o)]) ?_ fun i=> ?_
  ·have:ops.toList.drop (acc.length+1)=r:=by rw[← List.drop_drop,hl]; rfl
   simpa using this
  ·by_cases hi:i<acc.length
   ·have e:(acc++ [Di acc (waits o)]).getD i []=acc.getD i []:=by simp[zA,List.getElem?_append_left hi]
    rw[e];exact h i
   ·by_cases hi2:i=acc.length
    ·subst hi2;have e:(acc++ [Di acc (waits o)]).getD acc.length []=Di acc (waits o):=by simp[zA]
     rw[e];intro L hL hw x hx;obtain⟨j,hj,hx⟩:=TM hx;have hLj:=hw o ho j hj;rcases hx with rfl|hx
     ·exact hLj
     ·exact h j L hL (fun o' ho' k hk=>hL j o' ho' hLj k hk) x hx
    ·have e:(acc++ [Di acc (waits o)]).getD i []= []:=by
      rw[zA,List.getElem?_eq_none (by simp; omega)]; rfl
     rw[e];intro L _ _ x hx;simp at hx
def Ah(listed:Array Bool)(i:O):Prop:=listed.getD i F=T
theorem DC{ops:Array Oper}{listed:Array Bool}{i:O}:i∈Region.ready .any ops listed↔i<ops.size∧listed.getD i T=F∧∀o,ops[i]?=E o→∀j∈waits o,Ah listed j:=by
 unfold Region.ready;simp only[zB,zE,U,W];constructor
 ·rintro⟨h1,h2,h3⟩
  refine⟨h1,h2,fun o ho j hj=> ?_⟩;simp only[ho,Option.map_some,Option.getD_some,Array.all_eq_true'] at h3
  simp only[waits,List.mem_map,zB] at hj
  obtain⟨e,⟨he,hb⟩,rfl⟩:=hj;have:=h3 e (by simpa using he);simpa[hb,Ah] using this
 ·rintro⟨h1,h2,h3⟩
  refine⟨h1,h2,?_⟩;have ho:=Array.getElem?_eq_getElem h1;simp only[ho,Option.map_some,Option.getD_some,Array.all_eq_true'];intro e he;by_cases hb:Region.binds .any e=T
  ·have:=h3 _ ho e.on (by simp only[waits,List.mem_map,zB]; exact⟨e,⟨by simpa using he,hb⟩,rfl⟩);rw[hb,show listed.getD e.on F=T from this];rfl
  ·simp[hb]
theorem DB{listed:Array Bool}{i:O}(h:i<listed.size):listed.getD i T=F↔¬Ah listed i:=by
 simp[Ah,Array.getD,h]
theorem Fp{listed:Array Bool}{i:O}(h:i<listed.size)(j:O):Ah (listed.setIfInBounds i T) j↔(Ah listed j∨j=i):=by
 unfold Ah;rw[Array.getD_eq_getD_getElem?,Array.getD_eq_getD_getElem?,Array.getElem?_setIfInBounds];by_cases hij:i=j
 ·subst hij; simp[h]
 ·rw[if_neg hij];have:j≠i:=fun e=>hij e.symm
  simp[this]
structure DrawOk (P:Program) (nt:O) (ops:Array Oper) (its:G AItem) (ds:G AO):Prop where
 items:∃its0,Bl P nt ops ops.toList=E its0∧∃f:AItem→AItem,its=its0.map f∧∀it,(f it).1=it.1∧Zed it.2 (f it).2
 back:∀(i:O) (o:Oper),ops[i]?=E o→∀j∈waits o,j<i
 dist:∀(i j:O) (it jt:AItem) (d:O),its[i]?=E it→its[j]?=E jt→i≠j→it.2.gentle=T→jt.2.gentle=T→it.2.dst=E d→jt.2.dst=E d→False
 draw:HK (B6 ops.toList []) its 0 its=E ds
theorem Qe:∀{l:G Oper} {k:O},Hq k l=T→∀(i:O) (o:Oper),l[i]?=E o→∀j∈waits o,j<k+i
 | [],_,_,i,o,h=>by simp at h
 | x::l,k,hw,0,o,h=>by
  simp at h;subst h;simp only[Hq,U,Z,decide_eq_true_eq] at hw
  exact fun j hj=>hw.1 j hj
 | x::l,k,hw,i+1,o,h=>by
  simp at h;simp only[Hq,U] at hw
  intro j hj;have:=Qe hw.2 i o h j hj;omega
theorem OA{f:AItem→Option O}:∀{its:G AItem},HI (its.filterMap f)=T→∀(i j:O) (it jt:AItem) (d:O),its[i]?=E it→its[j]?=E jt→i<j→f it=E d→f jt=E d→False
 | [],_,i,j,it,jt,d,h1,_,_,_,_=>by simp at h1
 | x::l,h,0,j+1,it,jt,d,h1,h2,_,h3,h4=>by
  simp at h1 h2
  subst h1;simp only[zC,h3,HI,U,W,I,decide_eq_false_iff_not] at h;exact h.1 (List.mem_filterMap.2 ⟨jt,List.mem_of_getElem? h2,h4⟩)
 | x::l,h,i+1,j+1,it,jt,d,h1,h2,hij,h3,h4=>by
  simp at h1 h2
  have h':HI (l.filterMap f)=T:=by
   cases hx:f x with
   | none=>simpa[zC,hx] using h
   | some d'=>
    simp only[zC,hx,HI,U] at h;exact h.2
  exact OA h' i j it jt d h1 h2 (by omega) h3 h4
 | x::l,_,i,0,_,_,_,_,_,hij,_,_=>by omega
theorem be{P:Program}{nt:O}{ops:Array Oper}{ds:G AO}(h:Jk P nt ops=E ds):∃its,DrawOk P nt ops its ds:=by
 unfold Jk at h;split at h
 ·rename_i its0 BY
  have key:∀its,Me ops its=E ds→(∃f:AItem→AItem,its=its0.map f∧∀it,(f it).1=it.1∧Zed it.2 (f it).2)→∃its,DrawOk P nt ops its ds:=by
   intro its h hf;unfold Me at h;split at h
   ·rename_i hc
    simp only[U] at hc
    refine⟨its,⟨its0,BY,hf⟩,fun i o ho j hj=> ?_,fun i j it jt d h1 h2 hij g1 g2 d1 d2=> ?_,h⟩
    ·have:=Qe hc.1 i o (by simpa using ho) j hj;omega
    ·rcases Nat.lt_or_gt_of_ne hij with hlt|hlt
     ·exact OA hc.2 i j it jt d h1 h2 hlt (by simp[g1,d1]) (by simp[g2,d2])
     ·exact OA hc.2 j i jt it d h2 h1 hlt (by simp[g2,d2]) (by simp[g1,d1])
   ·cases h
  split at h
  ·rename_i ds' hd
   cases h;exact key its0 hd ⟨fun it=>it,by simp,fun it=>⟨rfl,.refl⟩⟩
  ·exact key _ h ⟨LR (Wl its0),rfl,uZ _⟩
 ·cases h
theorem Jl{P:Program}{nt:O}{ops:Array Oper}:∀{l:G Oper} {its:G AItem},Bl P nt ops l=E its→its.length=l.length∧∀(i:O) (o:Oper),l[i]?=E o→∃it,its[i]?=E it∧FP P nt ops o=E it
 | [],its,h=>by simp[Bl] at h; subst h; exact⟨rfl,fun i o h=>by simp at h⟩
 | o::l,its,h=>by
  simp only[Bl] at h;split at h
  ·rename_i i is h1 h2
   cases h;obtain⟨h3,h4⟩:=Jl h2;refine⟨by simp[h3],fun k o' hk=> ?_⟩;cases k with
   | zero=>simp at hk; subst hk; exact⟨i,rfl,h1⟩
   | succ k=>simp at hk; simpa using h4 k o' hk
  ·cases h
theorem OC{an:G (G O)}{its:G AItem}:∀{l:G AItem} {k:O} {ds:G AO},HK an its k l=E ds→ds.length=l.length∧∀(i:O) (it:AItem),l[i]?=E it→∃x,ds[i]?=E x∧HJ an its (k+i) it=E x
 | [],k,ds,h=>by simp[HK] at h; subst h; exact⟨rfl,fun i o h=>by simp at h⟩
 | o::l,k,ds,h=>by
  simp only[HK] at h;split at h
  ·rename_i x xs h1 h2
   cases h;obtain⟨h3,h4⟩:=OC h2;refine⟨by simp[h3],fun i it hi=> ?_⟩;cases i with
   | zero=>simp at hi; subst hi; exact⟨x,rfl,h1⟩
   | succ i=>
    simp at hi
    obtain⟨y,h5,h6⟩:=h4 i it hi;exact⟨y,by simpa using h5,by rw[show k+(i+1)=k+1+i by omega]; exact h6⟩
  ·cases h
section
variable {P : Program} {nt : O} {ops : Array Oper} {its : G AItem} {ds : G AO}
theorem DrawOk.sizes(H:DrawOk P nt ops its ds):its.length=ops.size∧ds.length=ops.size:=by
 obtain⟨its0,h0,f,rfl,_⟩:=H.items;obtain⟨h1,_⟩:=Jl h0;obtain⟨h2,_⟩:=OC H.draw;simp at h1 h2 ⊢
 omega
theorem DrawOk.at(H:DrawOk P nt ops its ds){i:O}{x:AO}(hx:ds[i]?=E x):∃o,ops[i]?=E o∧its[i]?=E x.2∧LW P nt ops o x.2∧HJ (B6 ops.toList []) its i x.2=E x:=by
 obtain⟨s1,s2⟩:=H.sizes;obtain⟨its0,h0,f,hf,hz⟩:=H.items;obtain⟨_,h1⟩:=Jl h0;obtain⟨_,h2⟩:=OC H.draw;have hi:i<ds.length:=(zD.1 hx).1;obtain⟨o,ho⟩:∃o,ops[i]?=E o:=⟨_,Array.getElem?_eq_getElem (by omega:i<ops.size)⟩;obtain⟨it0,hit0,hc0⟩:=h1 i o (by simpa using ho);have hit:its[i]?=E (f it0):=by rw[hf]; simp[hit0]
 have hc:LW P nt ops o (f it0):=⟨it0.2,by rw[(hz it0).1]; exact hc0,(hz it0).2⟩;generalize f it0=it at hit hc
 obtain⟨y,hy,hd⟩:=h2 i it hit;rw[hx] at hy
 cases hy;rw[Nat.zero_add] at hd
 have e:x.2=it:=by
  unfold HJ at hd
  simp only at hd
  split at hd
  ·split at hd<;>cases hd
   rfl
  ·split at hd<;>cases hd
   rfl
 subst e;exact⟨_,ho,hit,hc,hd⟩
theorem DrawOk.gentle(H:DrawOk P nt ops its ds){i:O}{N:G O}{it:AItem}(hx:ds[i]?=E (E N,it)):it.2.gentle=T∧
  ∀(j:O) (jt:AItem),its[j]?=E jt→Bh (B6 ops.toList []) i j=T→∀d,jt.2.dst=E d→d∉it.slots∧(jt.2.maker=T→d∈N):=by
 obtain⟨o,_,hit,_,hd⟩:=H.at hx;unfold HJ at hd
 simp only at hd
 split at hd
 ·rename_i hg
  split at hd
  ·rename_i hall
   simp only[Option.some.injEq,Prod.mk.injEq,and_true] at hd
   refine⟨(by simp only[U] at hg; exact hg.1),fun j jt hj hinc d hdj=> ?_⟩;have hjl:j<its.length:=(zD.1 hj).1;have hjm:j∈(List.range its.length).filter (Bh (B6 ops.toList []) i):=zB.2 ⟨by simpa using hjl,hinc⟩;have:=Z.1 hall j hjm;simp only[hj,hdj,W,I,decide_eq_false_iff_not] at this
   refine⟨this,fun hm=> ?_⟩;subst hd;exact List.mem_filterMap.2 ⟨j,hjm,by simp[hj,hm,hdj]⟩
  ·cases hd
 ·split at hd<;>cases hd
theorem DrawOk.bar(H:DrawOk P nt ops its ds){i:O}{it:AItem}(hx:ds[i]?=E (none,it)) :
  ∃J:G O,(∀j∈J,j<i∧∃jt,its[j]?=E jt∧IE jt it=T)∧(∀l,l<ops.size→l∉J→Bh (B6 ops.toList []) i l=F)∧∀l,i<l→l<ops.size→∀j∈J,j∈(B6 ops.toList []).getD l []:=by
 obtain⟨o,_,hit,_,hd⟩:=H.at hx;unfold HJ at hd
 simp only at hd
 split at hd
 ·split at hd<;>cases hd
 ·split at hd
  ·rename_i he
   unfold TD at he
   simp only[U,Z,decide_eq_true_eq] at he
   obtain⟨h1,h2⟩:=he;refine⟨(List.range its.length).filter (Bh (B6 ops.toList []) i),fun j hj=> ?_,fun l hl hn=> ?_,fun l hil hl j hj=> ?_⟩
   ·obtain⟨k1,k2⟩:=h1 j hj;split at k2
    ·rename_i jt hjt
     exact⟨k1,jt,hjt,k2⟩
    ·cases k2
   ·cases hb:Bh (B6 ops.toList []) i l with
    | false=>rfl
    | true=>exact absurd (zB.2 ⟨by rw[zE,H.sizes.1]; exact hl,hb⟩) hn
   ·have:=h2 l (by rw[zE,H.sizes.1]; exact hl);simp only[Bool.or_eq_true,decide_eq_true_eq,Z,I] at this
    rcases this with h|h
    ·omega
    ·exact h j hj
  ·cases hd
theorem FJ(H:DrawOk P nt ops its ds){i x:O}(hx:x∈(B6 ops.toList []).getD i []):x<i:=by
 refine Od ops.toList [] (by simp) (fun i=>by intro L _ _ x hx; simp at hx) i (· < i) (fun k o ho hk j hj=> ?_) (fun o ho j hj=>H.back i o ho j hj) x hx;have:=H.back k o ho j hj;simp only at hk ⊢
 omega
theorem EG{listed:Array Bool}(hcl:Cg ops (Ah listed)){i x:O}(hw:∀o,ops[i]?=E o→∀j∈waits o,Ah listed j)(hx:x∈(B6 ops.toList []).getD i []):Ah listed x:=
 Od ops.toList [] (by simp) (fun i=>by intro L _ _ x hx; simp at hx) i (Ah listed) hcl hw x hx
theorem H3{an:G (G O)}{i j:O}(h:Bh an i j=F)(hne:i≠j):j∈an.getD i []∨i∈an.getD j []:=by
 unfold Bh at h;simp only[Bool.and_eq_false_iff,bne_eq_false_iff_eq,Bool.not_eq_false',I,decide_eq_true_eq] at h;rcases h with (h|h)|h
 ·exact absurd h hne
 ·exact .inl h
 ·exact .inr h
theorem iM{an:G (G O)}{i j:O}(h:Bh an i j=T):Bh an j i=T:=by
 unfold Bh at h ⊢
 simp only[U,bne_iff_ne,ne_eq,W] at h ⊢
 exact⟨⟨fun e=>h.1.1 e.symm,h.2⟩,h.1.2⟩
end
end Go.Vi
