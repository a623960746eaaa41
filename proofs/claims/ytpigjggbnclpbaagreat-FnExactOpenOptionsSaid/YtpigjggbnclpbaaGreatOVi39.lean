/-
The value level. No condition.
-/
import Derived.Test.YtpigjggbnclpbaaGreatOVi38
namespace Go.Vi
set_option linter.all false
open List renaming mem_of_getElem? → G
open Option renaming some → T
open _root_ renaming List → F, Option → E
def O7(w w':World)(A:AY)(p:Nat)(bs:F (E Nat)):A6:=Af (fun b fr=>(T b∉bs∧b≠p)∧((w.heap.size≤b∧fr=(0,0))∨A b fr)) w'
def FCo(P:Program)(f:FuncId)(xs:F YV)(cs0 cs1:F D)(rs:F R1):Prop:=
 ∀(w:World) (A:AY) (p:Nat) (vs:F Value),(∀w2,BelowX w.heap.size (.of w (BT p)) w2→GoodW w2)→p<w.heap.size→(∀fr,¬A p fr)→Ht (Af A w) w p cs0→YVRels (Af A w) p xs vs→Calls P f vs.toArray w fun e w'=>
  ∃(v:Value) (bs:F (E Nat)),e= .returned v∧BelowX w.heap.size (.of w (BT p)) w'∧Ht (O7 w w' A p bs) w' p cs1∧RRel (O7 w w' A p bs) w' rs v bs∧
   (∀b,T b∈bs→w.heap.size≤b∧b<w'.heap.size)∧(∀(i j b:Nat),bs[i]?=T (T b)→bs[j]?=T (T b)→i=j)
section
variable {P : Program} {A : Ar} {B : Nat} {w0 : Base} {w : World} {nm : Ad} {σ : St} {tmps : Array Value}
theorem FCo.callC{f:FuncId}{xs:F YV}{cs0 cs1:F D}{rs:F R1}(H:FCo P f xs cs0 cs1 rs){id d:Nat}{avs:F AV}(hx:D1 id avs=T xs)(hb:A1 σ.bx id=T (cs0.map .dat))(hf:σ.fresh d=true)(h64:(rs.flatMap R1.cells).length≤64) :
  CallC P f avs σ {σ with bx:=put σ.bx id (cs1.map .dat),rows:=B7 σ.rows (Bq d rs)} (Bt d rs):=by
 intro A B w0 w nm tmps vs R hvs;obtain⟨p,C,t,h1,h2,h3⟩:=R.bxs id _ hb;have h1':nm (2*id)=T p:=h1;have hpl:=(R.names _ _ h1').2;obtain⟨k1,k2⟩:=CRels.reps h3;refine(H w (fun b fr=>(∀i,nm i≠T b)∧A b fr) p vs (fun w2 hb2=>R.good w2 (R.below.after hb2 R.size R.there fun i b e=> ?_)) hpl (fun _ h=>h.1 _ h1') ⟨C,t,h2,by rw[D2]; exact k1,k2⟩ (by rw[D2]; exact NS h1' hvs hx)).mono fun e w' h=> ?_
 ·obtain⟨_,rfl⟩:=Fv e;exact(R.names _ _ h1').1
 obtain⟨v,bs,rfl,g1,g2,g3,hn,hdis⟩:=h
 have hM:∀b,Base.M (.of w (BT p)) b→b=p:=fun b hmm=>by
  obtain⟨i,_,e⟩:=Base.of_M hmm;exact(Fv e).2.symm
 have hsame:∀b,b<w.heap.size→b≠p→w'.heap[b]?=w.heap[b]?:=fun b hlt h=>g1.block b hlt (fun hm=>h (hM b hm)) fun hv=>hv.elim
 have hsz:w.heap.size≤w'.heap.size:=g1.size;have hpw:p<w'.heap.size:=Nat.lt_of_lt_of_le hpl hsz;let w1:World:={w' with heap:=w'.heap.setIfInBounds p (w.heap[p])}
 have hw1:∀b,b≠p→w1.heap[b]?=w'.heap[b]?:=fun b hb=>by
  show(w'.heap.setIfInBounds p _)[b]?=_
  rw[Array.getElem?_setIfInBounds_ne (Ne.symm hb)]
 have hw1p:w1.heap[p]?=w.heap[p]?:=by
  show(w'.heap.setIfInBounds p _)[p]?=_
  rw[Array.getElem?_setIfInBounds_self_of_lt hpw,Array.getElem?_eq_getElem hpl]
 have hw1s:w1.heap.size=w'.heap.size:=by show(w'.heap.setIfInBounds p _).size=_; simp
 have hbel:RowKit.Below w.heap.size w w1:=⟨g1.os,g1.tape,g1.output,by rw[hw1s]; exact hsz,fun k hk=>by
  by_cases hkp:k=p
  ·subst hkp; exact hw1p
  ·rw[hw1 k hkp]; exact hsame k hk hkp⟩
 let inst:Ad:=fun n=>if n % 2=1 then(bs[(n / 2) % 64]?).join else none
 have hinst:∀n b,inst n=T b→n % 2=1∧bs[(n / 2) % 64]?=T (T b):=by
  intro n b h;simp only[inst] at h;split at h
  ·rename_i h1
   refine⟨h1,?_⟩;cases hq:bs[(n / 2) % 64]? with
   | none=>rw[hq] at h; cases h
   | some q=>rw[hq] at h; simp at h; rw[h]
  ·cases h
 have hl:=g3.len
 have R1:=R.grow hf hbel inst (B7 σ.rows (Bq d rs)) (fun n b _ h=>by rw[hw1s]; exact hn b (G (hinst n b h).2)) (fun n m b h1 h2 h3 h4=>by
   obtain⟨k1,k2⟩:=hinst n b h3;obtain⟨k3,k4⟩:=hinst m b h4;have:=hdis _ _ _ k2 k4;unfold BF at h1 h2
   omega) (fun id hid=>MX _ _ _ _ _ (by omega) hid)
 have hfew:=St.fresh_few hf;have hne:id≠d:=St.fresh_bx hf hb
 have hp1:AF d inst nm (2*id)=T p:=by
  unfold AF;rw[if_neg (by unfold BF; omega)];exact h1'
 have hname:∀b,(T b∉bs∧b≠p)→∀i,(∀j,nm j≠T b)∨w.heap.size≤b→AF d inst nm i≠T b:=fun b hb i hor=>by
  unfold AF;split
  ·intro e; exact hb.1 (G (hinst i b e).2)
  ·intro e;rcases hor with h|h
   ·exact h i e
   ·have:=(R.names i b e).2; omega
 have hview:∀b C,O7 w w' (fun b fr=>(∀i,nm i≠T b)∧A b fr) p bs b C→(∀i,AF d inst nm i≠T b)∧∃c t fr,(b≠p∧A b fr)∧w'.heap[b]?=T (.cells c t fr)∧c.toList=C:=by
  rintro b C ⟨cc,tt,fr,⟨q1,q2⟩,q3⟩
  rcases q2 with ⟨q2,rfl⟩|q2
  ·exact⟨fun i=>hname b q1 i (.inr q2),cc,tt,_,⟨q1.2,R.all.all b (.inl (Nat.le_trans R.size q2))⟩,q3⟩
  ·exact⟨fun i=>hname b q1 i (.inl q2.1),cc,tt,fr,⟨q1.2,q2.2⟩,q3⟩
 obtain⟨C1,t1,e1,e2,e3⟩:=g2
 have hbx1:BelowX w1.heap.size (.of w1 (BT p)) w':=by
  refine⟨rfl,rfl,rfl,by rw[show(Base.of w1 (BT p)).w=w1 from rfl,hw1s]; exact Nat.le_refl _,fun k hk hm _=> ?_,fun k hm C t fr hC=> ?_,fun k hv=>hv.elim,fun k hv=>hv.elim⟩
  ·have hkp:k≠p:=fun e=>hm (.inl ⟨199999999998,by unfold Av; omega,by rw[e]; exact(show BT p 199999999998=T p from if_pos rfl)⟩)
   exact(hw1 k hkp).symm
  ·obtain⟨i,_,e⟩:=Base.of_M hm;obtain⟨_,rfl⟩:=Fv e;have hC':w.heap[p]?=T (.cells C t fr):=hw1p.symm.trans hC;exact g1.room p (.inl ⟨199999999998,by unfold Av; omega,(show BT p 199999999998=T p from if_pos rfl)⟩) C t fr hC'
 have R2:=R8 R1 hp1 hbx1 ⟨C1,t1,e1,e2.mono fun b C hb2=>by
   obtain⟨q1,cc,tt,fr,q2,q3⟩:=hview b C hb2;exact⟨cc,tt,fr,⟨q2.1,.inr ⟨q1,q2.2⟩⟩,q3⟩,e3⟩
 refine⟨v,AF d inst nm,rfl,R2,?_⟩;refine Pd (g3.conv fun c _=> .inl fun b C hb2=> ?_) fun i=>⟨fun sz es e=> ?_,fun b e=> ?_⟩
 ·obtain⟨q1,cc,tt,fr,q2,q3⟩:=hview b C hb2;exact⟨q1,cc,tt,fr,q2.2,q3⟩
 ·exact MW _ _ _ _ _ _ _ e
 ·have hi:i<64:=by have:=(List.getElem?_eq_some_iff.1 e).1; omega
  show AF d inst nm (2*(d*64+(0+i))+1)=b
  unfold AF;rw[if_pos (.inr (by omega))];simp only[inst];rw[if_pos (by omega),show(2*(d*64+(0+i))+1) / 2 % 64=i by omega,e];rfl
end
section
variable {P : Program}
end
def RC.asV:RC→RC
 | .v d=> .v d
 | .o _ es=> .v (.sl es)
def R1.asV:R1→R1
 | .sc c=> .sc c.asV
 | .ag cs=> .ag (cs.map RC.asV)
theorem RCRel.asV{h h':A6}{w:World}{c:RC}{v:Value}{b:E Nat}(H:RCRel h w c v b)(hh:∀b C,h b C→h' b C)(hb:∀k,b=T k→∀C t,w.heap[k]?=T (.cells C t (0,0))→h' k C.toList):RCRel h' w c.asV v none:=by
 cases H with
 | v hd=>exact .v (hd.mono hh)
 | nil=>exact .v .nil
 | o own hl=>
  obtain⟨pos,room,small,C,t,h1,h2,h3⟩:=own;exact .v (.sl (hb _ rfl C t h1) pos (by simpa using h3.mono hh) hl (by omega) small)
theorem RCRels.asV{h h':A6}{w:World}(hh:∀b C,h b C→h' b C):∀{cs:F RC} {vs:F Value} {bs:F (E Nat)},RCRels h w cs vs bs→(∀k,T k∈bs→∀C t,w.heap[k]?=T (.cells C t (0,0))→h' k C.toList)→RCRels h' w (cs.map RC.asV) vs (bs.map fun _=>none)
 | _,_,_,.nil,_=> .nil
 | _,_,_,.cons a b,hb=> .cons (a.asV hh fun k e=>hb k (by rw[e]; exact List.mem_cons_self)) (RCRels.asV hh b fun k hk=>hb k (List.mem_cons_of_mem _ hk))
theorem R1Rel.asV{h h':A6}{w:World}(hh:∀b C,h b C→h' b C){r:R1}{v:Value}{bs:F (E Nat)}(H:R1Rel h w r v bs)(hb:∀k,T k∈bs→∀C t,w.heap[k]?=T (.cells C t (0,0))→h' k C.toList):R1Rel h' w r.asV v (bs.map fun _=>none):=by
 cases H with
 | sc a=>exact .sc (a.asV hh fun k e=>hb k (by rw[e]; exact List.mem_cons_self))
 | ag a=>exact .ag (a.asV hh hb)
theorem R1Rels.asV{h h':A6}{w:World}(hh:∀b C,h b C→h' b C):∀{rs:F R1} {vs:F Value} {bs:F (E Nat)},R1Rels h w rs vs bs→(∀k,T k∈bs→∀C t,w.heap[k]?=T (.cells C t (0,0))→h' k C.toList)→R1Rels h' w (rs.map R1.asV) vs (bs.map fun _=>none)
 | _,_,_,.nil,_=> .nil
 | _,_,_,.cons a b,hb=>by
  rw[List.map_append];exact .cons (a.asV hh fun k hk=>hb k (List.mem_append_left _ hk)) (R1Rels.asV hh b fun k hk=>hb k (List.mem_append_right _ hk))
theorem RRel.asV{h h':A6}{w:World}(hh:∀b C,h b C→h' b C){rs:F R1}{v:Value}{bs:F (E Nat)}(H:RRel h w rs v bs)(hb:∀k,T k∈bs→∀C t,w.heap[k]?=T (.cells C t (0,0))→h' k C.toList):RRel h' w (rs.map R1.asV) v (bs.map fun _=>none):=by
 cases H with
 | one a=>exact .one (a.asV hh hb)
 | many h a=>exact .many (by simpa using h) (a.asV hh hb)
theorem Fu{bs:F (E Nat)}{b:Nat}:T b∉bs.map fun _=>(none:E Nat):=by simp
theorem FC.asV{P:Program}{f:FuncId}{ds:F DV}{rs rs':F R1}(H:FC P f ds rs)(e:rs.map R1.asV=rs'):FC P f ds rs':=by
 subst e;intro w A vs hG hvs;refine(H w A vs hG hvs).mono fun e w' h=> ?_
 obtain⟨v,bs,rfl,h2,h3,h4,_⟩:=h;refine⟨v,bs.map fun _=>none,rfl,h2,h3.asV (fun b C ⟨c,t,fr,⟨_,k2⟩,k3⟩=>⟨c,t,fr,⟨Fu,k2⟩,k3⟩) (fun k hk C t hC=>⟨C,t,_,⟨Fu,.inl ⟨(h4 k hk).1,rfl⟩⟩,hC,rfl⟩),fun b hb=>absurd hb Fu,fun i j b hi _=> ?_⟩;have:=G hi;exact absurd this Fu
end Go.Vi
