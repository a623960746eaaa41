/-
Plain laws. No condition.
-/
import Derived.Test.YtfoohbeloilepaaGreatDD8c
namespace Go.Vi
set_option linter.all false
open Option renaming bind_some → U, some → N
open List renaming getElem_mem → V, getElem?_eq_getElem → X, take_succ_eq_append_getElem → Z, length_filter_le → C, pairwise_iff_getElem → I, range → zA, take_of_length_le → zB, any_eq_false → zC, drop_eq_getElem_cons → zD, mem_of_find?_eq_some → zE, length_cons → zG, append_nil → zH, length_map → zI
open Nat renaming zero_le → W, le_trans → zF
open Int renaming ofNat_lt → Y
open Bool renaming true → T, false → E
open _root_ renaming List → O, Int → P, Nat → Q
def E4(cs:O Xb)(k:Q):Xb:=cs[k]?.getD ⟨0,0,0,0,0⟩
def BS(cs:O Xb)(l:O Q):O Xb:=l.map (E4 cs)
theorem lP{cs:O Xb}{k:Q}(h:k<cs.length):ix cs (k:P)=N (E4 cs k):=by rw[Ac h,E4,X h]; rfl
theorem lQ{cs:O Xb}{k:Q}(h:k<cs.length):E4 cs k∈cs:=by rw[E4,X h]; exact V h
section
variable {h : X5} {cs : O Xb}
def PX(cs:O Xb):Prop:=cs.Pairwise fun a b=>(a.Ship==b.Ship)=E
theorem Wm:PX cs↔∀i (hi:i<cs.length),((cs.take i).any fun x=>x.Ship==cs[i].Ship)=E:=by
 unfold PX;rw[I];constructor
 ·intro H i hi;rw[zC];intro x hx;obtain⟨j,hj,rfl⟩:=List.getElem_of_mem hx;simp only[List.length_take] at hj
  rw[List.getElem_take,H j i (by omega) hi (by omega)];simp
 ·intro H i j hi hj hij
  have:=zC.1 (H j hj) cs[i] (by
   rw[List.mem_iff_getElem];exact⟨i,by simp; omega,by rw[List.getElem_take]⟩)
  simpa using this
theorem WF(s:HSmall h)(hh:AT h=T)(h6:cs.length≤6):∃b,CZ h cs=N b∧(b=T↔(∀a∈cs,BE h a=T)∧PX cs):=by
 unfold CZ;rw[Ub s,hh,U,if_pos rfl,if_neg (by rw[decide_eq_true_eq]; omega)];have hl:cs.length≤maxLen:=Af (by omega)
 have:=B9 (fun n i=>∃b,CM cs h n (i:P)=N b∧(b=T↔∀j (hj:j<cs.length),i≤j→BE h cs[j]=T∧((cs.take j).any fun x=>x.Ship==cs[j].Ship)=E)) hl (fun n=>⟨T,by simp[CM],⟨fun _ j h1 h2=>by omega,fun _=>rfl⟩⟩) (fun n i hi ih=>by
  obtain⟨b,e1,e2⟩:=ih;rw[CM];simp only[Ag,hi,decide_true,if_true,Ac hi,U,RL,E3 (Nat.le_of_lt hi),List.drop_zero,Nat.sub_zero];cases hok:BE h cs[i] with
  | false=>exact⟨E,rfl,(fun h=>by cases h),fun K=>by have:=(K i hi (Nat.le_refl _)).1; rw[hok] at this; cases this⟩
  | true=>
   simp only[if_true]
   have e:=Ex (L:=DG cs (i:P) h cs[i] (cs.take i) ((cs.take i).length:P) (CM cs h n)) (cs.take i) (fun x=>x.Ship==cs[i].Ship) (N E) (CM cs h n (IntKind.i64.wrap ((i:P)+1))) (Af (by simp; omega)) (fun m j hj=>by
    rw[DG];simp only[Ag,hj,decide_true,if_true,Ac hj,U]) fun m=>by rw[DG,if_neg (by simp)]
   rw[e,Am hi hl,e1];cases ha:(cs.take i).any fun x=>x.Ship==cs[i].Ship with
   | true=>exact⟨E,rfl,(fun h=>by cases h),fun K=>by have:=(K i hi (Nat.le_refl _)).2; rw[ha] at this; cases this⟩
   | false=>
    refine⟨b,rfl,e2.trans ⟨fun K j h1 h2=> ?_,fun K j h1 h2=>K j h1 (by omega)⟩⟩;by_cases hji:j=i
    ·subst hji; exact⟨hok,ha⟩
    ·exact K j h1 (by omega)) (W _)
 obtain⟨b,e1,e2⟩:=this;refine⟨b,e1,e2.trans ⟨fun K=>⟨fun a ha=> ?_,Wm.2 fun i hi=>(K i hi (W _)).2⟩,fun K j hj _=>⟨K.1 _ (V hj),Wm.1 K.2 j hj⟩⟩⟩;obtain⟨j,hj,rfl⟩:=List.getElem_of_mem ha;exact(K j hj (W _)).1
def F8(n:Q)(l:O Q):Prop:=l.Pairwise (· < ·)∧(∀k∈l,k<n)∧l.length<7
theorem bU(s:HSmall h)(hh:AT h=T)(hok:CZ h cs=N T)(h6:cs.length≤6){l:O Q}(hl:F8 cs.length l):CZ h (BS cs l)=N T∧(BS cs l).length≤6∧∀a∈BS cs l,BE h a=T:=by
 obtain⟨b,b1,b2⟩:=WF s hh h6;rw[b1,Option.some.injEq] at hok
 obtain⟨c1,c2⟩:=b2.1 hok;obtain⟨l1,l2,l3⟩:=hl;have n6:(BS cs l).length≤6:=by simp[BS]; omega
 have ok:∀a∈BS cs l,BE h a=T:=fun a ha=>by
  obtain⟨k,hk,rfl⟩:=List.mem_map.1 ha;exact c1 _ (lQ (l2 k hk))
 obtain⟨d,d1,d2⟩:=WF s hh n6;refine⟨?_,n6,ok⟩;rw[d1,d2.2 ⟨ok,?_⟩];unfold PX BS;rw[List.pairwise_map];refine List.Pairwise.imp_of_mem (fun{a b} ha hb hab=> ?_) l1;have:=I.1 c2 a b (l2 a ha) (l2 b hb) hab;rw[E4,E4,X (l2 a ha),X (l2 b hb)];exact this
theorem vB{l:O Q}(hl:F8 cs.length l):N1 cs (iN l)=N T:=by
 obtain⟨l1,l2,l3⟩:=hl;unfold N1;have e:(iN l).length=l.length:=by simp
 refine B9 (fun n i=>Gw cs (iN l) n (i:P)=N T) (Af (n:=l.length) (by omega)) (fun n=>by rw[Gw,if_neg (by simp)]) (fun n i hi ih=> ?_) (W _);have hi':i<(iN l).length:=by omega
 have ei:(iN l)[i]=(l[i]:P):=by simp
 have hx:idx ((l[i]:Q):P) cs.length=T:=Ha.2 (by have:=l2 _ (V hi); omega);rw[Gw,if_pos (decide_eq_true (Y.2 hi')),Ac hi',U,ei,DO,hx,U,if_pos rfl,Am hi (Af (by omega))];by_cases h0:(0:P)<(i:P)
 ·have ew:IntKind.i64.wrap ((i:P) - 1)=((i - 1:Q):P):=by rw[Ao (by omega) (by omega)]; omega
  have hp:i - 1<(iN l).length:=by omega
  have ep:(iN l)[i - 1]=(l[i - 1]:P):=by simp
  have hlt:=I.1 l1 (i - 1) i (by omega) hi (by omega);rw[if_pos (decide_eq_true h0),ew,Ac hp,U,ep,if_neg (by simp; omega)];exact ih
 ·rw[if_neg (by simpa using h0)];exact ih
theorem A0i{l:O Q}(hl:F8 cs.length l):MN cs (iN l)=N (BS cs l):=by
 obtain⟨l1,l2,l3⟩:=hl;unfold MN;rw[vB ⟨l1,l2,l3⟩,U,if_pos rfl];have e:(iN l).length=l.length:=by simp
 refine B9 (fun n i=>I7 cs (iN l) n (i:P) ((BS cs l).take i)=N (BS cs l)) (Af (n:=l.length) (by omega)) (fun n=>by rw[I7,if_neg (by simp),zB (by simp[BS])]) (fun n i hi ih=> ?_) (W _);have hi':i<(iN l).length:=by omega
 have ei:(iN l)[i]=(l[i]:P):=by simp
 have hs:i<(BS cs l).length:=by simpa[BS] using hi
 have es:(BS cs l)[i]=E4 cs l[i]:=by simp[BS]
 rw[I7,if_pos (decide_eq_true (Y.2 hi')),Ac hi',U,ei,lP (l2 _ (V hi)),U,if_pos (AP (by simp; omega) (by simp) (by omega)),Am hi (Af (by omega)),← es,← Z hs];exact ih
variable {cl : O X9}
def B5(h:X5)(cl:O X9)(a:Xb):O X0:=(UD h a).filter fun o=> !Hy o cl
theorem Sg(s:HSmall h)(hh:AT h=T)(hc:Dl h.Chart cl=T){a:Xb}(ha:BE h a=T):O7 h a cl=N (B5 h cl a)∧MG h a cl=N (B5 h cl a)∧(B5 h cl a).length≤8∧GoodC h (B5 h cl a):=by
 obtain⟨L,l1,l2,l3,l4⟩:=xa s hh ha;have el:UD h a=L:=by unfold UD; rw[l2]; rfl
 have h4:cl.length≤4:=by
  simp only[Dl,Bool.and_eq_true,decide_eq_true_eq] at hc
  exact hc.2.1
 have hcm:cl.length≤maxLen:=Af (by omega);have hp:∀o∈L,o.Passages.length≤maxLen:=fun o ho=>by rw[Az]; have:=(l4 o ho).1.2; omega
 refine⟨?_,?_,?_,fun o ho=> ?_⟩
 ·unfold O7;rw[UT s,hh,ha,Bool.and_true,U,if_pos rfl,UU s.pn,hc,U,if_pos rfl,l1,U];refine B9 (fun n i=>GP cl L n (i:P) ((L.take i).filter fun o=> !Hy o cl)=N (B5 h cl a)) (Af (n:=L.length) (by omega)) (fun n=> ?_) (fun n i hi ih=> ?_) (W _)
  ·rw[GP,if_neg (by simp),List.take_length];unfold B5;rw[el]
  ·rw[GP,if_pos (decide_eq_true (Y.2 hi)),Ac hi,U,A06 (hp _ (V hi)) hcm,U,Am hi (Af (by omega))];rw[Sq hi] at ih
   cases e:Hy L[i] cl with
   | true=>
    rw[e] at ih
    simp only[Bool.not_true,Bool.false_eq_true,if_false,zH] at ih
    rw[if_pos rfl];exact ih
   | false=>
    rw[e] at ih
    rw[if_neg (by simp),if_pos (AP (by
     have:=C (fun o=> !Hy o cl) (L.take i);simp only[List.length_take] at this
     omega) (by simp) (by omega))]
    exact ih
 ·unfold MG
  rw[Zo s,hh,ha,Bool.and_true,U,if_pos rfl,RJ s.pn,hc,U,if_pos rfl,l2,U,nk (p:=fun o=>Hy o cl) (by omega) (fun o ho=>by
   show(Kx o cl).bind _=_
   rw[tu (hp o ho) hcm]; rfl)]
  unfold B5;rw[el];rfl
 ·unfold B5;rw[el];exact zF (C _ _) l3
 ·unfold B5 at ho
  rw[el] at ho
  exact l4 o ((List.mem_filter.1 ho).1)
theorem UC(s:HSmall h)(hh:AT h=T)(hc:Dl h.Chart cl=T)(h6:cs.length≤6)(hcs:∀a∈cs,BE h a=T):Rf h cs cl=N (cs.map (B5 h cl))∧(∀l∈cs.map (B5 h cl),l.length≤8)∧∀l∈cs.map (B5 h cl),GoodC h l:=by
 refine⟨?_,fun l hl=> ?_,fun l hl=> ?_⟩
 ·refine G6 (L:=Jt cl cs h) cs _ N (Af (by omega)) (fun n i acc hi hacc=> ?_) fun n acc _=>by rw[Jt,if_neg (by simp)]
  rw[Jt];simp only[Ag,hi,decide_true,if_true,Ac hi,U,(Sg s hh hc (hcs _ (V hi))).1];rw[if_pos (AP (by omega) (by simp) (by omega))]
 ·obtain⟨a,ha,rfl⟩:=List.mem_map.1 hl;exact(Sg s hh hc (hcs a ha)).2.2.1
 ·obtain⟨a,ha,rfl⟩:=List.mem_map.1 hl;exact(Sg s hh hc (hcs a ha)).2.2.2
def M3(os:O (O X0))(ch:O P):Prop:=∀i (hi:i<ch.length),∃(hj:i<os.length) (k:Q),ch[i]=(k:P)∧k<os[i].length
theorem oj{F:X0→P→Fnd→Fnd}{p:Fnd→Prop}:∀(l:O X0) (n:Q) (A:Fnd),(∀i (hi:i<l.length) A,p A→p (F l[i] ((n+i:Q):P) A))→p A→p (Dm F l n A):=by
 intro l
 induction l with
 | nil=>intro n A _ h; exact h
 | cons o l ih=>
  intro n A H h;rw[Dm];refine ih _ _ (fun i hi A hA=> ?_) (H 0 (by simp) A h);have:=H (i+1) (by simp; omega) A hA;simp only[List.getElem_cons_succ] at this
  rw[show n+(i+1)=n+1+i by omega] at this
  exact this
theorem A1j(wv:O X0→Xk)(os:O (O X0)):∀(ls:O (O X0)) (pl:O X0) (ch:O P) (A:Fnd),os.drop ch.length=ls→M3 os ch→(A.f=T→M3 os A.b)→((Br h wv ls pl ch A).f=T→M3 os (Br h wv ls pl ch A).b):=by
 intro ls
 induction ls with
 | nil=>
  intro pl ch A hd hc hA;rw[Br];split
  ·unfold LU;split
   ·exact hA
   ·exact fun _=>hc
  ·exact hA
 | cons l ls ih=>
  intro pl ch A hd hc hA
  have hlt:ch.length<os.length:=by
   have:=congrArg List.length hd;simp only[List.length_drop,zG] at this
   omega
  rw[zD hlt,List.cons.injEq] at hd
  rw[Br];refine oj (p:=fun A=>A.f=T→M3 os A.b) l 0 A (fun i hi A hA=> ?_) hA;split
  ·refine ih _ _ _ (by simpa using hd.2) (fun j hj=> ?_) hA;simp only[List.length_append,zG,List.length_nil] at hj
   by_cases e:j=ch.length
   ·subst e;refine⟨hlt,i,by simp,?_⟩;rw[hd.1]; exact hi
   ·obtain⟨q1,k,q2,q3⟩:=hc j (by omega);exact⟨q1,k,by rw[List.getElem_append_left (by omega)]; exact q2,q3⟩
  ·exact hA
theorem lh{os:O (O X0)}{ch:O P}(H:M3 os ch)(hl:ch.length≤1000):∃r,Ic os ch=N r:=by
 unfold Ic;refine B9 (fun n i=>∀acc:O X0,acc.length=i→∃r,Ie os ch n (i:P) acc=N r) (Af (n:=ch.length) (by omega)) (fun n acc _=>⟨acc,by rw[Ie,if_neg (by simp)]⟩) (fun n i hi ih acc hacc=> ?_) (W _) [] rfl;obtain⟨hj,k,e,hk⟩:=H i hi;obtain⟨r,hr⟩:=ih (acc++ [os[i][k]]) (by simp; omega);refine⟨r,?_⟩;rw[Ie,if_pos (decide_eq_true (Y.2 hi)),Ac hi,U,Ac hj,U,e,Ac hk,U,if_pos (AP (by omega) (by simp) (by omega)),Am hi (Af (by omega))];exact hr
theorem A1i(wv:O X0→Xk):∀(ls:O (O X0)) (pl:O X0) (ch:O P) (A:Fnd),ch.length+ls.length≤12→A.b.length≤12→(Br h wv ls pl ch A).b.length≤12:=by
 intro ls
 induction ls with
 | nil=>
  intro pl ch A h1 h2;rw[Br];split
  ·unfold LU;split
   ·exact h2
   ·simpa using h1
  ·exact h2
 | cons l ls ih=>
  intro pl ch A h1 h2;simp only[zG] at h1
  rw[Br];refine om (fun A=>A.b.length≤12) (fun o n A hA=> ?_) l 0 A h2;split
  ·exact ih _ _ _ (by simp; omega) hA
  ·exact hA
theorem lr(s:HSmall h)(hok:CZ h cs=N T)(hh:AT h=T)(hc:Dl h.Chart cl=T)(h6:cs.length≤6)(hcs:∀a∈cs,BE h a=T):∃r,Mo h cs cl=N (r,ex h (cs.map (B5 h cl)) []):=by
 obtain⟨_,o3,o4⟩:=UC s hh hc h6 hcs;have hfit:CN h []=T:=(Lu s hh (by simp) (fun o ho=>by cases ho)).2.2 (FitP.nil hh)
 have e:=uF (os:=cs.map (B5 h cl)) (wv:=Kb) (F:=fun z0=>Kz z0) (fun pl G hl=>by
  rw[zI] at hl
  show(Mq pl).bind _=_
  rw[mG (by omega) G.cost]; rfl) (fun pl o ho=>by
  simp only[wl,Kb,cU,Bool.or_eq_false_iff,Bool.and_eq_false_iff,decide_eq_false_iff_not];omega) s hh (by simpa using h6) o3 o4 (cs.map (B5 h cl)) [] [] ⟨E,[],⟨0,0⟩⟩ bigN (by rw[C5]; simp; omega) rfl (by simp) rfl (fun o ho=>by cases ho) hfit
 have e:Tr (fun z0=>Kz z0) ⟨h,cs.map (B5 h cl),[],[],[],⟨0,0⟩,E⟩=_:=e;have hf:=A1l Kb (h:=h) (cs.map (B5 h cl)) [] [] ⟨E,[],⟨0,0⟩⟩;have hp:=A1j Kb (h:=h) (cs.map (B5 h cl)) (cs.map (B5 h cl)) [] [] ⟨E,[],⟨0,0⟩⟩ rfl (fun i hi=>by simp at hi) (fun h=>by cases h);have hb:=A1i Kb (h:=h) (cs.map (B5 h cl)) [] [] ⟨E,[],⟨0,0⟩⟩ (by simp; omega) (by simp);generalize Br h Kb (cs.map (B5 h cl)) [] [] ⟨E,[],⟨0,0⟩⟩=B at e hf hp hb
 unfold Mo;rw[hok,U,if_pos rfl,RJ s.pn,hc,U];unfold Mp;rw[if_neg (by simp)]
 have push:=G6 (L:=HU cl cs h) cs (B5 h cl) (fun os=>(N3 h os (fun z0=>Kz z0)).bind fun r12=>if r12.2.2 then((Ic os r12.1).bind fun r14=>N (r14,T)) else N (([]:O X0),E)) (Af (by omega)) (fun n i acc hi hacc=>by
  rw[HU];simp only[Ag,hi,decide_true,if_true,Ac hi,U,(Sg s hh hc (hcs _ (V hi))).2.1];rw[if_pos (AP (by omega) (by simp) (by omega))]) fun n acc _=>by rw[HU,if_neg (by simp)]
 rw[push];unfold N3;rw[e,U,U];simp only[Bool.false_or] at hf
 show ∃r,(if B.f=T then(Ic (cs.map (B5 h cl)) B.b).bind fun r14=>N (r14,T) else N (([]:O X0),E))=_
 rw[← hf];cases hB:B.f with
 | false=>exact⟨[],rfl⟩
 | true=>
  obtain⟨r,hr⟩:=lh (hp hB) (by omega);exact⟨r,by rw[if_pos rfl,hr]; rfl⟩
def G8(h:X5)(cl:O X9)(cs:O Xb)(l:O Q):Bool:=ex h ((BS cs l).map (B5 h cl)) []
theorem jO(s:HSmall h)(hh:AT h=T)(hc:Dl h.Chart cl=T)(hok:CZ h cs=N T)(h6:cs.length≤6){l:O Q}(hl:F8 cs.length l):Mu (iN l) h cs cl=N (G8 h cl cs l):=by
 obtain⟨a1,a2,a3⟩:=bU s hh hok h6 hl;obtain⟨r,hr⟩:=lr s a1 hh hc a2 a3;unfold Mu;rw[A0i hl,U,hr];rfl
theorem A0k(s:HSmall h)(hh:AT h=T)(hc:Dl h.Chart cl=T)(hok:CZ h cs=N T)(h6:cs.length≤6){l:O Q}(hl:F8 cs.length l):OE h (cs.map (B5 h cl)) (iN l)=N (G8 h cl cs l):=by
 obtain⟨a1,a2,a3⟩:=bU s hh hok h6 hl;obtain⟨l1,l2,l3⟩:=hl;obtain⟨_,o3,o4⟩:=UC s hh hc a2 a3;obtain⟨b,c,e⟩:=kq s hh (os:=(BS cs l).map (B5 h cl)) (by simpa using a2) o3 o4;unfold OE;have el:(iN l).length=l.length:=by simp
 refine B9 (fun n i=>Js (cs.map (B5 h cl)) (iN l) h n (i:P) (((BS cs l).map (B5 h cl)).take i)=N (G8 h cl cs l)) (Af (n:=l.length) (by omega)) (fun n=> ?_) (fun n i hi ih=> ?_) (W _)
 ·rw[Js,if_neg (by simp),zB (by simp[BS]),e];rfl
 ·have hi':i<(iN l).length:=by omega
  have ei:(iN l)[i]=(l[i]:P):=by simp
  have hk:=l2 _ (V hi);have hs:i<((BS cs l).map (B5 h cl)).length:=by simpa[BS] using hi
  have es:((BS cs l).map (B5 h cl))[i]=B5 h cl (E4 cs l[i]):=by simp[BS]
  have hm:l[i]<(cs.map (B5 h cl)).length:=by simpa using hk
  have em:(cs.map (B5 h cl))[l[i]]=B5 h cl (E4 cs l[i]):=by simp[E4,X hk]
  rw[Js,if_pos (decide_eq_true (Y.2 hi')),Ac hi',U,ei,Ac hm,em,U,if_pos (AP (by simp; omega) (by simp) (by omega)),Am hi (Af (by omega)),← es,← Z hs];exact ih
theorem bX{n:Q}(hn:n<7){l:O Q}(hl:l∈sets n):F8 n l:=xc n hn l hl
theorem lD{n:Q}(hn:n<7){b:Q}(hb:b<2 ^ n):F8 n (Bm 6 b):=bX hn (by rw[← ah n hn]; exact List.mem_map_of_mem (af n hn b hb))
def good(h:X5)(cl:O X9)(cs:O Xb)(b:Q):Bool:=G8 h cl cs (Bm 6 b)
def left(n:Q)(r:O P):O P:=((zA n).filter fun i:Q=> !(r.any fun x=>x==(i:P))).map fun i:Q=>(i:P)
theorem ZV{n i:Q}(hi:i<n)(r:O P):left (i+1) r=left i r++(if(r.any fun x=>x==(i:P))=T then [] else [(i:P)]):=by
 unfold left;rw[List.range_succ,List.filter_append,List.map_append];congr 1
 cases e:r.any fun x=>x==(i:P)<;>simp[e]
theorem Uq(n:Q)(r:O P):(left n r).length≤n:=by
 unfold left;rw[zI];exact zF (C _ _) (by simp)
theorem A1e(r:O P)(hr:r.length≤1000)(h6:cs.length≤6):FG r cs bigN 0 []=N (left cs.length r,T):=by
 refine B9 (fun n i=>FG r cs n (i:P) (left i r)=N (left cs.length r,T)) (Af (n:=cs.length) (by omega)) (fun n=>by rw[FG,if_neg (by simp)]) (fun n i hi ih=> ?_) (W _);have:=Uq i r;rw[ZV hi] at ih
 rw[FG,if_pos (decide_eq_true (Y.2 hi)),Rp (Af (by omega)),U,Am hi (Af (by omega))];split
 ·rename_i e
  rw[if_pos e,zH] at ih
  exact ih
 ·rename_i e
  rw[if_neg e] at ih
  rw[if_pos (AP (by omega) (by simp) (by omega))];exact ih
theorem mE{l:O P}(hl:l.length≤1000)(a:P):NR l a=N (l.any fun x=>x==a):=by
 have e0:=XJ (F:=IR l a) l (fun x=>a==x) (Af (by omega)) (fun n i h=>by
  rw[IR];simp only[Ag,h,decide_true,if_true,Ac h,U]) fun n=>by simp[IR]
 unfold NR QU;rcases e0 with ⟨e,h⟩|⟨k,hk,e,h,h0⟩
 ·rw[e,U]
  have:(l.any fun x=>x==a)=E:=by
   rw[zC];intro x hx;have:=h x hx;simp only[beq_eq_false_iff_ne] at this
   simp[Ne.symm this]
  rw[this]; rfl
 ·rw[e,U]
  have:(l.any fun x=>x==a)=T:=by
   rw[List.any_eq_true];refine⟨l[k],V hk,?_⟩;simp only[beq_iff_eq] at h ⊢
   exact h.symm
  rw[this];simp
theorem uC(r:O P)(hr:r.length≤1000)(h6:cs.length≤6):Fg r cs bigN 0 []=N (left cs.length r,T):=by
 refine B9 (fun n i=>Fg r cs n (i:P) (left i r)=N (left cs.length r,T)) (Af (n:=cs.length) (by omega)) (fun n=>by rw[Fg,if_neg (by simp)]) (fun n i hi ih=> ?_) (W _);have:=Uq i r;rw[ZV hi] at ih
 rw[Fg,if_pos (decide_eq_true (Y.2 hi)),mE hr,U,Am hi (Af (by omega))];split
 ·rename_i e
  rw[if_pos e,zH] at ih
  exact ih
 ·rename_i e
  rw[if_neg e] at ih
  rw[if_pos (AP (by omega) (by simp) (by omega))];exact ih
theorem bW{o:Option Q}(ho:∀c,o=N c→c<64):(DA o).length≤1000:=by
 cases o with
 | none=>simp[DA]
 | some c=>
  simp only[DA,zI,Bm];exact zF (C _ _) (by simp)
theorem A1c(s:HSmall h)(hh:AT h=T)(hc:Dl h.Chart cl=T)(hok:CZ h cs=N T)(hsp:L4 h cs=N T)(h6:cs.length≤6)(hcs:∀a∈cs,BE h a=T):GK h cs cl=N (left cs.length (DA ((CS cs.length).find? (good h cl cs))),T):=by
 have hn:cs.length<7:=by omega
 have h64:=V9 hn;obtain⟨o1,_,_⟩:=UC s hh hc h6 hcs;unfold GK;rw[hsp,U,if_pos rfl,UU s.pn,hc,U];unfold NY;rw[if_neg (by simp),o1,U];refine B9 (fun n i=>J0 cs h (cs.map (B5 h cl)) n (i:P) (((zA (2 ^ cs.length)).map fun b=>G8 h cl cs (Bm 6 b)).take i)=N (left cs.length (DA ((CS cs.length).find? (good h cl cs))),T)) (Af (n:=2 ^ cs.length) (by omega)) (fun n=> ?_) (fun n i hi ih=> ?_) (W _)
 ·rw[J0,if_neg (by simp),bY _ hn,if_neg (by simp),zB (by simp),xu hn,U]
  exact A1e _ (bW fun c hc=>by
   have:=Sh _ hn c (zE hc);omega) h6
 ·have hi':i<((zA (2 ^ cs.length)).map fun b=>G8 h cl cs (Bm 6 b)).length:=by simpa using hi
  have ei:((zA (2 ^ cs.length)).map fun b=>G8 h cl cs (Bm 6 b))[i]=G8 h cl cs (Bm 6 i):=by simp
  rw[J0,if_neg (by simp),bY _ hn,if_pos (decide_eq_true (Y.2 hi)),Wx _ hn i hi,U,A0k s hh hc hok h6 (lD hn hi),U,if_pos (AP (by simp; omega) (by simp) (by omega)),Am hi (Af (by omega)),← ei,← Z hi'];exact ih
theorem A0h:∀n:Q,n<7→∀i:Q,i<7→(Hx n i).length<100:=by decide +kernel
theorem wW{ac:O P→Option Bool}{q:O Q→Bool}{y:P}{K:P→Option (O P)}(L:O (O Q))(hL:L.length<100)(hs:∀l∈L,ac (iN l)=N (q l)):Gy ac cs y (L.map iN) K bigN 0=match L.find? q with | none=>K (IntKind.i64.wrap (y - 1)) | some l=>N (iN l):=by
 have key:=B9 (fun m j=>Gy ac cs y (L.map iN) K m (j:P)=match (L.drop j).find? q with | none=>K (IntKind.i64.wrap (y - 1)) | some l=>N (iN l)) (Af (n:=L.length) (by omega)) (fun m=>by
  rw[Gy,if_neg (by simp),List.drop_length]; rfl) (fun m j hj ih=>by
  have hj':j<(L.map iN).length:=by simpa using hj
  have ej:(L.map iN)[j]=iN L[j]:=by simp
  rw[Gy,if_pos (decide_eq_true (Y.2 hj')),Ac hj',U,ej,hs _ (V hj),U,zD hj,List.find?_cons,Am hj (Af (by omega))];cases q L[j] with
  | true=>rw[if_pos rfl]
  | false=>rw[if_neg (by simp)]; exact ih) (W _)
 exact key
theorem ym(n:Q):(zA (n+1)).reverse=n::(zA n).reverse:=by rw[List.range_succ,List.reverse_append]; rfl
theorem wX{ac:O P→Option Bool}{q:O Q→Bool}(h6:cs.length≤6)(hs:∀l,F8 cs.length l→ac (iN l)=N (q l)):N4 cs ac=N (DA ((CS cs.length).find? fun b=>q (Bm 6 b))):=by
 have hn:cs.length<7:=by omega
 have hfind:DA ((CS cs.length).find? fun b=>q (Bm 6 b))=match (sets cs.length).find? q with | none=> [] | some l=>iN l:=by
  rw[← ah _ hn,List.find?_map];show DA ((CS cs.length).find? fun b=>q (Bm 6 b))=match ((CS cs.length).find? fun b=>q (Bm 6 b)).map (Bm 6) with | none=> [] | some l=>iN l
  cases(CS cs.length).find? fun b=>q (Bm 6 b)<;>rfl
 rw[hfind];unfold N4 sets
 have key:∀(k n:Q),k≤cs.length+1→k<n→Ij ac cs n ((k:P) - 1)=N (match ((zA k).reverse.flatMap (Hx cs.length)).find? q with | none=> [] | some l=>iN l):=by
  intro k
  induction k with
  | zero=>
   intro n _ hn;obtain⟨m,rfl⟩:=sn (n:=n) (by omega);rw[Ij,if_neg (by simp)];rfl
  | succ k ih=>
   intro n hk hn';obtain⟨m,rfl⟩:=sn (n:=n) (by omega);have ek:((k+1:Q):P) - 1=(k:P):=by omega
   rw[ek,Ij,if_pos (by simp),A0j _ hn k (by omega),U,ym,List.flatMap_cons,List.find?_append];have hmem:∀l∈Hx cs.length k,F8 cs.length l:=fun l hl=>bX hn (by unfold sets; exact List.mem_flatMap.2 ⟨k,by simp; omega,hl⟩)
   rw[wW (Hx cs.length k) (A0h _ hn k (by omega)) (fun l hl=>hs l (hmem l hl)),Ao (by omega) (by omega),ih m (by omega) (by omega)];cases(Hx cs.length k).find? q<;>rfl
 have:=key (cs.length+1) bigN (Nat.le_refl _) (by rw[C5]; omega);have ec:((cs.length+1:Q):P) - 1=(cs.length:P):=by omega
 rw[ec] at this
 exact this
theorem tz(s:HSmall h)(hh:AT h=T)(hc:Dl h.Chart cl=T)(hok:CZ h cs=N T)(h6:cs.length≤6):Ff h cs cl=N (left cs.length (DA ((CS cs.length).find? (good h cl cs))),T):=by
 have hn:cs.length<7:=by omega
 have h64:=V9 hn;unfold Ff;rw[hok,U,if_pos rfl,RJ s.pn,hc,U];unfold Ms;rw[if_neg (by simp),wX (q:=G8 h cl cs) h6 (fun l hl=>jO s hh hc hok h6 hl),U]
 exact uC _ (bW fun c hc=>by
  have:=Sh _ hn c (zE hc);omega) h6
theorem nl(s:HSmall h):∃r:O P × Bool,GK h cs cl=N r∧Ff h cs cl=N r∧r.1.length≤6:=by
 obtain⟨b,b1,b2,b3⟩:=lT s (cs:=cs);cases b with
 | false=>
  refine⟨([],E),?_,?_,by simp⟩
  ·unfold GK; rw[b1]; rfl
  ·unfold Ff; rw[b2]; rfl
 | true=>
  obtain⟨hh,h6,hcs⟩:=b3 rfl;cases hc:Dl h.Chart cl with
  | false=>
   refine⟨([],E),?_,?_,by simp⟩
   ·unfold GK; rw[b1,U,if_pos rfl,UU s.pn,hc]; rfl
   ·unfold Ff; rw[b2,U,if_pos rfl,RJ s.pn,hc]; rfl
  | true=>exact⟨_,A1c s hh hc b2 b1 h6 hcs,tz s hh hc b2 h6,zF (Uq _ _) h6⟩
end
end Go.Vi
