/-
Plain laws (of reports). No condition.
-/
import Derived.Test.YthneeiblhklckaaGreatDoorPVa8
import Derived.KernelRfl
namespace Go.Vi
set_option linter.all false
open Option renaming bind_some → Y, bind_eq_some_iff → yK, some → G
open List renaming getElem_mem → Z, getElem?_eq_getElem → C, take_succ_eq_append_getElem → zB, getElem_append_left → zC, mem_singleton → zE, getElem_of_mem → zF, length_append → zG, all_eq_true → zH, mem_cons → zI, mem_append → zJ, length_cons → zK, take_length → zL, getElem_append_right → zM, not_mem_nil → zN, range → zO, length_singleton → zP, replicate → zQ, length_pos_iff → zR, take_of_length_le → zS, getElem_cons_zero → zT, length_nil → zU, drop_eq_getElem_cons → zW, pairwise_iff_getElem → zX, mem_range → zY, nil_append → zZ, flatMap_singleton → yA, flatMap_cons → yC, mem_of_mem_take → yE, mem_cons_of_mem → yF, range' → yG, flatMap_append → yH, getElem?_append_left → yI, getElem?_cons_zero → yJ, getElem?_map → yL, map_cons → yM, mem_flatMap → yN, filterMap_append → yO, map_append → yP, replicate_zero → yR, set_cons_succ → yT, sum_cons → yV, mem_take_iff_getElem → yX, length_take → yY, cons_append → kA, eq_of_mem_replicate → kB, count_cons → kC, length → kD, drop_zero → kE
open Bool renaming false_eq_true → I, and_eq_true → zA, and_true → yW, not_false → kG, not_true → kI, and_self → kJ, true → F, false → E
open Option.some renaming injEq → zD
open Nat renaming lt_irrefl → zV, testBit_two_pow_sub_one → yD, le_trans → yQ, le_refl → yS, sub_self → yZ
open Int renaming toNat_natCast → yB, tdiv_eq_ediv_of_nonneg → yU, toNat_zero → kF, tdiv → kH
open IntKind renaming wrap → kK
open _root_ renaming List → N, Int → O, Bool → U, Nat → V, UInt8 → W, rfl → X
theorem lM{t:Xn}{m:O}(ht:G9 t=F)(h0:0≤m)(h1:m≤2880):∃r,MQ t m=G r∧ -1000000000000≤r∧r≤1000000000000:=by
 have ht':=ht;simp only[G9,zA,decide_eq_true_eq,zH] at ht
 obtain⟨hmean,hl,hp⟩:=ht;have hlm:t.Parts.length≤maxLen:=by rw[Bj]; omega
 have key:∀(k i n:V) (v:O),i+k=t.Parts.length→k<n→ -(1000+20000000000*(i:O))≤v→v≤1000+20000000000*(i:O)→∃r,GX m t n v (i:O)=G r∧ -(1000+20000000000*(t.Parts.length:O))≤r∧r≤1000+20000000000*(t.Parts.length:O):=by
  intro k
  induction k with
  | zero=>
   intro i n v hi hn v1 v2;obtain⟨q,rfl⟩:=sn (n:=n) (by omega);have:i=t.Parts.length:=by omega
   subst this;exact⟨v,by simp[GX],v1,v2⟩
  | succ k ih=>
   intro i n v hi hn v1 v2;obtain⟨q,rfl⟩:=sn (n:=n) (by omega);have hlt:i<t.Parts.length:=by omega
   have hx:=hp _ (Z hlt);simp only[Eg,zA,decide_eq_true_eq] at hx
   obtain⟨⟨am1,am2⟩,hx1,hx2,hx3⟩:=hx;obtain⟨p1,p2,_⟩:=Ua hx1;rw[A8 (by omega) (by omega)] at hx3
   have hw:=A8 (n:=m+t.Parts[i].Phase) (by omega) (by omega);have hnn:0≤m+t.Parts[i].Phase:=by omega
   have hmm:Int.tmod (m+t.Parts[i].Phase) t.Parts[i].Period=(m+t.Parts[i].Phase) % t.Parts[i].Period:=Int.tmod_eq_emod_of_nonneg hnn;have w:=sP (x:=(m+t.Parts[i].Phase) % t.Parts[i].Period) (p:=t.Parts[i].Period) (Int.emod_nonneg _ (by omega)) (Int.emod_lt_of_pos _ (by omega)) p1 p2;rw[← hmm] at w
   generalize hwv:Jh (Int.tmod (m+t.Parts[i].Phase) t.Parts[i].Period) t.Parts[i].Period=wv at w
   have mm:=NN (a:=t.Parts[i].Amp) (b:=wv) (A:=1000) (B:=200000000000) (by omega) (by omega) (by omega) (by omega)
   have hd: -20000000000≤kH (t.Parts[i].Amp*wv) 10000∧kH (t.Parts[i].Amp*wv) 10000≤20000000000:=by
    generalize t.Parts[i].Amp*wv=z at mm
    by_cases ha:0≤z
    ·rw[yU ha]; omega
    ·obtain⟨c,rfl⟩:∃c,z= -c:=⟨-z,by omega⟩;rw[Int.neg_tdiv,yU (by omega)]; omega
   obtain⟨r,e1,e2,e3⟩:=ih (i+1) q (kK .i64 (v+kK .i64 (kH (kK .i64 (t.Parts[i].Amp*wv)) 10000))) (by omega) (by omega)
    (by rw[A8 (n:=t.Parts[i].Amp*wv) (by omega) (by omega),A8 (n:=kH _ _) (by omega) (by omega),A8 (by omega) (by omega)]; omega)
    (by rw[A8 (n:=t.Parts[i].Amp*wv) (by omega) (by omega),A8 (n:=kH _ _) (by omega) (by omega),A8 (by omega) (by omega)]; omega)
   rw[← Am hlt hlm] at e1
   refine⟨r,?_,e2,e3⟩;simp only[GX,Br,C hlt,Y,Ag,hlt,decide_true,if_true,hw,io hx1 (show 0≤m+t.Parts[i].Phase by omega) (by omega),hwv];exact e1
 obtain⟨r,e1,e2,e3⟩:=key t.Parts.length 0 bigN t.Mean (by omega) (Al hlm) (by omega) (by omega);exact⟨r,e1,by omega,by omega⟩
theorem pp{f:Xd}{m:O}(h0:0<f.Surges.length)(h6:f.Surges.length≤6):∃(a:V) (ha:a<f.Surges.length),MI f m=G (a:O):=by
 have hl:f.Surges.length≤maxLen:=by rw[Bj]; omega
 have key:∀(k i n a:V) (ha:a<f.Surges.length),i+k=f.Surges.length→k<n→∃(a':V) (ha':a'<f.Surges.length),EB m f n (a:O) (i:O)=G (a':O):=by
  intro k
  induction k with
  | zero=>
   intro i n a ha hi hn;obtain⟨q,rfl⟩:=sn (n:=n) (by omega);have:i=f.Surges.length:=by omega
   subst this;exact⟨a,ha,by simp[EB]⟩
  | succ k ih=>
   intro i n a ha hi hn;obtain⟨q,rfl⟩:=sn (n:=n) (by omega);have hlt:i<f.Surges.length:=by omega
   by_cases hm:f.Surges[i].From≤m
   ·obtain⟨a',ha',e1⟩:=ih (i+1) q i hlt (by omega) (by omega);rw[← Am hlt hl] at e1
    refine⟨a',ha',?_⟩;simp only[EB,Br,C hlt,Y,Ag,hlt,decide_true,if_true,hm];exact e1
   ·obtain⟨a',ha',e1⟩:=ih (i+1) q a ha (by omega) (by omega);rw[← Am hlt hl] at e1
    refine⟨a',ha',?_⟩;simp only[EB,Br,C hlt,Y,Ag,hlt,decide_true,if_true,hm,decide_false,I,if_false];exact e1
 obtain⟨a,ha,e1⟩:=key f.Surges.length 0 bigN 0 h0 (by omega) (Al hl);exact⟨a,ha,e1⟩
theorem lW{f:Xd}{m:O}(hf:CK f=F)(h0:0≤m)(h1:m≤2880):∃r,Fs f m=G r∧ -2000000000000≤r∧r≤2000000000000:=by
 obtain⟨ht,s0,s6⟩:=eI hf;obtain⟨t,e1,b1,b2⟩:=lM ht h0 h1;obtain⟨a,ha,e2⟩:=pp (m:=m) s0 s6;have hs:=pq hf a ha;have w:=A8 (n:=t+f.Surges[a].Low) (by omega) (by omega)
 have e3:Fs f m=G (t+f.Surges[a].Low):=by
  unfold Fs;rw[e1,Y,e2,Y,Ad ha,Y,w]
 exact⟨t+f.Surges[a].Low,e3,by omega,by omega⟩
def IV(f:Xd)(m:O):O:=(Fs f m).getD 0
theorem lV{f:Xd}{m:O}(hf:CK f=F)(h0:0≤m)(h1:m≤2880):Fs f m=G (IV f m)∧ -2000000000000≤IV f m∧IV f m≤2000000000000:=by
 obtain⟨r,e1,b1,b2⟩:=lW hf h0 h1;have:IV f m=r:=by simp[IV,e1]
 rw[this];exact⟨e1,b1,b2⟩
theorem AO{n k b:V}(h:n≤100000000)(hk:k≤1000)(hb:b≤1000):A7 n k b=F:=by
 have:(n+k)*b≤100001000*1000:=Nat.mul_le_mul (by omega) hb;simp only[A7,decide_eq_true_eq];omega
def WinIn(p:O→U)(m:O)(l:N X8):Prop:=∀w∈l,0≤w.From∧w.From≤w.To∧w.To<m∧∀k,w.From≤k→k≤w.To→p k=F
theorem WinIn.more{p:O→U}{m:O}{l:N X8}(h:WinIn p m l):WinIn p (m+1) l:=fun w hw=>by
 obtain⟨a,b,c,d⟩:=h w hw;exact⟨a,b,by omega,d⟩
theorem WinIn.app{p:O→U}{m:O}{l:N X8}{x:X8}(h:WinIn p m l)(hx:WinIn p m [x]):WinIn p m (l++ [x]):=fun w hw=>by
 rcases zJ.1 hw with hw|hw
 ·exact h w hw
 ·exact hx w hw
theorem UC{α:Type}(l:N α)(x y:α):(l++ [x]).set l.length y=l++ [y]:=by simp
theorem sS{f:O→Option U}{p:O→U}(hf:∀m,0≤m→m≤2880→f m=G (p m)):∃l,MY f=G l∧WinIn p 2881 l∧l.length≤2881:=by
 have key:∀(k n:V) (b:U) (m:O) (l:N X8),m+(k:O)=2881→k<n→0≤m→(l.length:O)≤m→(b=E→WinIn p m l)→
   (b=F→∃l0 x,l=l0++ [x]∧WinIn p m l0∧0≤x.From∧x.From<m∧x.To=m - 1∧∀k,x.From≤k→k<m→p k=F)→∃r,ER f n b m l=G r∧WinIn p 2881 r∧r.length≤2881:=by
  intro k
  induction k with
  | zero=>
   intro n b m l hk hn hm hl hF hT;obtain⟨q,rfl⟩:=sn (n:=n) (by omega);have:¬m≤2880:=by omega
   refine⟨l,by rw[ER]; simp only[this,decide_false,I,if_false],?_,by omega⟩;have hm':m=2881:=by omega
   subst hm';cases b with
   | false=>exact hF rfl
   | true=>
    obtain⟨l0,x,rfl,h0,a1,a2,a3,a4⟩:=hT rfl;refine h0.app fun w hw=> ?_
    simp only[zE] at hw
    subst hw;exact⟨a1,by omega,by omega,fun k h1 h2=>a4 k h1 (by omega)⟩
  | succ k ih=>
   intro n b m l hk hn hm hl hF hT;obtain⟨q,rfl⟩:=sn (n:=n) (by omega);have hle:m≤2880:=by omega
   rw[ER];simp only[hle,decide_true,if_true,hf m hm hle,Y];have w1:kK .i64 (m+1)=m+1:=A8 (by omega) (by omega)
   have last:∀(l0:N X8) (x:X8),kK .i64 (((l0++ [x]).length:O) - 1)=(l0.length:O)∨3000<l0.length:=fun l0 x=>by
    by_cases hb:l0.length≤3000
    ·left; rw[A8 (by simp<;>omega) (by simp<;>omega)]; simp
    ·right; omega
   cases hp:p m with
   | false=>
    simp only[I,if_false,H9,w1];refine ih q E (m+1) l (by omega) (by omega) (by omega) (by omega) (fun _=> ?_) (fun h=>by cases h);cases b with
    | false=>exact(hF rfl).more
    | true=>
     obtain⟨l0,x,rfl,h0,a1,a2,a3,a4⟩:=hT rfl;refine h0.more.app fun w hw=> ?_
     simp only[zE] at hw
     subst hw;exact⟨a1,by omega,by omega,fun k h1 h2=>a4 k h1 (by omega)⟩
   | true=>
    simp only[if_true];cases b with
    | true=>
     obtain⟨l0,x,rfl,h0,a1,a2,a3,a4⟩:=hT rfl;simp only[zG,zP] at hl
     simp only[if_true,IA,H9,w1];have e:=(last l0 x).resolve_right (by omega);have e2:ix (l0++ [x]) (l0.length:O)=G x:=by rw[Br]; simp
     rw[e,e2,Y,yB,UC];refine ih q F (m+1) _ (by omega) (by omega) (by omega) (by simp; omega) (fun h=>by cases h) (fun _=>⟨l0,_,X,h0.more,a1,by simp; omega,by simp,fun k h1 h2=> ?_⟩);simp only at h1
     by_cases hk:k=m
     ·exact hk▸hp
     ·exact a4 k h1 (by omega)
    | false=>
     simp only[I,if_false];rw[if_pos (AO (by omega) (by simp) (by omega))];simp only[IA,H9,w1];have e:=(last l ⟨m,0⟩).resolve_right (by omega);have e2:ix (l++ [(⟨m,0⟩:X8)]) (l.length:O)=G ⟨m,0⟩:=by rw[Br]; simp
     rw[e,e2,Y,yB,UC];refine ih q F (m+1) _ (by omega) (by omega) (by omega) (by simp; omega) (fun h=>by cases h) (fun _=>⟨l,_,X,(hF X).more,hm,by simp; omega,by simp,fun k h1 h2=> ?_⟩);simp only at h1
     have:k=m:=by omega
     exact this▸hp
 exact key 2881 bigN E 0 [] (by omega) (by rw[C9]; omega) (by omega) (by simp) (fun _ w hw=>by cases hw) (fun h=>by cases h)
theorem Qq(l:N X8)(hl:l.length≤100000)(hb:∀w∈l,0≤w.From∧w.To≤2880):∃b,In l=G b:=by
 have key:∀(k i n:V),i+k=l.length→k<n→∃b,Fz l n (i:O)=G b:=by
  intro k
  induction k with
  | zero=>
   intro i n hi hn;obtain⟨q,rfl⟩:=sn (n:=n) (by omega);have:i=l.length:=by omega
   subst this;exact⟨F,by simp[Fz]⟩
  | succ k ih=>
   intro i n hi hn;obtain⟨q,rfl⟩:=sn (n:=n) (by omega);have hlt:i<l.length:=by omega
   obtain⟨b,e⟩:=ih (i+1) q (by omega) (by omega);rw[← Am hlt (by rw[Bj]; omega)] at e
   rw[Fz];simp only[Ag,hlt,decide_true,if_true,Ad hlt,Y];by_cases c1:l[i].From<0
   ·exact⟨E,by simp only[c1,decide_true,if_true]⟩
   by_cases c2:l[i].To<l[i].From
   ·exact⟨E,by simp only[c1,c2,decide_true,decide_false,I,if_false,if_true]⟩
   by_cases c3:2880<l[i].To
   ·exact⟨E,by simp only[c1,c2,c3,decide_true,decide_false,I,if_false,if_true]⟩
   simp only[c1,c2,c3,decide_false,I,if_false];by_cases c4:(0:O)<(i:O)
   ·have e4:kK .i64 ((i:O) - 1)=((i - 1:V):O):=by rw[A8 (by omega) (by omega)]; omega
    simp only[c4,decide_true,if_true,e4,Ad (show i - 1<l.length by omega),Y];by_cases c5:l[i].From≤kK .i64 (l[i - 1].To+1)
    ·exact⟨E,by simp only[c5,decide_true,if_true]⟩
    ·exact⟨b,by simp only[c5,decide_false,I,if_false]; exact e⟩
   ·exact⟨b,by simp only[c4,decide_false,I,if_false]; exact e⟩
 exact key l.length 0 bigN (by omega) (Al (by rw[Bj]; omega))
def Fg(p:O→U)(a:O)(l:N X8):Prop:=∀w∈l,0≤w.From∧w.From≤w.To∧w.To≤2880∧∀k,w.From≤k→k≤w.To→k+a≤2880∧∀m,k≤m→m≤k+a→p m=F
theorem ov{p:O→U}{l:N X8}{a:O}(hl:l.length≤3000)(h:WinIn p 2881 l):∃r,Kn l a=G r∧Fg p a r∧r.length≤3000:=by
 unfold Kn;obtain⟨b,e⟩:=Qq l (by omega) fun w hw=>⟨(h w hw).1,by have:=(h w hw).2.2.1; omega⟩
 rw[e,Y,FU];have hnil:∃r,G ([]:N X8)=G r∧Fg p a r∧r.length≤3000:=⟨[],rfl,(fun w hw=>by cases hw),by simp⟩;cases b with
 | false=>simpa using hnil
 | true=>
  simp only[if_true,Y];cases ha:(decide (0≤a)&&decide (a≤2880)) with
  | false=>simpa using hnil
  | true=>
   simp only[zA,decide_eq_true_eq] at ha
   simp only[if_true]
   have key:∀(k i n:V) (acc:N X8),i+k=l.length→k<n→acc.length≤i→Fg p a acc→∃r,Fy a l n (i:O) acc=G r∧Fg p a r∧r.length≤3000:=by
    intro k
    induction k with
    | zero=>
     intro i n acc hi hn hc hs;obtain⟨q,rfl⟩:=sn (n:=n) (by omega);have:i=l.length:=by omega
     subst this;exact⟨acc,by simp[Fy],hs,by omega⟩
    | succ k ih=>
     intro i n acc hi hn hc hs;obtain⟨q,rfl⟩:=sn (n:=n) (by omega);have hlt:i<l.length:=by omega
     obtain⟨a1,a2,a3,a4⟩:=h _ (Z hlt);rw[Fy];simp only[Ag,hlt,decide_true,if_true,Ad hlt,Y,Am hlt (show l.length≤maxLen by rw[Bj]; omega)];rw[A8 (n:=l[i].To - l[i].From) (by omega) (by omega),A8 (n:=l[i].To - a) (by omega) (by omega)];by_cases c:a≤l[i].To - l[i].From
     ·simp only[c,decide_true,if_true];rw[if_pos (AO (by omega) (by simp) (by omega))];refine ih (i+1) q _ (by omega) (by omega) (by simp; omega) fun w hw=> ?_
      rcases zJ.1 hw with hw|hw
      ·exact hs w hw
      ·simp only[zE] at hw
       subst hw;refine⟨a1,by simp only; omega,by simp only; omega,fun k h1 h2=> ?_⟩;simp only at h1 h2
       exact⟨by omega,fun m h3 h4=>a4 m (by omega) (by omega)⟩
     ·simp only[c,decide_false,I,if_false];exact ih (i+1) q acc (by omega) (by omega) (by omega) hs
   exact key l.length 0 bigN [] (by omega) (Al (by rw[Bj]; omega)) (by simp) fun w hw=>by cases hw
theorem hU{l:N X8}{a:O}(hl:l.length≤100000):∃b,MK l a=G b∧(b=F→∃w∈l,w.From≤a∧a≤w.To):=by
 have key:∀(k i n:V),i+k=l.length→k<n→∃b,GF a l n (i:O)=G b∧(b=F→∃w∈l,w.From≤a∧a≤w.To):=by
  intro k
  induction k with
  | zero=>
   intro i n hi hn;obtain⟨q,rfl⟩:=sn (n:=n) (by omega);have:i=l.length:=by omega
   subst this;exact⟨E,by simp[GF],fun h=>by cases h⟩
  | succ k ih=>
   intro i n hi hn;obtain⟨q,rfl⟩:=sn (n:=n) (by omega);have hlt:i<l.length:=by omega
   rw[GF];simp only[Ag,hlt,decide_true,if_true,Ad hlt,Y,CS,Am hlt (show l.length≤maxLen by rw[Bj]; omega)];cases c:(decide (l[i].From≤a)&&decide (a≤l[i].To)) with
   | true=>
    simp only[zA,decide_eq_true_eq] at c
    exact⟨F,by simp only[if_true],fun _=>⟨_,Z hlt,c⟩⟩
   | false=>
    simp only[I,if_false];exact ih (i+1) q (by omega) (by omega)
 exact key l.length 0 bigN (by omega) (Al (by rw[Bj]; omega))
theorem mH{l:N X8}{a:O}(hl:l.length≤100000)(hb:∀w∈l,0≤w.From∧w.From≤w.To∧w.To≤2880):∃r,K1 l a=G r∧(r= -1∨(a≤r∧∃w∈l,w.From≤r∧r≤w.To)):=by
 unfold K1;obtain⟨b,e⟩:=Qq l hl fun w hw=>⟨(hb w hw).1,(hb w hw).2.2⟩
 rw[e,Y];cases b with
 | false=>exact⟨-1,by simp,Or.inl rfl⟩
 | true=>
  simp only[if_true]
  have key:∀(k i n:V),i+k=l.length→k<n→∃r,GJ a l n (i:O)=G r∧(r= -1∨(a≤r∧∃w∈l,w.From≤r∧r≤w.To)):=by
   intro k
   induction k with
   | zero=>
    intro i n hi hn;obtain⟨q,rfl⟩:=sn (n:=n) (by omega);have:i=l.length:=by omega
    subst this;exact⟨-1,by simp[GJ],Or.inl X⟩
   | succ k ih=>
    intro i n hi hn;obtain⟨q,rfl⟩:=sn (n:=n) (by omega);have hlt:i<l.length:=by omega
    rw[GJ];simp only[Ag,hlt,decide_true,if_true,Ad hlt,Y,Am hlt (show l.length≤maxLen by rw[Bj]; omega)];by_cases c:a≤l[i].To
    ·simp only[c,decide_true,if_true];by_cases d:l[i].From<a
     ·exact⟨a,by simp only[d,if_true],Or.inr ⟨Int.le_refl a,_,Z hlt,by omega,c⟩⟩
     ·exact⟨l[i].From,by simp only[d,if_false],Or.inr ⟨by omega,_,Z hlt,Int.le_refl _,(hb _ (Z hlt)).2.1⟩⟩
    ·simp only[c,decide_false,I,if_false];exact ih (i+1) q (by omega) (by omega)
  exact key l.length 0 bigN (by omega) (Al (by rw[Bj]; omega))
def Hz(f:Xd)(c:X5)(i:O)(s:X9)(m:O):U:=decide (NO c i s≤IV f m)
theorem Ab{n:V}(h:n≤1000000):n≤maxLen:=by rw[Bj]; omega
theorem Cb{c:X5}(h:AH c=F):c.Points.length≤8∧c.Segments.length≤10∧(∀x∈c.Points,x.Name.length≤maxLen)∧∀x∈c.Segments,idx x.A c.Points.length=F∧idx x.B c.Points.length=F:=by
 simp only[AH,zA,decide_eq_true_eq,zH,zY] at h;obtain⟨h1,h2,h3,h4⟩:=h;refine⟨h1,h2,fun x hx=> ?_,fun x hx=> ?_⟩
 ·obtain⟨i,hi,rfl⟩:=zF hx;have:=h3 i hi;simp only[Ja,C hi,zA] at this
  exact Ab (by have:=(LA this.1).2; omega)
 ·obtain⟨i,hi,rfl⟩:=zF hx;have:=h4 i hi;simp only[DI,C hi,zA,decide_eq_true_eq] at this
  exact⟨this.1,this.2.1⟩
theorem HC{s:X9}(h:BO s=F):s.Name.length≤maxLen:=Ab (by have:=(LA (Q7 h).1).2; omega)
theorem IX{c:X5}{s:X9}{i:O}(hc:AH c=F)(hi:idx i c.Segments.length=F):1≤Bk (B6 c i) s∧Bk (B6 c i) s≤480:=by
 obtain⟨_,_,a,b⟩:=(LN hc).2.2 _ (BS hi).2;unfold Bk;split
 ·rw[A8 (n:=2*_) (by omega) (by omega)]; omega
 ·omega
theorem Vb{f:Xd}{c:X5}{s:X9}{i:O}(hf:CK f=F)(hc:AH c=F)(hs:BO s=F)(hi:idx i c.Segments.length=F) :
  ∃l,Im f c i s=G l∧Fg (Hz f c i s) (Bk (B6 c i) s) l∧l.length≤3000:=by
 have hn:=(Cb hc).2.2.1;have hm:=HC hs
 obtain⟨ws,e1,e2,e3⟩:=sS (f:=fun z0=>JZ z0 f (NO c i s)) (p:=Hz f c i s) fun m h0 h1=>by
  simp only[JZ,(lV hf h0 h1).1,Y,Hz]
 obtain⟨r,e4,e5,e6⟩:=ov (a:=Bk (B6 c i) s) (by omega) e2;refine⟨r,?_,e5,e6⟩;unfold Im Iz ML MM;simp only[Nr,D4 hn,Hj hm,hf,hc,hs,hi,Y,if_true,CN,ig hn hm hc hs hi,e1,(BS hi).1,Lh,e4]
def HB(x:X1)(a:O):O:=if a=x.A then x.B else if a=x.B then x.A else -1
theorem RY(x:X1)(a:O):Il x a=G (HB x a):=by
 unfold Il HB;by_cases h1:a=x.A
 ·rw[if_pos (by simpa using h1),if_pos h1]
 ·rw[if_neg (by simpa using h1),if_neg h1];by_cases h2:a=x.B
  ·rw[if_pos (by simpa using h2),if_pos h2]
  ·rw[if_neg (by simpa using h2),if_neg h2]
theorem RZ{c:X5}(hc:AH c=F){x:X1}(hx:x∈c.Segments)(a:O):HB x a= -1∨idx (HB x a) c.Points.length=F:=by
 obtain⟨h1,h2⟩:=(Cb hc).2.2.2 x hx;unfold HB;split
 ·exact Or.inr h2
 ·split
  ·exact Or.inr h1
  ·exact Or.inl X
theorem DD{i:O}{n:V}:idx i n=F↔0≤i∧i<(n:O):=by simp[idx]
theorem Tz(y:X6){i:O}(h0:0≤i)(h1:i<8):∃b,ix ([y.i0,y.i1,y.i2,y.i3,y.i4,y.i5,y.i6,y.i7]:N U) i=G b:=by
 obtain⟨n,rfl⟩:∃n:V,i=(n:O):=⟨i.toNat,by omega⟩;exact⟨_,Ad (show n<([y.i0,y.i1,y.i2,y.i3,y.i4,y.i5,y.i6,y.i7]:N U).length by simp; omega)⟩
theorem Ue{c:X5}(hc:AH c=F)(rt:N O)(a:O)(hl:rt.length≤1000):∃l b,Gt c a rt=G (l,b)∧l.length≤rt.length+1∧(∀x∈l,idx x c.Points.length=F)∧
  (b=F→l.length=rt.length+1∧∀x∈rt,idx x c.Segments.length=F):=by
 obtain⟨hp8,hs10,_,_⟩:=Cb hc
 have none_:∃l b,(G (([]:N O),E):Option (N O × U))=G (l,b)∧l.length≤rt.length+1∧(∀x∈l,idx x c.Points.length=F)∧(b=F→l.length=rt.length+1∧∀x∈rt,idx x c.Segments.length=F):=
  ⟨[],E,rfl,by simp,(fun x hx=>by cases hx),fun h=>by cases h⟩
 have key:∀(k i n:V) (v5:O) (v7:X6) (v8:N O),i+k=rt.length→k<n→v8.length=i+1→(∀x∈v8,idx x c.Points.length=F)→(∀j (h:j<rt.length),j<i→idx rt[j] c.Segments.length=F)→
   ∃l b,Fp rt c n v5 (i:O) v7 v8=G (l,b)∧l.length≤rt.length+1∧(∀x∈l,idx x c.Points.length=F)∧(b=F→l.length=rt.length+1∧∀x∈rt,idx x c.Segments.length=F):=by
  intro k
  induction k with
  | zero=>
   intro i n v5 v7 v8 hi hn h8 h9 hj;obtain⟨q,rfl⟩:=sn (n:=n) (by omega);have:i=rt.length:=by omega
   subst this;refine⟨v8,F,by simp[Fp],by omega,h9,fun _=>⟨h8,fun x hx=> ?_⟩⟩;obtain⟨j,hj',rfl⟩:=zF hx;exact hj j hj' hj'
  | succ k ih=>
   intro i n v5 v7 v8 hi hn h8 h9 hj;obtain⟨q,rfl⟩:=sn (n:=n) (by omega);have hlt:i<rt.length:=by omega
   rw[Fp];simp only[Ag,hlt,decide_true,if_true,Ad hlt,Y,CN];cases hx:idx rt[i] c.Segments.length with
   | false=>simpa using none_
   | true=>
    simp only[if_true,(BS hx).1,Y,RY];have he:=RZ hc (BS hx).2 v5;generalize HB (B6 c rt[i]) v5=r at he
    by_cases h0:r<0
    ·simp only[h0,decide_true,if_true,Gu];exact none_
    ·have hr:=he.resolve_left (by omega);have hr':=DD.1 hr;have hd:(decide (0≤r)&&decide (r<8))=F:=by simp; omega
     simp only[h0,decide_false,I,if_false,hd,if_true];obtain⟨b,e⟩:=Tz v7 hr'.1 (by omega);rw[e,Y];cases b with
     | true=>simp only[Gu,if_true]; exact none_
     | false=>
      simp only[Gu,I,if_false,hd,if_true];rw[if_pos (AO (by omega) (by simp) (by omega)),Am hlt (Ab (by omega))];refine ih (i+1) q _ _ _ (by omega) (by omega) (by simp; omega) (fun x hx=> ?_) fun j h1 h2=> ?_
      ·rcases zJ.1 hx with hx|hx
       ·exact h9 x hx
       ·simp only[zE] at hx; exact hx▸hr
      ·by_cases hji:j=i
       ·subst hji; exact hx
       ·exact hj j h1 (by omega)
 unfold Gt;rw[CN,Y];cases ha:idx a c.Points.length with
 | false=>simpa using none_
 | true=>
  have ha':=DD.1 ha;have hd:(decide (0≤a)&&decide (a<8))=F:=by simp; omega
  simp only[if_true,hd];exact key rt.length 0 bigN _ _ _ (by omega) (Al (Ab (by omega))) (by simp) (by simpa using ha) fun j h1 h2=>by omega
theorem Ur{c:X5}(hc:AH c=F)(rt:N O)(hl:rt.length≤1000):∃r,EG c rt=G r:=by
 unfold EG;rw[D4 (Cb hc).2.2.1,hc,Y,if_pos rfl]
 have key:∀(k i n:V) (v:O),i+k=rt.length→k<n→∃r,DX rt c n v (i:O)=G r:=by
  intro k
  induction k with
  | zero=>
   intro i n v hi hn;obtain⟨q,rfl⟩:=sn (n:=n) (by omega);have:i=rt.length:=by omega
   subst this;exact⟨v,by simp[DX]⟩
  | succ k ih=>
   intro i n v hi hn;obtain⟨q,rfl⟩:=sn (n:=n) (by omega);have hlt:i<rt.length:=by omega
   rw[DX];simp only[Ag,hlt,decide_true,if_true,Ad hlt,Y,CN,Am hlt (Ab (by omega))];cases hx:idx rt[i] c.Segments.length with
   | false=>exact⟨-1,by simp⟩
   | true=>
    simp only[if_true,(BS hx).1,Y];exact ih (i+1) q _ (by omega) (by omega)
 exact key rt.length 0 bigN 0 (by omega) (Al (Ab (by omega)))
structure VoyOk (f:Xd) (c:X5) (s:X9) (a:O) (rt:N O) (v:Xk):Prop where
 ne:rt≠ []
 w:v.waits.length=rt.length
 m:v.minutes.length=rt.length
 u:v.sure.length=rt.length
 seg:∀x∈rt,idx x c.Segments.length=F
 mins:∀i (h:i<rt.length),v.minutes[i]?=G (Bk (B6 c rt[i]) s)
 sure:∀i (h:i<rt.length),∃l,v.sure[i]?=G l∧Fg (Hz f c rt[i] s) (Bk (B6 c rt[i]) s) l∧l.length≤3000
 rok:∃pts,Gt c a rt=G (pts,F)∧pts.length=rt.length+1
theorem qg{f:Xd}{c:X5}{s:X9}(hf:CK f=F)(hc:AH c=F)(hs:BO s=F)(rt:N O)(a:O)(hl:rt.length≤1000) :
  ∃v b,KH f c s a rt=G (v,b)∧(b=F→VoyOk f c s a rt v):=by
 have hn:=(Cb hc).2.2.1;obtain⟨pts,b,e1,e2,e3,e4⟩:=Ue hc rt a hl;have eo:GS c a rt=G b:=by simp only[GS,D4 hn,hc,Y,if_true,e1]
 have er:EH c a rt=G pts:=by simp only[EH,D4 hn,hc,Y,if_true,e1]
 have none_:∃v b',(G ((⟨[],[],[]⟩:Xk),E):Option (Xk × U))=G (v,b')∧(b'=F→VoyOk f c s a rt v):=⟨_,E,rfl,fun h=>by cases h⟩;unfold KH;simp only[Nr,Hj (HC hs),hf,hs,eo,Y,if_true,H7];cases b with
 | false=>simpa using none_
 | true=>
  obtain⟨e5,e6⟩:=e4 rfl;simp only[if_true];cases rt with
  | nil=>simpa using none_
  | cons r0 rs=>
   have hnz:(((r0::rs).length:O)==(0:O))=E:=by simp; omega
   simp only[hnz,I,if_false,er,Y];generalize hrt:r0::rs=rt at *
   rw[Eu (by omega),Y];simp only[kE,Nat.sub_zero];have hlen:(pts.take rt.length).length=rt.length:=by simp; omega
   have key:∀(k i n:V) (ws:N U) (ms:N O) (us:N (N X8)),i+k=rt.length→k<n→ws.length=i→ms.length=i→us.length=i→
     (∀j (h:j<rt.length),j<i→ms[j]?=G (Bk (B6 c rt[j]) s))→(∀j (h:j<rt.length),j<i→∃l,us[j]?=G l∧Fg (Hz f c rt[j] s) (Bk (B6 c rt[j]) s) l∧l.length≤3000)→
     ∃v b,H8 rt f c s (pts.take rt.length) ((pts.take rt.length).length:O) n (i:O) ws ms us=G (v,b)∧(b=F→VoyOk f c s a rt v):=by
    intro k
    induction k with
    | zero=>
     intro i n ws ms us hi hn h1 h2 h3 h4 h5;obtain⟨q,rfl⟩:=sn (n:=n) (by omega);have:i=rt.length:=by omega
     subst this;refine⟨⟨ws,ms,us⟩,F,by rw[hlen]; simp[H8],fun _=>⟨by rw[← hrt]; simp,h1,h2,h3,e6,fun j h=>h4 j h h,fun j h=>h5 j h h,pts,e1,e5⟩⟩
    | succ k ih=>
     intro i n ws ms us hi hn h1 h2 h3 h4 h5;obtain⟨q,rfl⟩:=sn (n:=n) (by omega);have hlt:i<rt.length:=by omega
     have hlt':i<(pts.take rt.length).length:=by omega
     have hx:=e6 _ (Z hlt);have hpt:=e3 _ (yE (Z hlt'));obtain⟨l,g1,g2,g3⟩:=Vb hf hc hs hx;rw[H8];simp only[Ag,hlt',decide_true,if_true,Ad hlt',Ad hlt,Y,(Py (⟨[],E⟩:Xa) hpt).1,(BS hx).1,Lh,g1];rw[if_pos (AO (by omega) (by simp) (by omega)),if_pos (AO (by omega) (by simp) (by omega)),if_pos (AO (by omega) (by simp) (by omega)),Am hlt (Ab (by omega))];refine ih (i+1) q _ _ _ (by omega) (by omega) (by simp; omega) (by simp; omega) (by simp; omega) (fun j hj1 hj2=> ?_) fun j hj1 hj2=> ?_
     ·by_cases hji:j=i
      ·subst hji; subst h2; simp
      ·rw[yI (by omega)]; exact h4 j hj1 (by omega)
     ·by_cases hji:j=i
      ·subst hji; subst h3; exact⟨l,by simp,g2,g3⟩
      ·rw[yI (by omega)]; exact h5 j hj1 (by omega)
   exact key rt.length 0 bigN [] [] [] (by omega) (Al (Ab (by omega))) X X X (fun j _ h=>by omega) fun j _ h=>by omega
def Hp(y:X6):N U:= [y.i0,y.i1,y.i2,y.i3,y.i4,y.i5,y.i6,y.i7]
def Mz(y:X6):V:=(Hp y).countP fun b=> !b
theorem oi(y:X6){n:V}(hn:n<8):Hp (X6.set y n F)=(Hp y).set n F:=by
 have:n=0∨n=1∨n=2∨n=3∨n=4∨n=5∨n=6∨n=7:=by omega
 rcases this with rfl|rfl|rfl|rfl|rfl|rfl|rfl|rfl<;>rfl
theorem aY{l:N U}:∀{n:V},l[n]?=G E→((l.set n F).countP fun b=> !b)+1=l.countP fun b=> !b:=by
 induction l with
 | nil=>intro n h; simp at h
 | cons a l ih=>
  intro n h;cases n with
  | zero=>simp only[yJ,zD] at h; subst h; simp
  | succ n=>
   simp only[List.getElem?_cons_succ] at h;have:=ih h;simp only[yT,List.countP_cons];omega
theorem RH{y:X6}{a:O}(h:ix (Hp y) a=G E):Mz (X6.set y (Int.toNat a) F)+1=Mz y∧0≤a∧a<8:=by
 have hg:=AJ h;have hl:(Hp y).length=8:=rfl
 have ha:0≤a:=by
  unfold ix at h;split at h
  ·rename_i h1; exact h1
  ·cases h
 have hn:a.toNat<8:=by
  have:=(List.getElem?_eq_some_iff.1 hg).1;omega
 refine⟨?_,ha,by omega⟩;unfold Mz;rw[oi y hn];exact aY hg
theorem My{l:N O}(h:l.length≤1000):Bn l=G l:=by
 unfold Bn BT;rw[if_pos ⟨by omega,by omega,by omega,by omega⟩];simp only[Y,kF,yR,zZ];rw[if_pos (by simp only[A7,zU,decide_eq_true_eq]; omega)]
theorem oE{c:X5}(hc:AH c=F):∀(u n:V) (a b:O) (rt:N O) (y:X6) (out:N (N O)),u<n→Mz y≤u→ix (Hp y) a=G E→rt.length+u≤100→out.length+10 ^ u≤100000000→
  ∃r,Ey n c a b rt y out=G r∧r.length≤out.length+10 ^ u∧∀x∈r,x∈out∨x.length≤100:=by
 obtain⟨_,hs10,_,_⟩:=Cb hc;intro u
 induction u with
 | zero=>
  intro n a b rt y out hn hu hi;have:=(RH hi).1;omega
 | succ u ih=>
  intro n a b rt y out hn hu hi hr ho;obtain⟨q,rfl⟩:=sn (n:=n) (by omega);obtain⟨hc1,ha0,ha8⟩:=RH hi;have hp:10 ^ (u+1)=10*10 ^ u:=by rw[Nat.pow_succ]; omega
  have hp1:0<10 ^ u:=Nat.pow_pos (by omega);rw[Ey,MF];by_cases hab:(a==b)=F
  ·rw[if_pos hab,My (by omega),Y,if_pos (AO (by omega) (by simp) (by omega))];refine⟨_,X,by simp; omega,fun x hx=> ?_⟩;rcases zJ.1 hx with hx|hx
   ·exact Or.inl hx
   ·simp only[zE] at hx; subst hx; exact Or.inr (by omega)
  ·rw[if_neg hab,if_pos (by simp; omega)];generalize hy:X6.set y (Int.toNat a) F=y'
   have hy':(⟨y'.i0,y'.i1,y'.i2,y'.i3,y'.i4,y'.i5,y'.i6,y'.i7⟩:X6)=y':=rfl;rw[hy'];rw[hy] at hc1
   have key:∀(k i m:V) (o:N (N O)),i+k=c.Segments.length→k<m→o.length≤out.length+i*10 ^ u→(∀x∈o,x∈out∨x.length≤100)→
     ∃r,Ex (Ey q) a b rt c y' m (i:O) o=G r∧r.length≤out.length+c.Segments.length*10 ^ u∧∀x∈r,x∈out∨x.length≤100:=by
    intro k
    induction k with
    | zero=>
     intro i m o hi hm hl hx;obtain⟨p,rfl⟩:=sn (n:=m) (by omega);have:i=c.Segments.length:=by omega
     subst this;exact⟨o,by simp[Ex],hl,hx⟩
    | succ k ihk=>
     intro i m o hi hm hl hx;obtain⟨p,rfl⟩:=sn (n:=m) (by omega);have hlt:i<c.Segments.length:=by omega
     have hsucc:(i+1)*10 ^ u=i*10 ^ u+10 ^ u:=Nat.succ_mul i _;have hle:i*10 ^ u≤9*10 ^ u:=Nat.mul_le_mul_right _ (by omega)
     have go:∀o',o'.length≤out.length+(i+1)*10 ^ u→(∀x∈o',x∈out∨x.length≤100)→∃r,Ex (Ey q) a b rt c y' p (kK .i64 ((i:O)+1)) o'=G r∧r.length≤out.length+c.Segments.length*10 ^ u∧∀x∈r,x∈out∨x.length≤100:=fun o' h1 h2=>by
      rw[Am hlt (Ab (by omega))];exact ihk (i+1) p o' (by omega) (by omega) h1 h2
     rw[Ex];simp only[Ag,hlt,decide_true,if_true,Ad hlt,Y,RY];have he:=RZ hc (Z hlt) a;generalize HB c.Segments[i] a=e at he
     by_cases h0:0≤e
     ·have he':=DD.1 (he.resolve_left (by omega));have hp8:=(Cb hc).1;have hd:(decide (0≤e)&&decide (e<8))=F:=by simp; omega
      simp only[h0,decide_true,if_true,hd,Bool.true_and];rw[if_pos (by simp; omega)];obtain⟨bb,eb⟩:=Tz y' h0 (by omega);rw[eb,Y];cases bb with
      | true=>
       simp only[Gv,kI,I,if_false];exact go o (by omega) hx
      | false=>
       simp only[Gv,kG,if_true];rw[My (by omega),Y,if_pos (AO (by omega) (by simp) (by omega))];obtain⟨r,e1,e2,e3⟩:=ih q e b (rt++ [(i:O)]) y' o (by omega) (by omega) eb (by simp; omega) (by omega);rw[e1,Y]
       exact go r (by omega) fun x h=>by
        rcases e3 x h with h|h
        ·exact hx x h
        ·exact Or.inr h
     ·simp only[h0,decide_false,I,if_false,Gv];exact go o (by omega) hx
   obtain⟨r,e1,e2,e3⟩:=key c.Segments.length 0 bigN out (by omega) (Al (Ab (by omega))) (by omega) fun x hx=>Or.inl hx
   have hle:c.Segments.length*10 ^ u≤10*10 ^ u:=Nat.mul_le_mul_right _ hs10;exact⟨r,e1,by omega,e3⟩
theorem Zs{c:X5}(hc:AH c=F)(a b:O):∃r,Kg c a b=G r∧r.length≤100000000∧∀x∈r,x.length≤100:=by
 have hp8:=(Cb hc).1;have nil_:∃r,G ([]:N (N O))=G r∧r.length≤100000000∧∀x∈r,x.length≤100:=⟨[],rfl,by simp,fun x h=>by cases h⟩;unfold Kg OW;rw[D4 (Cb hc).2.2.1,hc,Y,if_pos rfl,CN,Y,CN];cases ha:idx a c.Points.length with
 | false=>simpa using nil_
 | true=>
  simp only[if_true,Y];cases hb:idx b c.Points.length with
  | false=>simpa using nil_
  | true=>
   simp only[if_true];have ha':=DD.1 ha
   have hi:ix (Hp ⟨E,E,E,E,E,E,E,E⟩) a=G E:=by
    obtain⟨n,rfl⟩:∃n:V,a=(n:O):=⟨a.toNat,by omega⟩;have:n=0∨n=1∨n=2∨n=3∨n=4∨n=5∨n=6∨n=7:=by omega
    rcases this with rfl|rfl|rfl|rfl|rfl|rfl|rfl|rfl<;>rfl
   obtain⟨r,e1,e2,e3⟩:=oE hc 8 bigN a b [] ⟨E,E,E,E,E,E,E,E⟩ [] (by rw[C9]; omega) (by decide) hi (by simp) (by simp);rw[e1,Y];exact⟨r,X,by simpa using e2,fun x hx=>(e3 x hx).resolve_left (by simp)⟩
theorem Zr{c:X5}(hc:AH c=F)(a b:O):∃rt q,JK c a b=G (rt,q)∧rt.length≤100:=by
 obtain⟨r,e,hl,hx⟩:=Zs hc a b;unfold JK;rw[e,Y];cases r with
 | nil=>exact⟨[],E,by simp,by simp⟩
 | cons r0 rs=>
  have hnz:(((r0::rs).length:O)==(0:O))=E:=by simp; omega
  have hml:(r0::rs).length≤maxLen:=by rw[Bj]; omega
  rw[hnz,if_neg (by simp),show ix (r0::rs) 0=G r0 from rfl,Y];have h0:r0.length≤100:=hx r0 (by simp);generalize r0::rs=l at hl hx hml
  have key:∀(k i n:V) (v:N O),i+k=l.length→k<n→v.length≤100→∃rt q,Fm l c n v (i:O)=G (rt,q)∧rt.length≤100:=by
   intro k
   induction k with
   | zero=>
    intro i n v hi hn hv;obtain⟨q,rfl⟩:=sn (n:=n) (by omega);have:i=l.length:=by omega
    subst this;exact⟨v,F,by simp[Fm],hv⟩
   | succ k ih=>
    intro i n v hi hn hv;obtain⟨q,rfl⟩:=sn (n:=n) (by omega);have hlt:i<l.length:=by omega
    have hli:=hx _ (Z hlt);obtain⟨m1,e1⟩:=Ur hc l[i] (by omega);obtain⟨m2,e2⟩:=Ur hc v (by omega);rw[Fm];simp only[Ag,hlt,decide_true,if_true,Ad hlt,Y,e1,e2,Am hlt hml];by_cases hm:m1<m2
    ·simp only[hm,decide_true,if_true];exact ih (i+1) q _ (by omega) (by omega) hli
    ·simp only[hm,decide_false,I,if_false];exact ih (i+1) q _ (by omega) (by omega) hv
  exact key l.length 0 bigN r0 (by omega) (Al hml) h0
def Ff(f:Xd)(c:X5)(s:X9)(i x:O):Prop:=0≤x∧x+Bk (B6 c i) s≤2880∧∀m,x≤m→m≤x+Bk (B6 c i) s→Hz f c i s m=F
theorem Uz{f:Xd}{c:X5}{s:X9}{i x:O}{l:N X8}(h:Fg (Hz f c i s) (Bk (B6 c i) s) l)(hw:∃w∈l,w.From≤x∧x≤w.To):Ff f c s i x:=by
 obtain⟨w,hm,h1,h2⟩:=hw;obtain⟨a1,_,_,a4⟩:=h w hm;obtain⟨b1,b2⟩:=a4 x h1 h2;exact⟨by omega,b1,b2⟩
structure Sailed (f:Xd) (c:X5) (s:X9) (rt:N O) (start:O) (m:V) (l:N O):Prop where
 fst:l[0]?=G start
 saf:∀j (h:j<rt.length),j≤m→∃x,l[j]?=G x∧Ff f c s rt[j] x
 ord:∀j (h:j+1<rt.length),j+1≤m→∃x y,l[j]?=G x∧l[j+1]?=G y∧x+Bk (B6 c rt[j]) s≤y
theorem Sailed.at{f:Xd}{c:X5}{s:X9}{rt:N O}{start:O}{l:N O}(H:Sailed f c s rt start rt.length l):∀i (h:i<rt.length),∃x,l[i]?=G x∧Ff f c s rt[i] x:=fun i h=>H.saf i h (by omega)
theorem Sailed.ge{f:Xd}{c:X5}{s:X9}{rt:N O}{start:O}{l:N O}(hc:AH c=F)(hg:∀x∈rt,idx x c.Segments.length=F)(H:Sailed f c s rt start rt.length l):∀i,i<rt.length→∀x,l[i]?=G x→start≤x:=by
 intro i
 induction i with
 | zero=>
  intro hi x hx;rw[H.fst] at hx
  simp only[zD] at hx
  omega
 | succ i ih=>
  intro hi x hx;obtain⟨y,z,e1,e2,e3⟩:=H.ord i hi (by omega);rw[e2] at hx
  simp only[zD] at hx
  have:=ih (by omega) y e1;have:=(IX (s:=s) hc (hg _ (Z (show i<rt.length by omega)))).1;omega
theorem oU{f:Xd}{c:X5}{s:X9}{a:O}{rt:N O}{v:Xk}(hc:AH c=F)(hv:VoyOk f c s a rt v)(hl:rt.length≤1000)(start:O) :
  ∃l b,KI v start=G (l,b)∧(b=F→l.length=rt.length∧Sailed f c s rt start rt.length l):=by
 have none_:∃l b,(G (([]:N O),E):Option (N O × U))=G (l,b)∧(b=F→l.length=rt.length∧Sailed f c s rt start rt.length l):=⟨[],E,rfl,fun h=>by cases h⟩;have h0:0<rt.length:=zR.2 hv.ne;obtain⟨l0,g1,g2,g3⟩:=hv.sure 0 h0;unfold KI;have e0:ix v.sure 0=G l0:=by rw[show(0:O)=((0:V):O) from rfl,Br,g1]
 obtain⟨b,e1,e2⟩:=hU (l:=l0) (a:=start) (by omega);rw[e0,Y,e1,Y];cases b with
 | false=>simpa using none_
 | true=>
  simp only[if_true];have hs0:=Uz g2 (e2 rfl)
  have key:∀(k i n:V) (acc:N O),i+1+k=rt.length→k<n→acc.length=i+1→Sailed f c s rt start i acc→
    ∃l b,E5 v n ((i+1:V):O) acc=G (l,b)∧(b=F→l.length=rt.length∧Sailed f c s rt start rt.length l):=by
   intro k
   induction k with
   | zero=>
    intro i n acc hi hn ha hj;obtain⟨q,rfl⟩:=sn (n:=n) (by omega);have hu:¬(i+1<v.sure.length):=by rw[hv.u]; omega
    exact⟨acc,F,by simp only[E5,Ag,hu,decide_false,I,if_false],fun _=>⟨by omega,hj.fst,fun j h _=>hj.saf j h (by omega),fun j h _=>hj.ord j h (by omega)⟩⟩
   | succ k ih=>
    intro i n acc hi hn ha hj;obtain⟨q,rfl⟩:=sn (n:=n) (by omega);have hu:i+1<v.sure.length:=by rw[hv.u]; omega
    have hlt:i+1<rt.length:=by omega
    obtain⟨x,f1,f2,f3,f4⟩:=hj.saf i (by omega) (yS i);have hm:=hv.mins i (by omega);obtain⟨mb1,mb2⟩:=IX (s:=s) hc (hv.seg _ (Z (show i<rt.length by omega)));obtain⟨l,w1,w2,w3⟩:=hv.sure (i+1) hlt;have ep:kK .i64 (((i+1:V):O) - 1)=(i:O):=by rw[A8 (by omega) (by omega)]; omega
    have ew:kK .i64 (x+Bk (B6 c rt[i]) s)=x+Bk (B6 c rt[i]) s:=A8 (by omega) (by omega);obtain⟨r,n1,n2⟩:=mH (l:=l) (a:=kK .i64 (x+Bk (B6 c rt[i]) s)) (by omega) fun w hw=>⟨(w2 w hw).1,(w2 w hw).2.1,(w2 w hw).2.2.1⟩
    rw[E5];simp only[Ag,hu,decide_true,if_true,ep,Br,f1,hm,w1,Y,n1];by_cases hr:r<0
    ·simp only[hr,decide_true,if_true,EQ];exact none_
    ·simp only[hr,decide_false,I,if_false];have hn2:=n2.resolve_left (by omega);have hsa:=Uz w2 hn2.2;have hle:=hn2.1;rw[ew] at hle
     have go:∀bb,∃l b,EQ ((i+1:V):O) r v acc (E5 v q) bb=G (l,b)∧(b=F→l.length=rt.length∧Sailed f c s rt start rt.length l):=by
      intro bb;cases bb with
      | true=>simp only[EQ,if_true]; exact none_
      | false=>
       simp only[EQ,I,if_false];rw[if_pos (AO (by omega) (by simp) (by omega)),Am hlt (Ab (by omega))];have hr1:(acc++ [r])[i+1]?=G r:=by rw[← ha]; simp
       have hlo:∀j,j≤i→(acc++ [r])[j]?=acc[j]?:=fun j hj=>yI (by omega)
       refine ih (i+1) q _ (by omega) (by omega) (by simp; omega) ⟨by rw[hlo 0 (by omega)]; exact hj.fst,fun j h1 h2=> ?_,fun j h1 h2=> ?_⟩
       ·by_cases hji:j=i+1
        ·subst hji;exact⟨r,hr1,hsa⟩
        ·rw[hlo j (by omega)];exact hj.saf j h1 (by omega)
       ·by_cases hji:j=i
        ·subst hji;exact⟨x,r,by rw[hlo j (by omega)]; exact f1,hr1,hle⟩
        ·rw[hlo j (by omega),hlo (j+1) (by omega)];exact hj.ord j h1 (by omega)
     by_cases hlt2:kK .i64 (x+Bk (B6 c rt[i]) s)<r
     ·simp only[hlt2,decide_true,if_true];have hwt:i+1<v.waits.length:=by rw[hv.w]; omega
      rw[C hwt,Y];exact go _
     ·simp only[hlt2,decide_false,I,if_false];exact go _
  refine key (rt.length - 1) 0 bigN [start] (by omega) (Al (Ab (by omega))) X ⟨X,fun j h1 h2=> ?_,fun j h1 h2=>by omega⟩;have:j=0:=by omega
  subst this;exact⟨start,X,hs0⟩
theorem nA{f:Xd}{c:X5}{s:X9}{a sh:O}{rt st:N O}{v:Xk}(hc:AH c=F)(hs:BO s=F)(hv:VoyOk f c s a rt v)(hl:rt.length≤1000)
  (h1:st.length=rt.length) (h2:∀i (h:i<rt.length),∃x,st[i]?=G x∧Ff f c s rt[i] x) :
  ∃ps,K7 c sh s a rt st=G ps∧(ps.length=rt.length∧ps.map X2.Segment=rt∧ps.map X2.Start=st)∧∀p∈ps,p.Ship=sh∧idx p.Segment c.Segments.length=F∧p.End=p.Start+Bk (B6 c p.Segment) s∧Ff f c s p.Segment p.Start∧∃i,i<rt.length∧st[i]?=G p.Start:=by
 obtain⟨pts,r1,r2⟩:=hv.rok;have hn:=(Cb hc).2.2.1;unfold K7 GS EH;simp only[D4 hn,Hj (HC hs),hc,hs,Y,if_true,r1,h1];rw[if_neg (by simp)]
 have key:∀(k i n:V) (acc:N X2),i+k=rt.length→k<n→acc.map X2.Segment=rt.take i→acc.map X2.Start=st.take i→(∀p∈acc,p.Ship=sh∧idx p.Segment c.Segments.length=F∧p.End=p.Start+Bk (B6 c p.Segment) s∧Ff f c s p.Segment p.Start∧∃i,i<rt.length∧st[i]?=G p.Start)→
   ∃ps,GM sh st rt c s pts n (i:O) acc=G ps∧(ps.length=rt.length∧ps.map X2.Segment=rt∧ps.map X2.Start=st)∧∀p∈ps,p.Ship=sh∧idx p.Segment c.Segments.length=F∧p.End=p.Start+Bk (B6 c p.Segment) s∧Ff f c s p.Segment p.Start∧∃i,i<rt.length∧st[i]?=G p.Start:=by
  intro k
  induction k with
  | zero=>
   intro i n acc hi hn ha hb hp;obtain⟨q,rfl⟩:=sn (n:=n) (by omega);have:i=rt.length:=by omega
   subst this;rw[zL] at ha
   rw[← h1,zL] at hb
   exact⟨acc,by simp[GM],⟨by rw[← ha]; simp,ha,hb⟩,hp⟩
  | succ k ih=>
   intro i n acc hi hn ha hb hp;obtain⟨q,rfl⟩:=sn (n:=n) (by omega);have hlt:i<rt.length:=by omega
   have hal:acc.length=i:=by have:=congrArg kD ha; simp at this; omega
   obtain⟨x,x1,x2⟩:=h2 i hlt;have hseg:=hv.seg _ (Z hlt);obtain⟨mb1,mb2⟩:=IX (s:=s) hc hseg;have x2':=x2;obtain⟨y1,y2,y3⟩:=x2';have hpt:i<pts.length:=by omega
   have hmi:(decide (0≤x)&&decide (x≤2880))=F:=by simp; omega
   rw[GM];simp only[Ag,hlt,decide_true,if_true,Ad hlt,Br st,x1,Y,FU,hmi,(BS hseg).1,Ad hpt,Lh];rw[if_pos (AO (by omega) (by simp) (by omega)),Am hlt (Ab (by omega)),A8 (n:=x+_) (by omega) (by omega)];have hsl:i<st.length:=by omega
   have x3:=x1;rw[C hsl,zD] at x3
   have hst:∀q:X2,q.Start=x→(acc++ [q]).map X2.Start=st.take (i+1):=fun q hq=>(by rw[yP,hb,zB hsl,x3,← hq]; rfl)
   refine ih (i+1) q _ (by omega) (by omega) (by rw[yP,ha,zB hlt]; rfl) (hst _ X) fun p hpm=> ?_
   rcases zJ.1 hpm with hpm|hpm
   ·exact hp p hpm
   ·simp only[zE] at hpm
    subst hpm;exact⟨X,hseg,X,x2,i,hlt,x1⟩
 exact key rt.length 0 bigN [] (by omega) (Al (Ab (by omega))) (by simp) (by simp) fun p hp=>by cases hp
theorem oD{c:X5}(hc:AH c=F){rt:N O}(hl:rt.length≤1000)(hs:∀x∈rt,idx x c.Segments.length=F):∃r,EG c rt=G r∧0≤r:=by
 unfold EG;rw[D4 (Cb hc).2.2.1,hc,Y,if_pos rfl]
 have key:∀(k i n:V) (v:O),i+k=rt.length→k<n→0≤v→v≤240*i→∃r,DX rt c n v (i:O)=G r∧0≤r:=by
  intro k
  induction k with
  | zero=>
   intro i n v hi hn h0 h1;obtain⟨q,rfl⟩:=sn (n:=n) (by omega);have:i=rt.length:=by omega
   subst this;exact⟨v,by simp[DX],h0⟩
  | succ k ih=>
   intro i n v hi hn h0 h1;obtain⟨q,rfl⟩:=sn (n:=n) (by omega);have hlt:i<rt.length:=by omega
   have hx:=hs _ (Z hlt);obtain⟨_,_,m1,m2⟩:=(LN hc).2.2 _ (BS hx).2;rw[DX];simp only[Ag,hlt,decide_true,if_true,Ad hlt,Y,CN,Am hlt (Ab (by omega)),hx,(BS hx).1];rw[A8 (n:=v+_) (by omega) (by omega)];exact ih (i+1) q _ (by omega) (by omega) (by omega) (by omega)
 exact key rt.length 0 bigN 0 (by omega) (Al (Ab (by omega))) (by omega) (by omega)
theorem YS{f:Xd}{c:X5}{s:X9}{a start:O}{rt st:N O}{v:Xk}(hc:AH c=F)(hs:BO s=F)(hv:VoyOk f c s a rt v)(hl:rt.length≤1000)(h1:st.length=rt.length)
  (h2:Sailed f c s rt start rt.length st):∃r,JI c s rt st=G r∧r≤2880∧start+v.minutes.sum≤r:=by
 obtain⟨r0,e0,p0⟩:=oD hc hl hv.seg;have hpos:0<rt.length:=zR.2 hv.ne
 have acc:∀i,i<rt.length→∃x m,st[i]?=G x∧v.minutes[i]?=G m∧start+(v.minutes.take (i+1)).sum≤x+m:=by
  intro i
  induction i with
  | zero=>
   intro hi;have hm:=hv.mins 0 hi;have hlm:0<v.minutes.length:=by rw[hv.m]; omega
   refine⟨start,_,h2.fst,hm,?_⟩;rw[zB hlm];have:=C hlm;rw[hm] at this
   simp only[zD] at this
   rw[← this];simp
  | succ i ih=>
   intro hi;obtain⟨x,m,x1,x2,x3⟩:=ih (by omega);obtain⟨x',y,y1,y2,y3⟩:=h2.ord i hi (by omega);have hm:=hv.mins (i+1) hi;have hm0:=hv.mins i (by omega);have hlm:i+1<v.minutes.length:=by rw[hv.m]; omega
   rw[x1] at y1
   rw[x2] at hm0
   simp only[zD] at y1 hm0
   subst y1;refine⟨y,_,y2,hm,?_⟩;rw[zB hlm];have:=C hlm;rw[hm] at this
   simp only[zD] at this
   rw[← this,List.sum_append];simp only[yV,List.sum_nil];omega
 obtain⟨x,m,x1,x2,x3⟩:=acc (rt.length - 1) (by omega);obtain⟨y,y1,y2,y3,_⟩:=h2.at (rt.length - 1) (by omega);have hm:=hv.mins (rt.length - 1) (by omega);rw[x1] at y1
 rw[x2] at hm
 simp only[zD] at y1 hm
 subst y1;rw[zS (by rw[hv.m]; omega)] at x3
 have hseg:=hv.seg _ (Z (show rt.length - 1<rt.length by omega));obtain⟨mb1,mb2⟩:=IX (s:=s) hc hseg;have hmi:(decide (0≤x)&&decide (x≤2880))=F:=by simp; omega
 unfold JI;simp only[e0,Y,Hj (HC hs),hs,if_true,h1,show ¬r0<0 by omega,decide_false,I,if_false];rw[if_neg (by simpa using hv.ne),if_neg (by simp)];have ep:kK .i64 ((rt.length:O) - 1)=((rt.length - 1:V):O):=by rw[A8 (by omega) (by omega)]; omega
 rw[ep,Br,x1,Y,FU,Y,if_pos hmi,Ad (show rt.length - 1<rt.length by omega),Y,(BS hseg).1,Y,Lh,Y];rw[A8 (n:=x+_) (by omega) (by omega)];exact⟨_,X,by omega,by omega⟩
structure OptOk (h:X3) (a:X7) (o:X0):Prop where
 pos:0<o.Passages.length
 len:o.Passages.length≤100
 pass:∀p∈o.Passages,p.Ship=a.Ship∧CP h.Chart h.Fleet p=F∧Ff h.Forecast h.Chart (Bo h.Fleet a.Ship) p.Segment p.Start∧p.End=p.Start+Bk (B6 h.Chart p.Segment) (Bo h.Fleet a.Ship)
 start:a.Ready≤o.Start∧o.Start≤a.Due
 cost:0≤o.Cost∧o.Cost≤2880
 late:∀p∈o.Passages,o.Start≤p.Start
 fst:∀q,o.Passages[0]?=G q→q.Start=o.Start
 st64:0≤o.Start∧o.Start≤o.Arrival∧o.Arrival≤2880
 again:∃v,FA h a (o.Passages.map X2.Segment)=G (v,F)∧EN h a v (o.Passages.map X2.Segment) o.Start=G (o,F)
theorem mh{h:X3}{a:X7}{rt:N O}{v:Xk}(hc:AH h.Chart=F)(hsh:idx a.Ship h.Fleet.length=F)(hs:BO (Bo h.Fleet a.Ship)=F)
  (hv:VoyOk h.Forecast h.Chart (Bo h.Fleet a.Ship) a.From rt v) (hcv:FA h a rt=G (v,F)) (hl:rt.length≤100) (start:O) (hr:0≤a.Ready) (h0:a.Ready≤start) (h1:start≤a.Due):∃o b,EN h a v rt start=G (o,b)∧(b=F→OptOk h a o):=by
 obtain⟨st,b,e1,e2⟩:=oU hc hv (by omega) start
 have hmb:∀m∈v.minutes,1≤m∧m≤480:=fun m hm=>by
  obtain⟨i,hi,rfl⟩:=zF hm;have hir:i<rt.length:=by rw[← hv.m]; exact hi
  have:=hv.mins i hir;rw[C hi] at this
  simp only[zD] at this
  rw[this];exact IX hc (hv.seg _ (Z hir))
 have hsum:∀l:N O,(∀m∈l,1≤m∧m≤480)→0≤l.sum∧l.sum≤480*(l.length:O):=fun l=>by
  induction l with
  | nil=>intro _; simp
  | cons x l ih=>
   intro hl;have:=hl x (by simp);have:=ih fun m hm=>hl m (by simp[hm])
   simp only[yV,zK];omega
 have hml:=hv.m;cases b with
 | false=>exact⟨_,E,by unfold EN; rw[e1]; rfl,fun h=>by cases h⟩
 | true=>
  obtain⟨s1,s2⟩:=e2 rfl;obtain⟨ps,p1,⟨p2,p4,p5⟩,p3⟩:=nA (sh:=a.Ship) hc hs hv (by omega) s1 s2.at;obtain⟨r,r1,r2,r3⟩:=YS hc hs hv (by omega) s1 s2;have b0:=hsum v.minutes hmb
  have key:∀(k i n:V),i+k=v.minutes.length→k<n→H5 v start r ps n (i:O) (r - a.Ready - (v.minutes.take i).sum)=G (⟨start,r,r - a.Ready - v.minutes.sum,ps⟩,decide (r≤2880)):=by
   intro k
   induction k with
   | zero=>
    intro i n hi hn;obtain⟨q,rfl⟩:=sn (n:=n) (by omega);have:i=v.minutes.length:=by omega
    subst this;rw[zL];simp[H5]
   | succ k ih=>
    intro i n hi hn;obtain⟨q,rfl⟩:=sn (n:=n) (by omega);have hlt:i<v.minutes.length:=by omega
    have b1:=hsum (v.minutes.take i) fun m hm=>hmb m (yE hm)
    have b2:=hmb _ (Z hlt);have b3:((v.minutes.take i).length:O)≤100:=by simp only[yY]; omega
    have ei:=ih (i+1) q (by omega) (by omega);rw[zB hlt,List.sum_append] at ei
    simp only[yV,List.sum_nil] at ei
    rw[H5];simp only[Ag,hlt,decide_true,if_true,Ad hlt,Y,Am hlt (Ab (by omega))];rw[A8 (by omega) (by omega)];rw[← ei];congr 1
    omega
  have ek:=key v.minutes.length 0 bigN (by omega) (Al (Ab (by omega)));simp only[List.take_zero,List.sum_nil,Int.sub_zero] at ek
  have eo:EN h a v rt start=G (⟨start,r,r - a.Ready - v.minutes.sum,ps⟩,decide (r≤2880)):=by
   unfold EN;rw[e1,Y];simp only[if_true,(EW hsh).1,Y,p1,r1];rw[A8 (n:=r - _) (by omega) (by omega)];exact ek
  have pfst:∀q,ps[0]?=G q→q.Start=start:=fun q hq=>by
   have e5:(ps.map X2.Start)[0]?=G q.Start:=by rw[yL,hq]; rfl
   rw[p5,s2.fst,zD] at e5
   exact e5.symm
  refine⟨_,_,eo,fun _=>⟨by simp only; rw[p2]; exact zR.2 hv.ne,by simp only; omega,fun p hp=> ?_,⟨h0,h1⟩,⟨by simp only; omega,by simp only; omega⟩,fun p hp=>(by
   obtain⟨_,_,_,_,i,hi,e⟩:=p3 p hp;exact s2.ge hc hv.seg i hi _ e),fun q hq=>pfst q hq,⟨by simp only; omega,by simp only; omega,by simp only; omega⟩,v,by simp only[p4]; exact hcv,by simp only[p4]; rw[eo]; simp; omega⟩⟩
  obtain⟨q1,q2,q3,q4,_⟩:=p3 p hp;refine⟨q1,?_,q4,q3⟩;obtain⟨q5,q6,_⟩:=q4;obtain⟨mb1,mb2⟩:=IX (s:=Bo h.Fleet a.Ship) hc q2;simp only[CP,Cg,zA,decide_eq_true_eq,q1];exact⟨hsh,q2,⟨by omega,by omega⟩,by omega,by rw[A8 (by omega) (by omega)]; exact q3⟩
def Ca(h:X3)(a:X7):U:=idx a.Ship h.Fleet.length&&(idx a.From h.Chart.Points.length&&(idx a.To h.Chart.Points.length&&(decide (a.From≠a.To)&&(Cg a.Ready&&(decide (a.Ready≤a.Due)&&decide (a.Due≤2880))))))
theorem Te(h:X3)(a:X7):Ip h a=G (Ca h a):=by
 unfold Ip Ca;simp only[CN,Y,FU,CS,Rr,Cg,Ta];cases idx a.Ship h.Fleet.length<;>cases idx a.From h.Chart.Points.length<;>cases idx a.To h.Chart.Points.length<;>simp[bne_iff_ne]
theorem Tb{h:X3}(s:HSmall h)(a:X7):Ic h a=G (As h&&Ca h a):=by
 unfold Ic;rw[Pv s,Y,Te];cases As h<;>rfl
theorem NT{h:X3}{a:X7}(s:HSmall h)(hh:As h=F)(ha:Ca h a=F):∃l,CY h a=G l∧l.length≤8∧∀o∈l,OptOk h a o:=by
 have hh':=hh;simp only[As,zA] at hh'
 obtain⟨hf,hc,hfl,_,_⟩:=hh';have ha':=ha;simp only[Ca,zA,Cg,decide_eq_true_eq] at ha'
 obtain⟨i1,i2,i3,_,⟨m1,m2⟩,d1,d2⟩:=ha';have hs:=(FR hfl).2 _ (EW i1).2;obtain⟨rt,q,b1,b2⟩:=Zr hc a.From a.To;obtain⟨v,b,v1,v2⟩:=qg hf hc hs rt a.From (by omega);obtain⟨pts,pb,t1,_⟩:=Ue hc rt a.From (by omega)
 have hcv:∃v' b',FA h a rt=G (v',b')∧(b'=F→VoyOk h.Forecast h.Chart (Bo h.Fleet a.Ship) a.From rt v'):=by
  unfold FA EH;simp only[D4 (Cb hc).2.2.1,hc,Y,if_true,t1]
  have go:∀bb,∃v' b',Iq rt h a bb=G (v',b')∧(b'=F→VoyOk h.Forecast h.Chart (Bo h.Fleet a.Ship) a.From rt v'):=fun bb=>by
   cases bb with
   | true=>exact⟨_,E,rfl,fun h=>by cases h⟩
   | false=>
    simp only[Iq,I,if_false,(EW i1).1,Y,v1];exact⟨v,b,X,v2⟩
  cases pts with
  | nil=>exact go F
  | cons p0 pr=>
   rw[if_neg (by simp; omega)];have hlen:(p0::pr).length≤1000:=by omega
   have ep:kK .i64 (((p0::pr).length:O) - 1)=(((p0::pr).length - 1:V):O):=by rw[A8 (by omega) (by omega)]; simp
   rw[ep,Ad (show(p0::pr).length - 1<(p0::pr).length by simp),Y];exact go _
 obtain⟨v',b',w1,w2⟩:=hcv;have nil_:∃l,G ([]:N X0)=G l∧l.length≤8∧∀o∈l,OptOk h a o:=⟨[],rfl,by simp,fun o ho=>by cases ho⟩;unfold CY;rw[Tb s,hh,ha,Y];simp only[kJ,if_true,b1,Y,w1];cases q with
 | false=>simpa using nil_
 | true=>
  simp only[if_true];cases b' with
  | false=>simpa using nil_
  | true=>
   simp only[if_true];have hv:=w2 rfl
   have key:∀(k n:V) (m:O) (l:N X0),2881 - m≤(k:O)→k<n→a.Ready≤m→l.length≤8→(∀o∈l,OptOk h a o)→∃l',Fv (rt,F) h a (v',F) n m l=G l'∧l'.length≤8∧∀o∈l',OptOk h a o:=by
    intro k
    induction k with
    | zero=>
     intro n m l hk hn hm hl ho;obtain⟨q,rfl⟩:=sn (n:=n) (by omega);have:¬m≤a.Due:=by omega
     exact⟨l,by simp only[Fv,this,decide_false,I,if_false],hl,ho⟩
    | succ k ih=>
     intro n m l hk hn hm hl ho;obtain⟨q,rfl⟩:=sn (n:=n) (by omega);rw[Fv];by_cases hd:m≤a.Due
     ·simp only[hd,decide_true,if_true];by_cases h8:(l.length:O)<8
      ·simp only[h8,decide_true,if_true];obtain⟨o,ob,o1,o2⟩:=mh hc i1 hs hv w1 b2 m m1 hm hd;rw[o1,Y];have wm:kK .i64 (m+15)=m+15:=A8 (by omega) (by omega);cases ob with
       | false=>
        simp only[I,if_false,Ij,wm];exact ih q (m+15) l (by omega) (by omega) (by omega) hl ho
       | true=>
        simp only[if_true,Ij,wm];rw[if_pos (AO (by omega) (by simp) (by omega))];refine ih q (m+15) _ (by omega) (by omega) (by omega) (by simp; omega) fun o' ho'=> ?_
        rcases zJ.1 ho' with ho' | ho'
        ·exact ho o' ho'
        ·simp only[zE] at ho'; subst ho'; exact o2 rfl
      ·simp only[h8,decide_false,I,if_false];exact⟨l,X,hl,ho⟩
     ·simp only[hd,decide_false,I,if_false];exact⟨l,X,hl,ho⟩
   exact key 2881 bigN a.Ready [] (by omega) (by rw[C9]; omega) (by omega) (by simp) fun o ho=>by cases ho
theorem nH{c:X4}{l:N O}(h:CurOk c)(h0:0<l.length)(hl:l.length≤1000):∃x c',KT c l=G (x,c')∧CurOk c'∧x∈l:=by
 obtain⟨v,c',e,h1,p,q,_⟩:=AS (n:=(l.length:O)) h (by omega);have q:=q (by omega);obtain⟨n,rfl⟩:∃n:V,v=(n:O):=⟨v.toNat,by omega⟩;have hn:n<l.length:=by omega
 exact⟨l[n],c',by simp only[KT,e,Y,Ad hn],h1,Z hn⟩
theorem mz{c:X4}(h:CurOk c):∃x c',DB c=G (x,c')∧CurOk c'∧Eg x=F:=by
 obtain⟨v1,c1,e1,h1,p1,q1,_⟩:=AS (n:=300) h (by omega);obtain⟨v2,c2,e2,h2,m2⟩:=nH (l:= [744,720,1440,372,240]) h1 (by simp) (by simp)
 have b2:4≤v2∧v2≤2880∧G1 v2=F:=by
  simp only[zI,zN,or_false] at m2
  rcases m2 with rfl|rfl|rfl|rfl|rfl<;>exact⟨by omega,by omega,by kernel_rfl⟩
 obtain⟨v3,c3,e3,h3,p3,q3,_⟩:=AS (n:=v2) h2 (by omega);have q1:=q1 (by omega); have q3:=q3 (by omega);refine⟨⟨v1,v2,v3⟩,c3,by simp only[DB,e1,e2,e3,Y],h3,?_⟩;simp only[Eg,zA,decide_eq_true_eq,b2.2.2];rw[A8 (by omega) (by omega)];exact⟨⟨by omega,by omega⟩,trivial,by omega,by omega⟩
theorem Vf{c:X4}(h:CurOk c):∃t c',KU c=G (t,c')∧CurOk c'∧0≤t.Mean∧t.Mean<300∧t.Parts.length≤4∧∀x∈t.Parts,Eg x=F:=by
 obtain⟨v1,c1,e1,h1,p1,q1,_⟩:=AS (n:=300) h (by omega);obtain⟨v2,c2,e2,h2,p2,q2,_⟩:=AS (n:=2) h1 (by omega);have q1:=q1 (by omega); have q2:=q2 (by omega)
 have key:∀(k n:V) (c:X4) (l:N Xh),k<n→CurOk c→l.length+k≤4→(∀x∈l,Eg x=F)→
   ∃t c',Hd (v1,c1) n (k:O) c.b c.i c.h l=G (t,c')∧CurOk c'∧t.Mean=v1∧t.Parts.length≤4∧∀x∈t.Parts,Eg x=F:=by
  intro k
  induction k with
  | zero=>
   intro n c l hn hc hl hx;obtain⟨q,rfl⟩:=sn (n:=n) (by omega);exact⟨⟨v1,l⟩,c,by simp[Hd],hc,X,by simpa using hl,hx⟩
  | succ k ih=>
   intro n c l hn hc hl hx;obtain⟨q,rfl⟩:=sn (n:=n) (by omega);obtain⟨x,c',e,h',px⟩:=mz hc;have e':DB ⟨c.b,c.i,c.h⟩=G (x,c'):=e;have hk:(0:O)<((k+1:V):O):=by omega
   rw[Hd];simp only[hk,decide_true,if_true,e',Y];rw[if_pos (AO (by omega) (by simp) (by omega)),show kK .i64 (((k+1:V):O) - 1)=(k:O) from by rw[A8 (by omega) (by omega)]; omega];refine ih q c' _ (by omega) h' (by simp; omega) fun y hy=> ?_
   rcases zJ.1 hy with hy|hy
   ·exact hx y hy
   ·simp only[zE] at hy; exact hy▸px
 obtain⟨t,c',e3,h3,b1,b2,b3⟩:=key (1+v2).toNat bigN c2 [] (by rw[C9]; omega) h2 (by simp; omega) fun x hx=>(by cases hx)
 refine⟨t,c',?_,h3,by omega,by omega,b2,b3⟩;unfold KU;rw[e1,Y,e2,Y,A8 (by omega) (by omega),show(1:O)+v2=((1+v2).toNat:O) by omega];exact e3
def QY(l:N Xe)(v:O):Prop:=(∀j (h:j<l.length),F7 l[j]=F∧l[j].From<v)∧(∀j (h:j+1<l.length),l[j].From<l[j+1].From)∧(∀h:0<l.length,l[0].From=0)
theorem ee{c:X4}(h:CurOk c):∃f c',IE c=G (f,c')∧CurOk c'∧∀m,-1000≤m→m≤1000→CK ⟨⟨m,f.Tide.Parts⟩,f.Surges⟩=F:=by
 obtain⟨t,c1,e1,h1,m1,m2,l1,px⟩:=Vf h;obtain⟨v2,c2,e2,h2,p2,q2,_⟩:=AS (n:=3) h1 (by omega);have q2:=q2 (by omega)
 have key:∀(k i n:V) (c:X4) (v:O) (l:N Xe),k<n→CurOk c→l.length=i→i+k≤3→0≤v→v≤800*(i:O)→(i=0→v=0)→(i+k≠0)→QY l v→
   (0<i→∀j (h:j<l.length),l[j].From<v)→(∀j (h:j<l.length),l[j].From<v)→
   ∃f c',EU (t,c1) n v (k:O) c.b c.i c.h l=G (f,c')∧CurOk c'∧f.Tide=t∧f.Surges.length=i+k∧∃w,QY f.Surges w:=by
  intro k
  induction k with
  | zero=>
   intro i n c v l hn hc hl hi hv0 hv1 hz hnz hs _ _;obtain⟨q,rfl⟩:=sn (n:=n) (by omega);exact⟨⟨t,l⟩,c,by simp[EU],hc,X,by simpa using hl,v,hs⟩
  | succ k ih=>
   intro i n c v l hn hc hl hi hv0 hv1 hz hnz hs _ hv;obtain⟨q,rfl⟩:=sn (n:=n) (by omega);obtain⟨a,c3,e3,h3,pa,qa,_⟩:=AS (n:=60) hc (by omega);obtain⟨b,c4,e4,h4,pb,qb,_⟩:=AS (n:=60) h3 (by omega);obtain⟨d,c5,e5,h5,pd,qd,_⟩:=AS (n:=700) h4 (by omega);have qa:=qa (by omega); have qb:=qb (by omega); have qd:=qd (by omega);have e3':An ⟨c.b,c.i,c.h⟩ 60=G (a,c3):=e3;have hk:(0:O)<((k+1:V):O):=by omega
   rw[EU];simp only[hk,decide_true,if_true,e3',e4,e5,Y];rw[if_pos (AO (by omega) (by simp) (by omega)),show kK .i64 (((k+1:V):O) - 1)=(k:O) from by rw[A8 (by omega) (by omega)]; omega];rw[A8 (n:=a - 40) (by omega) (by omega),A8 (n:=a - 40+b) (by omega) (by omega),A8 (n:=v+100) (by omega) (by omega),A8 (n:=v+100+d) (by omega) (by omega)];obtain⟨s1,s2,s3⟩:=hs
   have hlast:∀j (h:j<(l++ [(⟨v,a - 40,a - 40+b⟩:Xe)]).length),F7 (l++ [(⟨v,a - 40,a - 40+b⟩:Xe)])[j]=F∧(l++ [(⟨v,a - 40,a - 40+b⟩:Xe)])[j].From<v+100+d:=fun j hj=>by
    by_cases hjl:j<l.length
    ·rw[zC hjl]; exact⟨(s1 j hjl).1,by have:=(s1 j hjl).2; omega⟩
    ·have:j=l.length:=by simp at hj; omega
     subst this;simp only[zM (yS _),yZ,zT,F7,zA,decide_eq_true_eq];exact⟨⟨⟨by omega,by omega⟩,⟨by omega,by omega⟩,by omega,by omega⟩,by omega⟩
   obtain⟨f,c',g1,g2,g3,g4,g5⟩:=ih (i+1) q c5 (v+100+d) (l++ [⟨v,a - 40,a - 40+b⟩]) (by omega) h5 (by simp; omega) (by omega) (by omega) (by omega) (by omega) (by omega)
    ⟨hlast,fun j hj=>by
     simp only[zG,zP] at hj
     by_cases hjl:j+1<l.length
     ·rw[zC hjl,zC (show j<l.length by omega)]; exact s2 j hjl
     ·have:j+1=l.length:=by omega
      rw[zC (show j<l.length by omega),zM (by omega)];simp only[this,yZ,zT];exact(s1 j (by omega)).2,fun hp=>by
     by_cases hl0:0<l.length
     ·rw[zC hl0]; exact s3 hl0
     ·rw[zM (by omega)];have:l.length=0:=by omega
      simp only[Nat.zero_sub,zT];exact hz (by omega)⟩
    (fun _ j hj=>(hlast j hj).2) (fun j hj=>(hlast j hj).2)
   exact⟨f,c',g1,g2,g3,by omega,g5⟩
 obtain⟨f,c',e3,h3,b1,b2,w,w1,w2,w3⟩:=key (1+v2).toNat 0 bigN c2 0 [] (by rw[C9]; omega) h2 rfl (by omega) (by omega) (by omega) (fun _=>rfl) (by omega) ⟨fun j h=>by simp at h,fun j h=>by simp at h,fun h=>by simp at h⟩ (fun h=>by omega) fun j h=>(by simp at h)
 refine⟨f,c',?_,h3,fun m hm1 hm2=> ?_⟩
 ·unfold IE;rw[e1,Y,e2,Y,A8 (by omega) (by omega),show(1:O)+v2=((1+v2).toNat:O) by omega];exact e3
 ·simp only[CK,G9,zA,decide_eq_true_eq,zH,zY,b1];have h0:0<f.Surges.length:=by omega
  refine⟨⟨⟨hm1,hm2⟩,l1,px⟩,⟨by omega,by omega⟩,?_,fun j hj=> ?_⟩
  ·simp only[Qb,C h0,decide_eq_true_eq]; exact w3 h0
  ·simp only[Jc,C hj,zA];refine⟨(w1 j hj).1,?_⟩;cases j with
   | zero=>rfl
   | succ j=>
    have:=w2 j hj;simp only[C (show j<f.Surges.length by omega),Bool.not_eq_true',decide_eq_false_iff_not];omega
theorem aF{c:X4}(hc:CurOk c):∃x c',KV c=G (x,c')∧CurOk c'∧AH x=F∧(4≤x.Points.length∧1≤x.Segments.length):=by
 unfold KV;obtain⟨w1,c1,e1,h1⟩:=F4 (n:=2) hc (by omega);obtain⟨v2,c2,e2,h2,p2,q2,_⟩:=AS (n:=300) h1 (by omega);obtain⟨v3,c3,e3,h3,p3,q3,_⟩:=AS (n:=40) h2 (by omega);obtain⟨v4,c4,e4,h4,p4,q4,_⟩:=AS (n:=300) h3 (by omega);obtain⟨v5,c5,e5,h5,p5,q5,_⟩:=AS (n:=30) h4 (by omega);obtain⟨w6,c6,e6,h6⟩:=F4 (n:=2) h5 (by omega);obtain⟨v7,c7,e7,h7,p7,q7,_⟩:=AS (n:=200) h6 (by omega);obtain⟨v8,c8,e8,h8,p8,q8,_⟩:=AS (n:=20) h7 (by omega);obtain⟨w9,c9,e9,h9⟩:=F4 (n:=3) h8 (by omega);have q2:=q2 (by omega); have q3:=q3 (by omega); have q4:=q4 (by omega); have q5:=q5 (by omega); have q7:=q7 (by omega); have q8:=q8 (by omega);simp only[e1,e2,e3,e4,e5,e6,e7,e8,e9,Y];rw[A8 (n:=900+v2) (by omega) (by omega),A8 (n:=10+v3) (by omega) (by omega),A8 (n:=800+v4) (by omega) (by omega),A8 (n:=10+v5) (by omega) (by omega),A8 (n:=900+v7) (by omega) (by omega),A8 (n:=5+v8) (by omega) (by omega)];cases w9 with
 | true=>
  obtain⟨v10,c10,e10,h10,p10,q10,_⟩:=AS (n:=300) h9 (by omega);obtain⟨v11,c11,e11,h11,p11,q11,_⟩:=AS (n:=30) h10 (by omega);obtain⟨w12,c12,e12,h12⟩:=F4 (n:=3) h11 (by omega);have e12':Cu ⟨c11.b,c11.i,c11.h⟩ 3=G (w12,c12):=e12;obtain⟨v13,c13,e13,h13,p13,q13,_⟩:=AS (n:=300) h12 (by omega);have q10:=q10 (by omega); have q11:=q11 (by omega); have q13:=q13 (by omega);simp only[if_true,e10,e11,Y];rw[Lf (by simp) (by omega),A8 (n:=700+v10) (by omega) (by omega),A8 (n:=20+v11) (by omega) (by omega)];simp only[IF,e12',Y];cases w12 with
  | true=>
   simp only[if_true];rw[Lf (by simp) (by omega)];simp only[e13,Y];rw[Lf (by simp) (by omega),A8 (n:=800+v13) (by omega) (by omega)];refine⟨_,_,X,h13,Mx (by cases w1<;>cases w6<;>kernel_rfl) fun s hs=> ?_,by simp⟩;simp only[kA,zZ,zI,zN,or_false] at hs
   rcases hs with rfl|rfl|rfl|rfl|rfl<;>exact O3 (by omega) (by omega)
  | false=>
   simp only[I,if_false,Y];refine⟨_,_,X,h12,Mx (by cases w1<;>cases w6<;>kernel_rfl) fun s hs=> ?_,by simp⟩;simp only[kA,zZ,zI,zN,or_false] at hs
   rcases hs with rfl|rfl|rfl|rfl<;>exact O3 (by omega) (by omega)
 | false=>
  obtain⟨w12,c12,e12,h12⟩:=F4 (n:=3) h9 (by omega);have e12':Cu ⟨c9.b,c9.i,c9.h⟩ 3=G (w12,c12):=e12;obtain⟨v13,c13,e13,h13,p13,q13,_⟩:=AS (n:=300) h12 (by omega);have q13:=q13 (by omega);simp only[I,if_false,IF,e12',Y];cases w12 with
  | true=>
   simp only[if_true];rw[Lf (by simp) (by omega)];simp only[e13,Y];rw[Lf (by simp) (by omega),A8 (n:=800+v13) (by omega) (by omega)];refine⟨_,_,X,h13,Mx (by cases w1<;>cases w6<;>kernel_rfl) fun s hs=> ?_,by simp⟩;simp only[kA,zZ,zI,zN,or_false] at hs
   rcases hs with rfl|rfl|rfl|rfl<;>exact O3 (by omega) (by omega)
  | false=>
   simp only[I,if_false,Y];refine⟨_,_,X,h12,Mx (by cases w1<;>cases w6<;>kernel_rfl) fun s hs=> ?_,by simp⟩;simp only[zI,zN,or_false] at hs
   rcases hs with rfl|rfl|rfl<;>exact O3 (by omega) (by omega)
def nm:V→N W
 | 0=> [115,48]
 | 1=> [115,49]
 | _=> [115,50]
structure DrawnShip (j:V) (x:X9):Prop where
 n:x.Name=nm j
 a:10≤x.Length∧x.Length≤400
 b:100≤x.Draught∧x.Draught≤2000
 c:0≤x.Line∧x.Line≤3
 d:0≤x.Tugs∧x.Tugs≤4
theorem PL:Dk (nm 0)=F∧Dk (nm 1)=F∧Dk (nm 2)=F:=⟨by kernel_rfl,by kernel_rfl,by kernel_rfl⟩
theorem cQ{j:V}{x:X9}(h:DrawnShip j x):BO x=F:=by
 obtain⟨h1,h2,h3,h4,h5⟩:=h
 have hn:Dk (nm j)=F:=by
  match j with
  | 0=>exact PL.1
  | 1=>exact PL.2.1
  | _+2=>exact PL.2.2
 simp only[BO,h1,hn,zA,decide_eq_true_eq];exact⟨trivial,h2,h3,h4,h5⟩
def Jk(l:N X9):Prop:=∀j (h:j<l.length),DrawnShip j l[j]
theorem eX{l:N X9}(h:Jk l)(hl:l.length≤3):E6 l=F:=by
 have hs:∀j (h':j<l.length),Ei l l[j].Name=(j:O):=by
  have hn:∀j (h':j<l.length),l[j].Name=nm j:=fun j h'=>(h j h').n
  match l,hl,hn with
  | [],_,_=>intro j h'; simp at h'
  | [a],_,hn=>
   have a0:a.Name=nm 0:=hn 0 (by simp);intro j h';have:j=0:=by simp at h'; omega
   subst this;simp only[zT,a0,Ei,F6,zP,yG,List.foldr,yJ,decide_true,if_true]
  | [a,b],_,hn=>
   have a0:a.Name=nm 0:=hn 0 (by simp);have b0:b.Name=nm 1:=hn 1 (by simp);intro j h';have:j=0∨j=1:=by simp at h'; omega
   rcases this with rfl|rfl
   ·simp[a0,b0,Ei,F6,yG,nm]
   ·simp[a0,b0,Ei,F6,yG,nm]
  | [a,b,c],_,hn=>
   have a0:a.Name=nm 0:=hn 0 (by simp);have b0:b.Name=nm 1:=hn 1 (by simp);have c0:c.Name=nm 2:=hn 2 (by simp);intro j h';have:j=0∨j=1∨j=2:=by simp at h'; omega
   rcases this with rfl|rfl|rfl
   ·simp[a0,b0,c0,Ei,F6,yG,nm]
   ·simp[a0,b0,c0,Ei,F6,yG,nm]
   ·simp[a0,b0,c0,Ei,F6,yG,nm]
  | _::_::_::_::_,hl,_=>simp at hl
 simp only[E6,zA,decide_eq_true_eq,zH,zY];refine⟨by omega,fun j hj=> ?_⟩;simp only[L5,C hj,zA,decide_eq_true_eq];exact⟨cQ (h j hj),hs j hj⟩
theorem ou{c:X4}(h:CurOk c){i:V}(hi:i≤2):∃x c',IG c (i:O)=G (x,c')∧CurOk c'∧DrawnShip i x:=by
 obtain⟨v1,c1,e1,h1,p1,q1,_⟩:=AS (n:=200) h (by omega);obtain⟨v2,c2,e2,h2,p2,q2,_⟩:=AS (n:=500) h1 (by omega);obtain⟨v3,c3,e3,h3,p3,q3,_⟩:=AS (n:=4) h2 (by omega);obtain⟨v4,c4,e4,h4,p4,q4,_⟩:=AS (n:=3) h3 (by omega);obtain⟨v5,c5,e5,h5⟩:=F4 (n:=4) h4 (by omega);have q1:=q1 (by omega); have q2:=q2 (by omega); have q3:=q3 (by omega); have q4:=q4 (by omega)
 have f0:∃r,P1 (i:O)=G r∧ [115]++r=nm i∧r.length=1:=by
  have:i=0∨i=1∨i=2:=by omega
  rcases this with rfl|rfl|rfl
  ·exact⟨[48],by kernel_rfl,X,X⟩
  ·exact⟨[49],by kernel_rfl,X,X⟩
  ·exact⟨[50],by kernel_rfl,X,X⟩
 obtain⟨r,f1,f2,f3⟩:=f0;refine⟨⟨[115]++r,40+v1,600+v2,v3,v4,v5⟩,c5,?_,h5,⟨f2,⟨by simp only; omega,by simp only; omega⟩,⟨by simp only; omega,by simp only; omega⟩,⟨by simp only; omega,by simp only; omega⟩,⟨by simp only; omega,by simp only; omega⟩⟩⟩;unfold IG;simp only[f1,e1,e2,e3,e4,e5,Y];rw[if_pos (by rw[f3]; rfl),A8 (n:=40+v1) (by omega) (by omega),A8 (n:=600+v2) (by omega) (by omega)]
theorem eW{c:X4}(h:CurOk c):∃l c',KW c 3=G (l,c')∧CurOk c'∧Jk l∧1≤l.length∧l.length≤3:=by
 obtain⟨v1,c1,e1,h1,p1,q1,_⟩:=AS (n:=3) h (by omega);have q1:=q1 (by omega)
 have key:∀(k i n:V) (c:X4) (l:N X9),k<n→CurOk c→l.length=i→i+k≤3→Jk l→∃l' c',He n (k:O) c.b c.i c.h l=G (l',c')∧CurOk c'∧Jk l'∧l'.length=i+k:=by
  intro k
  induction k with
  | zero=>
   intro i n c l hn hc hl hi hd;obtain⟨q,rfl⟩:=sn (n:=n) (by omega);exact⟨l,c,by simp[He],hc,hd,by omega⟩
  | succ k ih=>
   intro i n c l hn hc hl hi hd;obtain⟨q,rfl⟩:=sn (n:=n) (by omega);obtain⟨x,c',e,h',dx⟩:=ou (i:=l.length) hc (by omega);have e':IG ⟨c.b,c.i,c.h⟩ (l.length:O)=G (x,c'):=e;have hk:(0:O)<((k+1:V):O):=by omega
   rw[He];simp only[hk,decide_true,if_true,e',Y];rw[if_pos (AO (by omega) (by simp) (by omega)),show kK .i64 (((k+1:V):O) - 1)=(k:O) from by rw[A8 (by omega) (by omega)]; omega]
   obtain⟨l',c2,g1,g2,g3,g4⟩:=ih (i+1) q c' (l++ [x]) (by omega) h' (by simp; omega) (by omega) fun j hj=>by
    by_cases hjl:j<l.length
    ·rw[zC hjl]; exact hd j hjl
    ·have:j=l.length:=by simp at hj; omega
     subst this;simpa using dx
   exact⟨l',c2,g1,g2,g3,by omega⟩
 obtain⟨l,c2,e2,h2,d2,n2⟩:=key (1+v1).toNat 0 bigN c1 [] (by rw[C9]; omega) h1 rfl (by omega) fun j h=>(by simp at h)
 refine⟨l,c2,?_,h2,d2,by omega,by omega⟩;unfold KW;rw[e1,Y,A8 (by omega) (by omega),show(1:O)+v1=((1+v1).toNat:O) by omega];exact e2
theorem mF{c:X4}(h:CurOk c):∃l c',KY c=G (l,c')∧CurOk c'∧l.length=64∧∀x∈l,0≤x∧x≤240:=by
 have e0:N2=G (zQ 64 (0:O)):=by kernel_rfl
 have key:∀(k i n:V) (c:X4) (l:N O),i+k=64→k<n→CurOk c→l.length=64→(∀x∈l,0≤x∧x≤240)→∃l' c',FN (zQ 64 (0:O)) n (i:O) c.b c.i c.h l=G (l',c')∧CurOk c'∧l'.length=64∧∀x∈l',0≤x∧x≤240:=by
  intro k
  induction k with
  | zero=>
   intro i n c l hi hn hc hl hx;obtain⟨q,rfl⟩:=sn (n:=n) (by omega);have:i=64:=by omega
   subst this;exact⟨l,c,by simp[FN],hc,hl,hx⟩
  | succ k ih=>
   intro i n c l hi hn hc hl hx;obtain⟨q,rfl⟩:=sn (n:=n) (by omega);obtain⟨v,c',e,h',p,qv,_⟩:=AS (n:=5) hc (by omega);have qv:=qv (by omega);have e':An ⟨c.b,c.i,c.h⟩ 5=G (v,c'):=e;have hlt:(i:O)<((zQ 64 (0:O)).length:O):=by simp; omega
   have hw:kK .i64 ((i:O)+1)=((i+1:V):O):=by rw[A8 (by omega) (by omega)]; rfl
   rw[FN];simp only[hlt,decide_true,if_true,hw,e',Y,Ad (show i<l.length by omega)];split
   ·rw[A8 (n:=5*v) (by omega) (by omega)];refine ih (i+1) q c' _ (by omega) (by omega) h' (by simpa using hl) fun x hx'=> ?_
    rcases List.mem_or_eq_of_mem_set hx' with hx' | hx'
    ·exact hx x hx'
    ·subst hx'; omega
   ·exact ih (i+1) q c l (by omega) (by omega) hc hl hx
 obtain⟨l,c',e1,h1,h2,h3⟩:=key 64 0 bigN c (zQ 64 0) rfl (by rw[C9]; omega) h (by simp) fun x hx=>by
  have:=kB hx;omega
 exact⟨l,c',by unfold KY; rw[e0,Y]; exact e1,h1,h2,h3⟩
theorem ak{c:X4}(h:CurOk c):∃w c',KZ c=G (w,c')∧CurOk c'∧Gl w=F∧w.Moves.length≤maxLen:=by
 obtain⟨v1,c1,e1,h1,p1,q1,_⟩:=AS (n:=4) h (by omega);obtain⟨v2,c2,e2,h2,p2,q2,_⟩:=AS (n:=3) h1 (by omega);obtain⟨v3,c3,e3,h3,p3,q3,_⟩:=AS (n:=60) h2 (by omega);obtain⟨l,c4,e4,h4,l1,l2⟩:=mF h3;have q1:=q1 (by omega); have q2:=q2 (by omega); have q3:=q3 (by omega);refine⟨⟨1+v1,1+v2,v3,l⟩,c4,?_,h4,?_,Ab (by simp only; omega)⟩
 ·unfold KZ;simp only[e1,e2,e3,e4,Y];rw[A8 (n:=1+v1) (by omega) (by omega),A8 (n:=1+v2) (by omega) (by omega)]
 ·simp only[Gl,Cg,zA,decide_eq_true_eq,zH];exact⟨⟨by omega,by omega⟩,⟨by omega,by omega⟩,⟨by omega,by omega⟩,l1,l2⟩
theorem hP{c:X4}(h:CurOk c):∃x c',L1 c=G (x,c')∧CurOk c'∧HSmall x∧As x=F∧1≤x.Fleet.length∧(4≤x.Chart.Points.length∧1≤x.Chart.Segments.length)∧x.Fleet.length≤3∧∀y∈x.Fleet,y.Name.length=2:=by
 unfold L1;obtain⟨f,c1,e1,h1,f1⟩:=ee h;obtain⟨ch,c2,e2,h2,g1,g2⟩:=aF h1;obtain⟨fl,c3,e3,h3,d1,d2,d3⟩:=eW h2;obtain⟨v4,c4,e4,h4,p4,q4,_⟩:=AS (n:=30) h3 (by omega);obtain⟨v5,c5,e5,h5⟩:=F4 (n:=4) h4 (by omega);have q4:=q4 (by omega);obtain⟨w,c6,e6,h6,w1,w2⟩:=ak h5;have er:KX c3=G (⟨v4,v5⟩,c5):=by simp only[KX,e4,e5,Y]
 have hm: -1000≤kK .i64 (f.Tide.Mean+150)∧kK .i64 (f.Tide.Mean+150)≤1000:=by
  have e1':=e1;obtain⟨t,ct,et,ht,m1,m2,_⟩:=Vf h
  have:f.Tide=t:=by
   unfold IE at e1'
   rw[et,Y] at e1'
   obtain⟨b,cb,eb,_⟩:=AS (n:=3) ht (by omega);rw[eb,Y] at e1'
   have gen:∀(n:V) (a b:O) (x:N O) (y z:O) (l:N Xe),EU (t,ct) n a b x y z l=G (f,c1)→f.Tide=t:=by
    intro n
    induction n with
    | zero=>intro a b x y z l he; cases he
    | succ n ih=>
     intro a b x y z l he;rw[EU] at he
     by_cases hb:(decide ((0:O)<b))=F
     ·rw[if_pos hb] at he
      obtain⟨r1,_,he⟩:=yK.1 he;obtain⟨r2,_,he⟩:=yK.1 he;split at he
      ·obtain⟨r3,_,he⟩:=yK.1 he;exact ih _ _ _ _ _ _ he
      ·cases he
     ·rw[if_neg hb] at he
      cases he;rfl
   exact gen _ _ _ _ _ _ _ e1'
  rw[this,A8 (by omega) (by omega)];omega
 simp only[e1,e2,e3,er,e6,Y]
 have key:∀(k i n:V) (l:N X9),i+k=fl.length→k<n→l.length=fl.length→Jk l→
   ∃x c',Hf (fl,c3) (w,c6) (f,c1) (ch,c2) (⟨v4,v5⟩,c5) (kK .i64 (f.Tide.Mean+150)) n (i:O) l=G (x,c')∧CurOk c'∧HSmall x∧As x=F∧1≤x.Fleet.length∧(4≤x.Chart.Points.length∧1≤x.Chart.Segments.length)∧x.Fleet.length≤3∧∀y∈x.Fleet,y.Name.length=2:=by
  intro k
  induction k with
  | zero=>
   intro i n l hi hn hl hd;obtain⟨q,rfl⟩:=sn (n:=n) (by omega);have:i=fl.length:=by omega
   subst this;have hfl:=eX hd (by omega);refine⟨⟨⟨⟨kK .i64 (f.Tide.Mean+150),f.Tide.Parts⟩,f.Surges⟩,ch,l,⟨v4,v5⟩,w⟩,c6,by simp[Hf],h6,⟨(Cb g1).2.2.1,fun x hx=>HC ((FR hfl).2 x hx),w2⟩,?_,by simp only; omega,g2,by simp only; omega,fun y hy=> ?_⟩
   ·simp only[As,f1 _ hm.1 hm.2,g1,hfl,w1,Q3,zA,decide_eq_true_eq];exact⟨trivial,trivial,trivial,⟨by omega,by omega⟩,⟨⟩⟩
   ·obtain⟨j,hj,rfl⟩:=zF hy;rw[(hd j hj).n]
    match j with
    | 0=>rfl
    | 1=>rfl
    | _+2=>rfl
  | succ k ih=>
   intro i n l hi hn hl hd;obtain⟨q,rfl⟩:=sn (n:=n) (by omega);have hlt:i<fl.length:=by omega
   have hll:i<l.length:=by omega
   rw[Hf];simp only[Ag,hlt,decide_true,if_true,Ad hll,Y,Am hlt (Ab (by omega)),yB];refine ih (i+1) q _ (by omega) (by omega) (by simpa using hl) fun j hj=> ?_
   have hj':j<l.length:=by simpa using hj
   have hdj:=hd j hj';rw[List.getElem_set];split
   ·rename_i hij
    subst hij;refine⟨hdj.n,hdj.a,hdj.b,hdj.c,?_⟩;simp only;have:=hdj.d;split<;>omega
   ·exact hdj
 exact key fl.length 0 bigN fl (by omega) (Al (Ab (by omega))) X d1
theorem ZS{c:X4}(h:CurOk c){x:X3}{s:O}(hs:idx s x.Fleet.length=F)(h4:4≤x.Chart.Points.length):∃a c',IH c s=G (a,c')∧CurOk c'∧Ca x a=F∧a.Ship=s∧a.Due≤1000:=by
 obtain⟨v1,c1,e1,h1,p1,q1,_⟩:=AS (n:=30) h (by omega);obtain⟨v2,c2,e2,h2⟩:=F4 (n:=3) h1 (by omega);obtain⟨v3,c3,e3,h3,p3,q3,_⟩:=AS (n:=400) h2 (by omega);have q1:=q1 (by omega); have q3:=q3 (by omega);have i0:idx 0 x.Chart.Points.length=F:=DD.2 ⟨by omega,by omega⟩;have i3:idx 3 x.Chart.Points.length=F:=DD.2 ⟨by omega,by omega⟩;unfold IH;simp only[e1,e2,Y,L0,e3];rw[A8 (n:=15*v1) (by omega) (by omega),A8 (n:=15*v1+60) (by omega) (by omega),A8 (n:=15*v1+60+v3) (by omega) (by omega)]
 have good:∀p q:O,idx p x.Chart.Points.length=F→idx q x.Chart.Points.length=F→p≠q→Ca x ⟨s,p,q,15*v1,15*v1+60+v3⟩=F:=fun p q hp hq hne=>by
  simp only[Ca,hs,hp,hq,Cg,zA,decide_eq_true_eq];exact⟨trivial,trivial,trivial,hne,⟨by omega,by omega⟩,by omega,by omega⟩
 cases v2 with
 | true=>exact⟨_,c3,rfl,h3,good 3 0 i3 i0 (by omega),rfl,by simp only; omega⟩
 | false=>exact⟨_,c3,rfl,h3,good 0 3 i0 i3 (by omega),rfl,by simp only; omega⟩
section
variable {p : O} {m : N O} {l : N Xb}
theorem ae(hl:m.length≤maxLen):∃w n b,Dv p m l=G (w,n,b):=by
 by_cases hdo:(decide (l.length≤12)&&l.all Bw)=F
 ·by_cases ht:CC p m=F
  ·have hdo':=hdo;simp only[zA,decide_eq_true_eq] at hdo'
   obtain⟨hN,hda⟩:=hdo';have hd:∀d∈l,Bw d=F:=fun d h=>zH.1 hda d h
   obtain⟨ms,m1,m2,m3⟩:=Tg hl ht hd hN;obtain⟨n,n1,n2,n3⟩:=TF (Rt p m l) hN (ms:=ms) ⟨m1,m2⟩
   have hmx:∀x∈ms,x<2 ^ 12:=fun x hx=>by
    obtain⟨i,hi,rfl⟩:=zF hx;refine IW fun j hj=> ?_
    have:=m2 i j (by omega);rw[C hi] at this
    have this:ms[i].testBit j=Ep p m l i j:=this;rw[this,Ep,zA,decide_eq_true_eq] at hj
    omega
   obtain⟨b,r,c1,c2,_⟩:=RS ms.length bigN ms [] (n:O) [] (by simp) (by rw[C9]; omega) hmx (by omega) (fun g h=>by cases h) (by simp);refine⟨r.who,r.most,F,?_⟩;unfold Dv H0;have ht':=ht;simp only[CC,zA] at ht'
   rw[IP,hdo,Y,if_pos rfl,NM,ht'.1,Y,if_pos rfl,Nu hl,ht'.2,Y,Y,if_pos rfl,m3,Y,n3,Y];have c1:MT ⟨nn ms,(n:O),[],[]⟩=G (b,r):=c1;rw[c1,Y]
  ·refine⟨[],0,E,?_⟩;unfold Dv H0;rw[IP,hdo,Y,if_pos rfl,NM,Y,Nu hl];simp only[CC,zA,not_and,Bool.not_eq_true] at ht
   cases h1:Cg p with
   | false=>rfl
   | true=>simp only[if_true,Y,ht h1]; rfl
 ·refine⟨[],0,E,?_⟩;unfold Dv H0;rw[IP,Y,Bool.not_eq_true _ |>.mp hdo];rfl
theorem OP(hl:m.length≤maxLen)(k:O):∃b,E1 p m l k=G b:=by
 unfold E1;obtain⟨w,n,b,e⟩:=ae (p:=p) (m:=m) (l:=l) hl;split
 ·exact⟨_,X⟩
 ·rw[e]; exact⟨_,rfl⟩
end
theorem qL{c:X5}{fl:N X9}(hn:∀x∈c.Points,x.Name.length≤maxLen)(hf:∀x∈fl,x.Name.length≤maxLen)(hc:AH c=F)(hfl:E6 fl=F){all:N X2}(hl:all.length≤maxLen) :
  ∃out ok,FM c fl all=G (out,ok):=by
 have key:∀(k i n:V) (acc:N Xb),i+k=all.length→k<n→acc.length≤12→∃out ok,CJ fl all c n (i:O) acc=G (out,ok):=by
  intro k
  induction k with
  | zero=>
   intro i n acc hi hn2 ha;obtain⟨n,rfl⟩:=sn (n:=n) (by omega);exact⟨acc,F,by rw[CJ,if_neg (by simp; omega)]⟩
  | succ k ih=>
   intro i n acc hi hn2 ha;obtain⟨n,rfl⟩:=sn (n:=n) (by omega);have hlt:i<all.length:=by omega
   simp only[CJ,Ag,hlt,decide_true,if_true,Ad hlt,Y,Ns hn hf hc hfl];cases hp:CP c fl all[i] with
   | false=>exact⟨[],E,rfl⟩
   | true=>
    obtain⟨f1,f2,f3,f4,f5⟩:=CQ hc hp;obtain⟨s1,s2⟩:=EW f1;have hso:=(FR hfl).2 _ s2
    have hT:0≤(Bo fl all[i].Ship).Tugs∧(Bo fl all[i].Ship).Tugs≤4:=by
     simp only[BO,zA,decide_eq_true_eq] at hso
     omega
    obtain⟨T,hTe⟩:∃T:V,(Bo fl all[i].Ship).Tugs=(T:O):=⟨(Bo fl all[i].Ship).Tugs.toNat,by omega⟩;simp only[if_true,Y,s1];have g2:=Vs (c:=c) (fl:=fl) (p:=all[i]) f2 all (i:O) (CJ fl all c n) hTe (by omega) T 0 bigN acc (by omega) (by rw[C9]; omega) (by omega);have g2:EP fl all (i:O) (Bo fl all[i].Ship) c all[i] (CJ fl all c n) bigN 0 acc=_:=g2;rw[g2];by_cases h12:(12:O)<((acc++zQ T (CW c all[i] all[i])).length:O)
    ·simp only[h12,decide_true,if_true];exact⟨[],E,X⟩
    ·simp only[h12,decide_false,I,if_false];rw[Am hlt hl];exact ih (i+1) n _ (by omega) (by omega) (by omega)
 exact key all.length 0 bigN [] (by omega) (Al hl) (by simp)
theorem aU{c:X5}{rg:Xl}{p q:X2}:∃r,Kw c rg p q=G r:=by
 have c4:∀b,∃r,Iu p q b=G r:=fun b=>by
  unfold Iu;repeat' split
  all_goals exact⟨_,rfl⟩
 have near:∀x y z,∃b,KC x y z=G b:=fun _ _ _=>⟨_,rfl⟩
 have over:∃b,K4 p q=G b:=⟨_,rfl⟩;obtain⟨o1,eo⟩:=over
 have c3:∀a b,∃r,FE rg p q a b=G r:=fun a b=>by
  obtain⟨b1,e1⟩:=near p.Start q.Start rg.Gap;obtain⟨b2,e2⟩:=near p.End q.End rg.Gap;unfold FE;simp only[e1,e2,Y];repeat' split
  all_goals first | exact⟨_,rfl⟩ | exact c4 _
 have c1:(f:U)→idx p.Segment c.Segments.length=F∨f=F→∃r,Ir c rg p q f=G r:=fun f hf=>by
  cases f with
  | true=>exact⟨0,rfl⟩
  | false=>
   have hs:=hf.resolve_right (by simp)
   have c2:∀b,∃r,It c rg p q b=G r:=fun b=>by
    unfold It;simp only[eo,Y,(BS hs).1];repeat' split
    all_goals first | exact⟨_,rfl⟩ | exact c3 _ _
   unfold Ir;simp only[eo,Y,I,if_false];split
   ·exact c2 _
   ·exact c2 _
 unfold Kw;split
 ·exact c1 _ (Or.inr X)
 ·rw[CN,Y];cases h:idx p.Segment c.Segments.length with
  | true=>exact c1 _ (Or.inl h)
  | false=>exact c1 _ (Or.inr rfl)
theorem RE{c:X5}{rg:Xl}{a b:N X2}(ha:a.length≤maxLen)(hb:b.length≤maxLen):∃r,FB c rg a b=G r:=by
 have key:∀(k i n:V),i+k=a.length→k<n→∃r,FD b a c rg n (i:O)=G r:=by
  intro k
  induction k with
  | zero=>
   intro i n hi hn;obtain⟨q,rfl⟩:=sn (n:=n) (by omega);have:i=a.length:=by omega
   subst this;exact⟨E,by simp[FD]⟩
  | succ k ih=>
   intro i n hi hn;obtain⟨q,rfl⟩:=sn (n:=n) (by omega);have hlt:i<a.length:=by omega
   obtain⟨r0,e0⟩:=ih (i+1) q (by omega) (by omega);rw[← Am hlt ha] at e0
   rw[FD];simp only[Ag,hlt,decide_true,if_true,Ad hlt,Y]
   have inner:∀(k j n:V),j+k=b.length→k<n→∃r,GZ b a (i:O) c rg a[i] (FD b a c rg q) n (j:O)=G r:=by
    intro k
    induction k with
    | zero=>
     intro j n hj hn;obtain⟨q',rfl⟩:=sn (n:=n) (by omega);have:j=b.length:=by omega
     subst this;exact⟨r0,by simp only[GZ,Ag,zV,decide_false,I,if_false]; exact e0⟩
    | succ k ihk=>
     intro j n hj hn;obtain⟨q',rfl⟩:=sn (n:=n) (by omega);have hjl:j<b.length:=by omega
     obtain⟨r,e⟩:=aU (c:=c) (rg:=rg) (p:=a[i]) (q:=b[j]);rw[GZ];simp only[Ag,hjl,decide_true,if_true,Ad hjl,Y,e,Am hjl hb];split
     ·exact⟨F,X⟩
     ·exact ihk (j+1) q' (by omega) (by omega)
   exact inner b.length 0 bigN (by omega) (Al hb)
 exact key a.length 0 bigN (by omega) (Al ha)
def DN(h:X3)(o:X0):Prop:=o.Passages.length≤100∧∀p∈o.Passages,CP h.Chart h.Fleet p=F
theorem RG{l:N X0}(h:l.length≤1000):E0 l=G l:=by
 unfold E0 BT;rw[if_pos ⟨by omega,by omega,by omega,by omega⟩];simp only[Y,kF,yR,zZ];rw[if_pos (by simp only[A7,zU,decide_eq_true_eq]; omega)]
theorem ah{h:X3}(s:HSmall h)(hh:As h=F){l:N X0}(hl:l.length≤1000)(ho:∀o∈l,DN h o):∃b,E2 h l=G b:=by
 have hh':=hh;simp only[As,zA] at hh'
 obtain⟨hf,hc,hfl,hreg,hcrew⟩:=hh'
 have key:∀(k i n:V) (all:N X2) (pil:N Xb),i+k=l.length→k<n→all.length≤100*i→pil.length≤i→∃b,Dy l h n (i:O) all pil=G b:=by
  intro k
  induction k with
  | zero=>
   intro i n all pil hi hn ha hp;obtain⟨q,rfl⟩:=sn (n:=n) (by omega);have:i=l.length:=by omega
   subst this;obtain⟨out,ok,e⟩:=qL s.pn s.fn hc hfl (all:=all) (Ab (by omega));obtain⟨b1,e1⟩:=OP (p:=0) (m:=h.Crew.Moves) (l:=out) s.mv h.Crew.Tugs;obtain⟨b2,e2⟩:=OP (p:=h.Crew.Rest) (m:=h.Crew.Moves) (l:=pil) s.mv h.Crew.Pilots;rw[Dy];simp only[Ag,zV,decide_false,I,if_false,e,e1,e2,Y];split
   ·split
    ·exact⟨_,X⟩
    ·exact⟨_,X⟩
   ·exact⟨_,X⟩
  | succ k ih=>
   intro i n all pil hi hn ha hp;obtain⟨q,rfl⟩:=sn (n:=n) (by omega);have hlt:i<l.length:=by omega
   obtain⟨g1,g2⟩:=ho _ (Z hlt);rw[Dy];simp only[Ag,hlt,decide_true,if_true,Ad hlt,Y,Am hlt (Ab (by omega))];rw[if_pos (AO (by omega) (by omega) (by omega))];by_cases h0:(0:O)<(l[i].Passages.length:O)
   ·have hz:0<l[i].Passages.length:=by omega
    have ep:kK .i64 ((l[i].Passages.length:O) - 1)=((l[i].Passages.length - 1:V):O):=by rw[A8 (by omega) (by omega)]; omega
    have e0:ix l[i].Passages 0=G l[i].Passages[0]:=Ad hz;have e9:ix l[i].Passages ((l[i].Passages.length - 1:V):O)=G l[i].Passages[l[i].Passages.length - 1]:=Ad (by omega);have s1:=(CQ hc (g2 _ (Z hz))).2.1;have s2:=(CQ hc (g2 _ (Z (show l[i].Passages.length - 1<l[i].Passages.length by omega)))).2.1;simp only[h0,decide_true,if_true,e0,ep,e9,Y,Nt s1 s2];rw[if_pos (AO (by omega) (by simp) (by omega))];exact ih (i+1) q _ _ (by omega) (by omega) (by simp; omega) (by simp; omega)
   ·simp only[h0,decide_false,I,if_false];exact ih (i+1) q _ _ (by omega) (by omega) (by simp; omega) (by omega)
 exact key l.length 0 bigN [] [] (by omega) (Al (Ab (by omega))) (by simp) (by simp)
theorem eT{h:X3}(s:HSmall h)(hh:As h=F){l:N X0}{o:X0}(hl:l.length≤100)(ho:∀o∈l,DN h o)(h0:DN h o):∃b,EM h l o=G b:=by
 have key:∀(k i n:V),i+k=l.length→k<n→∃b,E3 l h o n (i:O)=G b:=by
  intro k
  induction k with
  | zero=>
   intro i n hi hn;obtain⟨q,rfl⟩:=sn (n:=n) (by omega);have:i=l.length:=by omega
   subst this
   obtain⟨b,e⟩:=ah s hh (l:=l++ [o]) (by simp; omega) fun x hx=>by
    rcases zJ.1 hx with hx|hx
    ·exact ho x hx
    ·simp only[zE] at hx; exact hx▸h0
   rw[E3];simp only[Ag,zV,decide_false,I,if_false,RG (show l.length≤1000 by omega),Y];rw[if_pos (AO (by omega) (by simp) (by omega)),e];exact⟨b,X⟩
  | succ k ih=>
   intro i n hi hn;obtain⟨q,rfl⟩:=sn (n:=n) (by omega);have hlt:i<l.length:=by omega
   obtain⟨r,e⟩:=RE (c:=h.Chart) (rg:=h.Regime) (a:=l[i].Passages) (b:=o.Passages) (Ab (by have:=(ho _ (Z hlt)).1; omega)) (Ab (by have:=h0.1; omega));rw[E3];simp only[Ag,hlt,decide_true,if_true,Ad hlt,Y,e,Am hlt (Ab (by omega))];split
   ·exact⟨_,X⟩
   ·exact ih (i+1) q (by omega) (by omega)
 exact key l.length 0 bigN (by omega) (Al (Ab (by omega)))
def Chosen(cs:N (N X0))(pl:N X0)(ch:N O):Prop:=
 pl.length=ch.length∧pl.length≤cs.length∧∀i (h1:i<ch.length) (h2:i<pl.length) (h3:i<cs.length),0≤ch[i]∧(ch[i]<(cs[i].length:O))∧cs[i][ch[i].toNat]?=G pl[i]
theorem Chosen.take{cs:N (N X0)}{pl:N X0}{ch:N O}(H:Chosen cs pl ch)(k:V):Chosen cs (pl.take k) (ch.take k):=by
 obtain⟨c1,c2,c3⟩:=H;refine⟨by simp; omega,by simp; omega,fun i h1 h2 h3=> ?_⟩;simp only[yY] at h1 h2
 rw[List.getElem_take,List.getElem_take];exact c3 i (by omega) (by omega) h3
theorem Chosen.snoc{cs:N (N X0)}{pl:N X0}{ch:N O}(H:Chosen cs pl ch){i:V}(hlt:pl.length<cs.length)(hil:i<cs[pl.length].length):Chosen cs (pl++ [cs[pl.length][i]]) (ch++ [(i:O)]):=by
 obtain⟨c1,c2,c3⟩:=H;refine⟨by simp; omega,by simp; omega,fun j h1 h2 h3=> ?_⟩;simp only[zG,zP] at h1 h2
 by_cases hj:j<pl.length
 ·rw[zC (show j<ch.length by omega),zC hj];exact c3 j (by omega) hj h3
 ·have:j=pl.length:=by omega
  subst this;rw[zM (by omega),zM (by omega)];simp only[show pl.length - ch.length=0 by omega,yZ,List.getElem_singleton,yB];exact⟨by omega,by omega,by rw[C hil]⟩
def Fb(a b:Xi):Prop:=a.i0<b.i0∨(a.i0=b.i0∧a.i1<b.i1)
def Cn(a b:Xi):Prop:=¬Fb b a
theorem M0(a:Xi):Cn a a:=by unfold Cn Fb; omega
theorem Ob{a b c:Xi}(h1:Cn a b)(h2:Cn b c):Cn a c:=by unfold Cn Fb at *; omega
theorem se{a b:Xi}(h:Fb a b):Cn a b:=by unfold Cn Fb at *; omega
theorem TL(a b:Xi):∃r,KJ a b=G r∧(r=F↔Fb a b):=by
 unfold KJ Fb;split
 ·rename_i h
  simp only[decide_eq_true_eq] at h;exact⟨F,X,by simp[h]⟩
 ·rename_i h
  simp only[decide_eq_true_eq] at h;split
  ·rename_i h2
   simp only[beq_iff_eq] at h2
   exact⟨_,X,by simp[h2]⟩
  ·rename_i h2
   simp only[beq_iff_eq] at h2
   exact⟨E,X,by simp[h,h2]⟩
def Fit(h:X3)(pl:N X0):Prop:=∀i (hi:i<pl.length),EM h (pl.take i) pl[i]=G F
theorem Fit.snoc{h:X3}{pl:N X0}{o:X0}(H:Fit h pl)(ho:EM h pl o=G F):Fit h (pl++ [o]):=fun i hi=>by
 simp only[zG,zP] at hi
 by_cases hj:i<pl.length
 ·rw[zC hj,List.take_append_of_le_length (by omega)];exact H i hj
 ·have:i=pl.length:=by omega
  subst this;rw[zM (by omega)];simpa using ho
structure SearchOk (h:X3) (cs:N (N X0)) (wv:N X0→Xi) (x:Xc):Prop where
 hh:x.h=h
 hc:x.choices=cs
 cho:Chosen cs x.plan x.choice
 fit:Fit h x.plan
 best:x.found=F→∃pl,Chosen cs pl x.best∧pl.length=cs.length∧Fit h pl∧x.least=wv pl
 emp:x.found=E→x.best= []
structure Low (h:X3) (cs:N (N X0)) (wv:N X0→Xi) (P:N X0→Prop) (x y:Xc):Prop where
 mono:x.found=F→y.found=F∧Cn y.least x.least
 all:∀pl ch,Chosen cs pl ch→pl.length=cs.length→Fit h pl→P pl→y.found=F∧Cn y.least (wv pl)
theorem Low.trans{h:X3}{cs:N (N X0)}{wv:N X0→Xi}{P Q R:N X0→Prop}{x y z:Xc}(H1:Low h cs wv P x y)(H2:Low h cs wv Q y z)(hr:∀pl,R pl→P pl∨Q pl):Low h cs wv R x z:=
 ⟨fun hf=>by
  obtain⟨a,b⟩:=H1.mono hf;obtain⟨c,d⟩:=H2.mono a;exact⟨c,Ob d b⟩,fun pl ch h1 h2 h3 h4=>by
  rcases hr pl h4 with h5|h5
  ·obtain⟨a,b⟩:=H1.all pl ch h1 h2 h3 h5;obtain⟨c,d⟩:=H2.mono a;exact⟨c,Ob d b⟩
  ·exact H2.all pl ch h1 h2 h3 h5⟩
theorem mD{cs:N (N X0)}{wv:N X0→Xi}(hm:∀pl ch o c,Chosen cs pl ch→Chosen cs (pl++ [o]) (ch++ [c])→Cn (wv pl) (wv (pl++ [o]))){pl:N X0}{ch:N O}(H:Chosen cs pl ch) :
  ∀(d k:V),k+d=pl.length→Cn (wv (pl.take k)) (wv pl):=by
 intro d
 induction d with
 | zero=>
  intro k hk;rw[zS (by omega)];exact M0 _
 | succ d ih=>
  intro k hk;refine Ob ?_ (ih (k+1) (by omega));have h1:k<pl.length:=by omega
  have h2:k<ch.length:=by have:=H.1; omega
  have hc:=H.take (k+1);rw[zB h1,zB h2] at hc
  rw[zB h1];exact hm _ _ _ _ (H.take k) hc
theorem oY{h:X3}(s:HSmall h)(hok:As h=F){cs:N (N X0)}(hcs:cs.length≤50)(hl8:∀l∈cs,l.length≤8)(hgo:∀l∈cs,∀o∈l,DN h o){w:N X0→Option Xi}{wv:N X0→Xi}
  (hw:∀pl ch,Chosen cs pl ch→w pl=G (wv pl)) (hm:∀pl ch o c,Chosen cs pl ch→Chosen cs (pl++ [o]) (ch++ [c])→Cn (wv pl) (wv (pl++ [o]))) :
  ∀(d n:V) (x:Xc),x.plan.length+d=cs.length→d<n→SearchOk h cs wv x→
   ∃r,DA w n x=G r∧SearchOk h cs wv r∧r.plan=x.plan∧r.choice=x.choice∧Low h cs wv (fun pl=>pl.take x.plan.length=x.plan) x r:=by
 intro d
 induction d with
 | zero=>
  intro n x hd hn hx;obtain⟨q,rfl⟩:=sn (n:=n) (by omega);rw[DA,KF,hw _ _ hx.cho,Y]
  have same:∀pl:N X0,pl.length=cs.length→pl.take x.plan.length=x.plan→pl=x.plan:=fun pl h1 h2=>by
   rw[← h2,zS (by omega)]
  have leaf:∀b,(x.found=F→Fb (wv x.plan) x.least)→∃r,FJ w (DA w q) x (wv x.plan) b=G r∧SearchOk h cs wv r∧r.plan=x.plan∧r.choice=x.choice∧Low h cs wv (fun pl=>pl.take x.plan.length=x.plan) x r:=fun b hb=>by
   unfold FJ;rw[if_pos (by rw[hx.hc]; simp; omega),My (by have:=hx.cho.1; omega),Y];exact⟨_,X,⟨hx.hh,hx.hc,hx.cho,hx.fit,fun _=>⟨x.plan,hx.cho,by omega,hx.fit,X⟩,fun h=>by cases h⟩,X,X,fun hf=>⟨X,se (hb hf)⟩,fun pl ch h1 h2 h3 h4=>⟨X,by rw[same pl h2 h4]; exact M0 _⟩⟩
  split
  ·rename_i hf
   obtain⟨b,eb,hb⟩:=TL (wv x.plan) x.least;rw[eb,Y];split
   ·rename_i hbt
    exact leaf _ fun _=>hb.1 hbt
   ·rename_i hbf
    exact⟨_,X,⟨hx.hh,hx.hc,hx.cho,hx.fit,fun _=>hx.best hf,fun h=>by cases h⟩,X,X,fun _=>⟨X,M0 _⟩,fun pl ch h1 h2 h3 h4=>⟨X,by rw[same pl h2 h4]; exact fun h=>hbf (hb.2 h)⟩⟩
  ·rename_i hf
   exact leaf _ fun h=>absurd h hf
 | succ d ih=>
  intro n x hd hn hx;obtain⟨q,rfl⟩:=sn (n:=n) (by omega);have hlt:x.plan.length<cs.length:=by omega
  rw[DA,KF,hw _ _ hx.cho,Y]
  have part:∀(pl:N X0),pl.length=cs.length→pl.take x.plan.length=x.plan→∀(hp:x.plan.length<pl.length),pl.take (x.plan.length+1)=x.plan++ [pl[x.plan.length]]:=fun pl h1 h2 hp=>by
   rw[zB hp,h2]
  have key:∀(k i m:V) (y:Xc),i+k=cs[x.plan.length].length→k<m→SearchOk h cs wv y→y.plan=x.plan→y.choice=x.choice→
    ∃r,FL w (DA w q) x cs[x.plan.length] m (i:O) y.h y.choices y.least.i0 y.least.i1 y.found y.plan y.choice y.best=G r∧
     SearchOk h cs wv r∧r.plan=x.plan∧r.choice=x.choice∧Low h cs wv (fun pl=>∃(j:V) (hj:j<cs[x.plan.length].length),i≤j∧pl.take (x.plan.length+1)=x.plan++ [cs[x.plan.length][j]]) y r:=by
   intro k
   induction k with
   | zero=>
    intro i m y hi hm' hy hp hc;obtain⟨m,rfl⟩:=sn (n:=m) (by omega);have:i=cs[x.plan.length].length:=by omega
    subst this;rw[FL];simp only[Ag,zV,decide_false,I,if_false]
    exact⟨y,X,hy,hp,hc,fun hf=>⟨hf,M0 _⟩,fun pl ch h1 h2 h3 h4=>by
     obtain⟨j,h5,h6,_⟩:=h4;omega⟩
   | succ k ihk=>
    intro i m y hi hm' hy hp hc;obtain⟨m,rfl⟩:=sn (n:=m) (by omega);have hil:i<cs[x.plan.length].length:=by omega
    have hmem:=Z hlt;have h8:=hl8 _ hmem
    have hgood:∀o∈x.plan,DN h o:=fun o ho=>by
     obtain⟨j,hj,rfl⟩:=zF ho;obtain⟨c1,c2,c3⟩:=hx.cho;obtain⟨_,_,c6⟩:=c3 j (by omega) hj (by omega);exact hgo _ (Z (show j<cs.length by omega)) _ (List.mem_of_getElem? c6)
    obtain⟨b,eb⟩:=eT s hok (l:=x.plan) (o:=cs[x.plan.length][i]) (by omega) hgood (hgo _ hmem _ (Z hil));rw[FL];simp only[Ag,hil,decide_true,if_true,Ad hil,Y,Am hil (Ab (by omega))];rw[hy.hh,hp,eb,Y];cases b with
    | false=>
     simp only[I,if_false];obtain⟨r,g1,g2,g3,g4,g5⟩:=ihk (i+1) m y (by omega) (by omega) hy hp hc;rw[hp,hy.hh] at g1
     refine⟨r,g1,g2,g3,g4,g5.mono,fun pl ch h1 h2 h3 h4=> ?_⟩;obtain⟨j,h5,h6,h7⟩:=h4;by_cases hji:j=i
     ·subst hji;have hpl:x.plan.length<pl.length:=by omega
      have hf:=h3 _ hpl;rw[zB hpl] at h7
      obtain⟨e1,e2⟩:=List.append_inj h7 (by simp; omega);simp only[List.cons.injEq,and_true] at e2
      rw[e1,e2,eb] at hf
      cases hf
     ·exact g5.all pl ch h1 h2 h3 ⟨j,h5,by omega,h7⟩
    | true=>
     simp only[if_true];have hcl:x.choice.length≤1000:=by have:=hx.cho.1; omega
     rw[if_pos (AO (by omega) (by simp) (by omega)),hc,if_pos (AO (by omega) (by simp) (by omega))];have hcho:Chosen cs (x.plan++ [cs[x.plan.length][i]]) (x.choice++ [(i:O)]):=hx.cho.snoc hlt hil;obtain⟨r,g1,g2,g3,g4,g5⟩:=ih q ⟨h,y.choices,x.plan++ [cs[x.plan.length][i]],x.choice++ [(i:O)],y.best,⟨y.least.i0,y.least.i1⟩,y.found⟩ (by simp; omega) (by omega) ⟨rfl,hy.hc,hcho,hx.fit.snoc eb,hy.best,hy.emp⟩;rw[g1,Y];have b1:bnd (r.plan.length:O) (x.plan.length:O) 0 r.plan.length=G (0,x.plan.length):=Eu (by rw[g3]; simp);have b2:bnd (r.choice.length:O) (x.plan.length:O) 0 r.choice.length=G (0,x.plan.length):=Eu (by rw[g4]; simp; have:=hx.cho.1; omega);have t1:r.plan.take x.plan.length=x.plan:=by rw[g3]; simp
     have t2:r.choice.take x.plan.length=x.choice:=by
      have hle:x.plan.length=x.choice.length:=hx.cho.1;rw[g4];show(x.choice++ [(i:O)]).take x.plan.length=x.choice
      generalize x.plan.length=z at hle
      subst hle;simp
     rw[b1,Y,b2,Y];simp only[t1,t2];obtain⟨r',k1,k2,k3,k4,k5⟩:=ihk (i+1) m ⟨r.h,r.choices,x.plan,x.choice,r.best,r.least,r.found⟩ (by omega) (by omega) ⟨g2.hh,g2.hc,hx.cho,hx.fit,g2.best,g2.emp⟩ rfl rfl;refine⟨r',k1,k2,k3,k4,Low.trans (y:=⟨r.h,r.choices,x.plan,x.choice,r.best,r.least,r.found⟩) ⟨g5.mono,g5.all⟩ k5 fun pl hpl=> ?_⟩;obtain⟨j,h5,h6,h7⟩:=hpl;by_cases hji:j=i
     ·subst hji;left
      simpa using h7
     ·exact Or.inr ⟨j,h5,by omega,h7⟩
  have body:∀b,(b=x.found)→∃r,FJ w (DA w q) x (wv x.plan) b=G r∧SearchOk h cs wv r∧r.plan=x.plan∧r.choice=x.choice∧Low h cs wv (fun pl=>pl.take x.plan.length=x.plan) x r:=fun b hb=>by
   unfold FJ;rw[if_neg (by rw[hx.hc]; simp; omega),hx.hc,Ad hlt,Y];obtain⟨r,k1,k2,k3,k4,k5⟩:=key cs[x.plan.length].length 0 bigN ⟨x.h,cs,x.plan,x.choice,x.best,x.least,b⟩ (by omega) (Al (Ab (by have:=hl8 _ (Z hlt); omega))) ⟨hx.hh,rfl,hx.cho,hx.fit,fun hf=>hx.best (by rw[← hb]; exact hf),fun hf=>hx.emp (by rw[← hb]; exact hf)⟩ rfl rfl;refine⟨r,k1,k2,k3,k4,fun hf=>k5.mono (by rw[hb]; exact hf),fun pl ch h1 h2 h3 h4=>k5.all pl ch h1 h2 h3 ?_⟩;have hpl:x.plan.length<pl.length:=by omega
   obtain⟨c1,c2,c3⟩:=h1;obtain⟨d1,d2,d3⟩:=c3 x.plan.length (by omega) hpl hlt;have hj:ch[x.plan.length].toNat<cs[x.plan.length].length:=by omega
   refine⟨ch[x.plan.length].toNat,hj,by omega,?_⟩;rw[part pl h2 h4 hpl];rw[C hj] at d3
   simp only[zD] at d3
   rw[d3]
  split
  ·rename_i hf
   obtain⟨b,eb,hb⟩:=TL (wv x.plan) x.least;rw[eb,Y];split
   ·exact body F hf.symm
   ·rename_i hbf
    refine⟨_,X,⟨hx.hh,hx.hc,hx.cho,hx.fit,fun _=>hx.best hf,fun h=>by cases h⟩,X,X,fun _=>⟨X,M0 _⟩,fun pl ch h1 h2 h3 h4=>⟨X,?_⟩⟩;have g:=mD hm h1 (pl.length - x.plan.length) x.plan.length (by omega);rw[h4] at g
    exact Ob (fun h=>hbf (hb.2 h)) g
  ·rename_i hf
   exact body E (by cases hx':x.found with
    | false=>rfl
    | true=>exact absurd hx' hf)
structure CallsGood (h:X3) (cs:N X7):Prop where
 ok:∀a∈cs,Ca h a=F
 ne:∀i j (hi:i<cs.length) (hj:j<cs.length),i<j→cs[i].Ship≠cs[j].Ship
 six:cs.length≤6
theorem DR{h:X3}(s:HSmall h)(hh:As h=F){cs:N X7}(hc:CallsGood h cs):CX h cs=G F:=by
 have h6:=hc.six;unfold CX;rw[Pv s,hh,Y,if_pos rfl,if_neg (by simp; omega)]
 have key:∀(k i n:V),i+k=cs.length→k<n→Fo cs h n (i:O)=G F:=by
  intro k
  induction k with
  | zero=>
   intro i n hi hn;obtain⟨q,rfl⟩:=sn (n:=n) (by omega);have:i=cs.length:=by omega
   subst this;simp[Fo]
  | succ k ih=>
   intro i n hi hn;obtain⟨q,rfl⟩:=sn (n:=n) (by omega);have hlt:i<cs.length:=by omega
   have e0:=ih (i+1) q (by omega) (by omega);rw[← Am hlt (Ab (by omega))] at e0
   rw[Fo];simp only[Ag,hlt,decide_true,if_true,Ad hlt,Y,Te,hc.ok _ (Z hlt),Eu (Nat.le_of_lt hlt),kE,Nat.sub_zero];have hlen:(cs.take i).length=i:=by simp; omega
   have inner:∀(k j n:V),j+k=i→k<n→Gp cs (i:O) h cs[i] (cs.take i) ((cs.take i).length:O) (Fo cs h q) n (j:O)=G F:=by
    intro k
    induction k with
    | zero=>
     intro j n hj hn;obtain⟨q',rfl⟩:=sn (n:=n) (by omega);have:j=i:=by omega
     subst this;rw[Gp];simp only[hlen,Ag,zV,decide_false,I,if_false];exact e0
    | succ k ihk=>
     intro j n hj hn;obtain⟨q',rfl⟩:=sn (n:=n) (by omega);have hji:j<i:=by omega
     have hjl:j<(cs.take i).length:=by omega
     have hne:=hc.ne j i (by omega) hlt hji;have hg:(cs.take i)[j]=cs[j]:=by simp
     rw[Gp];simp only[Ag,hjl,decide_true,if_true,Ad hjl,Y,hg];rw[if_neg (by simpa using hne),Am hji (Ab (by omega))];exact ihk (j+1) q' (by omega) (by omega)
   exact inner i 0 bigN (by omega) (Al (Ab (by omega)))
 exact key cs.length 0 bigN (by omega) (Al (Ab (by omega)))
structure OptsOf (h:X3) (cs:N X7) (os:N (N X0)):Prop where
 len:os.length=cs.length
 l8:∀l∈os,l.length≤8
 ok:∀i (h1:i<cs.length) (h2:i<os.length),∀o∈os[i],OptOk h cs[i] o
theorem OptsOf.good{h:X3}{cs:N X7}{os:N (N X0)}(H:OptsOf h cs os):∀l∈os,∀o∈l,DN h o:=fun l hl o ho=>by
 obtain⟨i,hi,rfl⟩:=zF hl;have:=H.ok i (by have:=H.len; omega) hi o ho;exact⟨this.len,fun p hp=>(this.pass p hp).2.1⟩
theorem HW{h:X3}(s:HSmall h)(hh:As h=F){cs:N X7}(hc:CallsGood h cs):∃os,Io h cs=G os∧OptsOf h cs os∧∀i (h1:i<cs.length) (h2:i<os.length),CY h cs[i]=G os[i]:=by
 have h6:=hc.six;unfold Io
 have key:∀(k i n:V) (acc:N (N X0)),i+k=cs.length→k<n→acc.length=i→(∀l∈acc,l.length≤8)→(∀j (h1:j<cs.length) (h2:j<acc.length),CY h cs[j]=G acc[j])→
   (∀j (h1:j<cs.length) (h2:j<acc.length),∀o∈acc[j],OptOk h cs[j] o)→∃os,GY cs h n (i:O) acc=G os∧OptsOf h cs os∧∀i (h1:i<cs.length) (h2:i<os.length),CY h cs[i]=G os[i]:=by
  intro k
  induction k with
  | zero=>
   intro i n acc hi hn ha h8 he ho;obtain⟨q,rfl⟩:=sn (n:=n) (by omega);have:i=cs.length:=by omega
   subst this;exact⟨acc,by simp[GY],⟨ha,h8,ho⟩,he⟩
  | succ k ih=>
   intro i n acc hi hn ha h8 he ho;obtain⟨q,rfl⟩:=sn (n:=n) (by omega);have hlt:i<cs.length:=by omega
   obtain⟨l,e1,e2,e3⟩:=NT s hh (hc.ok _ (Z hlt));rw[GY];simp only[Ag,hlt,decide_true,if_true,Ad hlt,Y,e1];rw[if_pos (AO (by omega) (by simp) (by omega)),Am hlt (Ab (by omega))];refine ih (i+1) q _ (by omega) (by omega) (by simp; omega) (fun x hx=> ?_) (fun j h1 h2=> ?_) fun j h1 h2=> ?_
   ·rcases zJ.1 hx with hx|hx
    ·exact h8 x hx
    ·simp only[zE] at hx; exact hx▸e2
   ·by_cases hj:j<acc.length
    ·rw[zC hj]; exact he j h1 hj
    ·have:j=acc.length:=by simp at h2; omega
     subst this;subst ha;simpa using e1
   ·by_cases hj:j<acc.length
    ·rw[zC hj]; exact ho j h1 hj
    ·have:j=acc.length:=by simp at h2; omega
     subst this;subst ha;simpa using e3
 exact key cs.length 0 bigN [] (by omega) (Al (Ab (by omega))) X (fun l hl=>by cases hl) (fun j _ h=>by simp at h) fun j _ h=>by simp at h
def Dq(l:N X0):O:=(l.map X0.Cost).sum
def Oe(l:N X0):Prop:=∀o∈l,0≤o.Cost∧o.Cost≤2880
theorem V9{l:N X0}(h:Oe l):0≤Dq l∧Dq l≤2880*(l.length:O):=by
 induction l with
 | nil=>simp[Dq]
 | cons x l ih=>
  have:=h x (by simp);have:=ih fun o ho=>h o (by simp[ho])
  simp only[Dq,yM,yV,zK] at *
  omega
theorem Va(l:N X0)(o:X0):Dq (l++ [o])=Dq l+o.Cost:=by simp[Dq]
theorem aX{l:N X0}(hl:l.length≤1000)(h:Oe l):MH l=G (Dq l):=by
 have key:∀(k i n:V),i+k=l.length→k<n→Gw l n (Dq (l.take i)) (i:O)=G (Dq l):=by
  intro k
  induction k with
  | zero=>
   intro i n hi hn;obtain⟨q,rfl⟩:=sn (n:=n) (by omega);have:i=l.length:=by omega
   subst this;rw[zL];simp[Gw]
  | succ k ih=>
   intro i n hi hn;obtain⟨q,rfl⟩:=sn (n:=n) (by omega);have hlt:i<l.length:=by omega
   have b1:=V9 (l:=l.take i) fun o ho=>h o (yE ho)
   have b2:=h _ (Z hlt);have b3:((l.take i).length:O)≤1000:=by simp only[yY]; omega
   have e:=ih (i+1) q (by omega) (by omega);rw[zB hlt,Va] at e
   rw[Gw];simp only[Ag,hlt,decide_true,if_true,Ad hlt,Y,Am hlt (Ab (by omega))];rw[A8 (by omega) (by omega)];exact e
 exact key l.length 0 bigN (by omega) (Al (Ab (by omega)))
theorem JA{h:X3}{cs:N X7}{os:N (N X0)}(ho:OptsOf h cs os){pl:N X0}{ch:N O}(hch:Chosen os pl ch):∀i (hi:i<pl.length),∃hc:i<cs.length,OptOk h cs[i] pl[i]:=fun i hi=>by
 obtain⟨c1,c2,c3⟩:=hch;have hlen:=ho.len;obtain⟨_,_,d3⟩:=c3 i (by omega) hi (by omega);exact⟨by omega,ho.ok i (by omega) (by omega) _ (List.mem_of_getElem? d3)⟩
theorem OH{h:X3}{cs:N X7}{os:N (N X0)}(ho:OptsOf h cs os){pl:N X0}{ch:N O}(hch:Chosen os pl ch):Oe pl:=fun o hm=>by
 obtain⟨i,hi,rfl⟩:=zF hm;obtain⟨_,g⟩:=JA ho hch i hi;exact g.cost
structure Best (h:X3) (os:N (N X0)) (wv:N X0→Xi) (ch:N O) (lw:Xi) (f:U):Prop where
 plan:f=F→∃pl,Chosen os pl ch∧pl.length=os.length∧Fit h pl∧lw=wv pl
 least:∀pl c,Chosen os pl c→pl.length=os.length→Fit h pl→f=F∧Cn lw (wv pl)
 emp:f=E→ch= []
theorem kr{h:X3}(s:HSmall h)(hh:As h=F){cs:N X7}(hc:CallsGood h cs){os:N (N X0)}(ho:OptsOf h cs os){w:N X0→Option Xi}{wv:N X0→Xi}
  (hw:∀pl ch,Chosen os pl ch→w pl=G (wv pl)) (hm:∀pl ch o c,Chosen os pl ch→Chosen os (pl++ [o]) (ch++ [c])→Cn (wv pl) (wv (pl++ [o]))):∃ch lw f,KA h os w=G (ch,lw,f)∧Best h os wv ch lw f:=by
 have h6:=hc.six;have hlen:=ho.len;obtain⟨r,e,g,_,_,lo⟩:=oY s hh (cs:=os) (by omega) ho.l8 ho.good hw hm os.length bigN ⟨h,os,[],[],[],⟨0,0⟩,E⟩ (by simp) (by rw[C9]; omega) ⟨rfl,rfl,⟨rfl,by simp,fun i h1=>by simp at h1⟩,fun i hi=>by simp at hi,fun h=>(by cases h),fun _=>rfl⟩;have e:OZ w ⟨h,os,[],[],[],⟨0,0⟩,E⟩=G r:=e;exact⟨r.best,r.least,r.found,by simp only[KA,e,Y],fun hf=>g.best hf,fun pl c h1 h2 h3=>lo.all pl c h1 h2 h3 X,g.emp⟩
def OO(pl:N X0):Xi:=⟨Dq pl,0⟩
theorem I0{h:X3}(s:HSmall h)(hh:As h=F){cs:N X7}(hc:CallsGood h cs){os:N (N X0)}(e1:Io h cs=G os)(ho:OptsOf h cs os):∃ch lw f,Fl h cs=G (ch,lw.i0,f)∧Best h os OO ch lw f:=by
 have h6:=hc.six;have hlen:=ho.len
 obtain⟨ch,lw,f,e2,e3⟩:=kr s hh hc ho (w:=fun z0=>Ku z0) (wv:=OO) (fun pl ch hch=>by
  have:=hch.2.1;simp only[Ku,aX (l:=pl) (by omega) (OH ho hch),Y]; rfl) fun pl ch o c h1 h2=>by
  have:=OH ho h2 o (by simp);simp only[Cn,Fb,OO,Va];omega
 exact⟨ch,lw,f,by simp only[Fl,DR s hh hc,Y,if_true,e1,e2],e3⟩
theorem nN{h:X3}(s:HSmall h)(hh:As h=F){cs:N X7}(hc:CallsGood h cs){os:N (N X0)}(ho:OptsOf h cs os)(heq:∀i (h1:i<cs.length) (h2:i<os.length),CY h cs[i]=G os[i]){pl:N X0}{ch:N O}(hch:Chosen os pl ch)(hl:pl.length=os.length) :
  Kc h cs ch=G (pl,F):=by
 have h6:=hc.six;have hlen:=ho.len;obtain⟨c1,c2,c3⟩:=hch;unfold Kc;rw[DR s hh hc,Y,if_pos rfl,show((ch.length:O) !=(cs.length:O))=E by simp; omega];unfold Kd;rw[if_neg (by simp)]
 have key:∀(k i n:V) (acc:N X0),i+k=cs.length→k<n→acc=pl.take i→GP ch cs h n (i:O) acc=G (pl,F):=by
  intro k
  induction k with
  | zero=>
   intro i n acc hi hn ha;obtain⟨q,rfl⟩:=sn (n:=n) (by omega);have:i=cs.length:=by omega
   subst this;rw[zS (by omega)] at ha
   subst ha;simp[GP]
  | succ k ih=>
   intro i n acc hi hn ha;obtain⟨q,rfl⟩:=sn (n:=n) (by omega);have hlt:i<cs.length:=by omega
   have ho2:i<os.length:=by omega
   have hp2:i<pl.length:=by omega
   have hc2:i<ch.length:=by omega
   obtain⟨d1,d2,d3⟩:=c3 i hc2 hp2 ho2;have hix:ix os[i] ch[i]=G pl[i]:=by unfold ix; rw[if_pos d1]; exact d3
   rw[GP];simp only[Ag,hlt,decide_true,if_true,Ad hlt,Y,heq i hlt ho2,Ad hc2,CN,DD.2 ⟨d1,d2⟩,hix];rw[if_pos (AO (by rw[ha]; simp; omega) (by simp) (by omega)),Am hlt (Ab (by omega))];refine ih (i+1) q _ (by omega) (by omega) ?_;rw[ha,zB hp2]
 exact key cs.length 0 bigN [] (by omega) (Al (Ab (by omega))) (by simp)
theorem ZT{c:X4}(hc:CurOk c){x:X3}{cx:X4}(h3:x.Fleet.length≤3)(h4:4≤x.Chart.Points.length)(h1:1≤x.Fleet.length) :
  ∃l c',DC (x,cx) bigN 0 c.b c.i c.h []=G (x,l,c')∧CurOk c'∧CallsGood x l∧1≤l.length∧∀a∈l,a.Due≤1000:=by
 have key:∀(k i n:V) (c:X4) (l:N X7),i+k=x.Fleet.length→k<n→CurOk c→l.length≤i→(0<i→1≤l.length)→(∀a∈l,(Ca x a=F∧a.Due≤1000)∧a.Ship<(i:O))→
   (∀p q (hp:p<l.length) (hq:q<l.length),p<q→l[p].Ship≠l[q].Ship)→∃l' c',DC (x,cx) n (i:O) c.b c.i c.h l=G (x,l',c')∧CurOk c'∧CallsGood x l'∧1≤l'.length∧∀a∈l',a.Due≤1000:=by
  intro k
  induction k with
  | zero=>
   intro i n c l hi hn hc hl h0 ha hne;obtain⟨q,rfl⟩:=sn (n:=n) (by omega);have:i=x.Fleet.length:=by omega
   subst this;exact⟨l,c,by simp[DC],hc,⟨fun a h=>(ha a h).1.1,hne,by omega⟩,h0 (by omega),fun a h=>(ha a h).1.2⟩
  | succ k ih=>
   intro i n c l hi hn hc hl h0 ha hne;obtain⟨q,rfl⟩:=sn (n:=n) (by omega);have hlt:i<x.Fleet.length:=by omega
   have hw:kK .i64 ((i:O)+1)=((i+1:V):O):=Am hlt (Ab (by omega))
   have add:∀c:X4,CurOk c→∃l' c',FO (i:O) (x,cx) l (DC (x,cx) q) F c.b c.i c.h=G (x,l',c')∧CurOk c'∧CallsGood x l'∧1≤l'.length∧∀a∈l',a.Due≤1000:=fun c hc=>by
    obtain⟨a,c',e,h',a1,a2,a3⟩:=ZS hc (x:=x) (s:=(i:O)) (DD.2 ⟨by omega,by omega⟩) h4;have e':IH ⟨c.b,c.i,c.h⟩ (i:O)=G (a,c'):=e;simp only[FO,if_true,e',Y,hw];rw[if_pos (AO (by omega) (by simp) (by omega))];refine ih (i+1) q c' _ (by omega) (by omega) h' (by simp; omega) (fun _=>by simp) (fun y hy=> ?_) fun p r hp hr hpr=> ?_
    ·rcases zJ.1 hy with hy|hy
     ·obtain⟨y1,y2⟩:=ha y hy; exact⟨y1,by omega⟩
     ·simp only[zE] at hy; subst hy; exact⟨⟨a1,a3⟩,by omega⟩
    ·simp only[zG,zP] at hp hr
     rw[zC (show p<l.length by omega)];by_cases hrl:r<l.length
     ·rw[zC hrl]; exact hne p r (by omega) hrl hpr
     ·rw[zM (by omega)];have:r=l.length:=by omega
      subst this;simp only[yZ,List.getElem_singleton,a2];have:=(ha _ (Z (show p<l.length by omega))).2;omega
   have skip:∀c:X4,CurOk c→0<i→∃l' c',FO (i:O) (x,cx) l (DC (x,cx) q) E c.b c.i c.h=G (x,l',c')∧CurOk c'∧CallsGood x l'∧1≤l'.length∧∀a∈l',a.Due≤1000:=fun c hc hi0=>by
    simp only[FO,I,if_false,hw];exact ih (i+1) q c l (by omega) (by omega) hc (by omega) (fun _=>h0 hi0) (fun y hy=>by obtain⟨y1,y2⟩:=ha y hy; exact⟨y1,by omega⟩) hne
   rw[DC];simp only[Ag,hlt,decide_true,if_true];by_cases hi0:((i:O)==(0:O))=F
   ·rw[if_pos hi0]; exact add c hc
   ·rw[if_neg hi0];obtain⟨b,c',e,h'⟩:=F4 (n:=4) hc (by omega);have e':Cu ⟨c.b,c.i,c.h⟩ 4=G (b,c'):=e;rw[e',Y]
    have hpos:0<i:=by
     rcases Nat.eq_zero_or_pos i with h|h
     ·subst h; simp at hi0
     ·exact h
    cases b with
    | true=>exact skip c' h' hpos
    | false=>exact add c' h'
 exact key x.Fleet.length 0 bigN c [] (by omega) (Al (Ab (by omega))) hc (by simp) (fun h=>by omega) (fun a h=>by cases h) fun p q hp=>by simp at hp
theorem lZ{b:N O}(hb:b.length≤maxLen):∃h cs,KQ b=G (h,cs)∧HSmall h∧As h=F∧CallsGood h cs∧1≤cs.length∧1≤h.Fleet.length∧∀y∈h.Fleet,y.Name.length=2:=by
 obtain⟨c,e,hc⟩:=mG hb;obtain⟨x,c1,e1,h1,s1,s2,s3,s4,s5,s6⟩:=hP hc;obtain⟨l,c2,e2,h2,g1,g2,_⟩:=ZT h1 (x:=x) (cx:=c1) s5 s4.1 s3;exact⟨x,l,by simp only[KQ,N3,e,e1,e2,Y],s1,s2,g1,g2,s3,s6⟩
theorem dr{l:N X2}(hl:l.length≤maxLen):KO l l=G F:=by
 unfold KO;rw[if_neg (by simp)]
 have key:∀(k i n:V),i+k=l.length→k<n→Hb l l n (i:O)=G F:=by
  intro k
  induction k with
  | zero=>
   intro i n hi hn;obtain⟨q,rfl⟩:=sn (n:=n) (by omega);have:i=l.length:=by omega
   subst this;simp[Hb]
  | succ k ih=>
   intro i n hi hn;obtain⟨q,rfl⟩:=sn (n:=n) (by omega);have hlt:i<l.length:=by omega
   rw[Hb];simp only[Ag,hlt,decide_true,if_true,Ad hlt,Y,Am hlt (by omega),beq_self_eq_true,kJ];exact ih (i+1) q (by omega) (by omega)
 exact key l.length 0 bigN (by omega) (Al hl)
theorem ji{h:X3}(s:HSmall h)(hh:As h=F){a:X7}{o:X0}(ha:Ca h a=F)(ho:OptOk h a o):JX h a o=G F:=by
 have h100:=ho.len;obtain⟨v,v1,v2⟩:=ho.again
 have fin:K2 h a (o.Passages.map X2.Segment) o.Start=G (o,F):=by
  have hw:(decide (a.Ready≤o.Start)&&decide (o.Start≤a.Due))=F:=by simp[ho.start.1,ho.start.2]
  unfold K2;rw[Tb s,hh,ha,Y,CS,hw];simp only[kJ,if_true,Y,K3,kI,I,if_false,v1,v2,Y,if_true]
 unfold JX
 have key:∀(k i n:V),i+k=o.Passages.length→k<n→GG o h a n (i:O) ((o.Passages.take i).map X2.Segment)=G F:=by
  intro k
  induction k with
  | zero=>
   intro i n hi hn;obtain⟨q,rfl⟩:=sn (n:=n) (by omega);have:i=o.Passages.length:=by omega
   subst this
   have e:Ki o o=G F:=by
    simp only[Ki,beq_self_eq_true,if_true,dr (Ab (n:=o.Passages.length) (by omega)),Y]
   rw[zL,GG];simp only[Ag,zV,decide_false,I,if_false,fin,Y,if_true,e]
  | succ k ih=>
   intro i n hi hn;obtain⟨q,rfl⟩:=sn (n:=n) (by omega);have hlt:i<o.Passages.length:=by omega
   have e:=ih (i+1) q (by omega) (by omega);rw[zB hlt,yP] at e
   rw[GG];simp only[Ag,hlt,decide_true,if_true,Ad hlt,Y,Am hlt (Ab (by omega))];rw[if_pos (AO (by simp; omega) (by simp) (by omega))];exact e
 exact key o.Passages.length 0 bigN (by omega) (Al (Ab (by omega)))
theorem jj{h:X3}(s:HSmall h)(hh:As h=F){cs:N X7}(hc:CallsGood h cs){os:N (N X0)}(ho:OptsOf h cs os){pl:N X0}{ch:N O}(hch:Chosen os pl ch)(hl:pl.length=os.length)(hf:Fit h pl) :
  Ii h cs pl=G F:=by
 have h6:=hc.six;have hlen:=ho.len;have hopt:=JA ho hch;unfold Ii;rw[DR s hh hc,Y,if_pos rfl,if_neg (by simp; omega)]
 have key:∀(k i n:V),i+k=cs.length→k<n→GH pl cs h n (i:O)=G F:=by
  intro k
  induction k with
  | zero=>
   intro i n hi hn;obtain⟨q,rfl⟩:=sn (n:=n) (by omega);have:i=cs.length:=by omega
   subst this;simp[GH]
  | succ k ih=>
   intro i n hi hn;obtain⟨q,rfl⟩:=sn (n:=n) (by omega);have hlt:i<cs.length:=by omega
   have hpl:i<pl.length:=by omega
   obtain⟨_,g⟩:=hopt i hpl;rw[GH];simp only[Ag,hlt,decide_true,if_true,Ad hlt,Ad hpl,Y,ji s hh (hc.ok _ (Z hlt)) g,Eu (Nat.le_of_lt hpl),kE,Nat.sub_zero,hf i hpl,Am hlt (Ab (by omega))];exact ih (i+1) q (by omega) (by omega)
 exact key cs.length 0 bigN (by omega) (Al (Ab (by omega)))
theorem pj{α:Type}{l' l:N α}(h:l'.Sublist l):∃f:V→V,(∀i,i<l'.length→f i<l.length∧l[f i]?=l'[i]?)∧∀i j,i<l'.length→j<l'.length→f i=f j→i=j:=by
 induction h with
 | slnil=>exact⟨id,fun i h=>by simp at h,fun i j h=>by simp at h⟩
 | cons a _ ih=>
  obtain⟨f,h1,h2⟩:=ih;exact⟨fun i=>f i+1,fun i hi=>⟨by simp only[zK]; have:=(h1 i hi).1; omega,by simpa using(h1 i hi).2⟩,fun i j hi hj e=>h2 i j hi hj (Nat.succ.inj e)⟩
 | cons_cons a _ ih=>
  obtain⟨f,h1,h2⟩:=ih;refine⟨fun i=>match i with | 0=>0 | i+1=>f i+1,fun i hi=> ?_,fun i j hi hj e=> ?_⟩
  ·cases i with
   | zero=>exact⟨by simp,by simp⟩
   | succ i=>
    simp only[zK] at hi ⊢
    have:=h1 i (by omega);exact⟨by omega,by simpa using this.2⟩
  ·simp only[zK] at hi hj
   cases i with
   | zero=>cases j with
    | zero=>rfl
    | succ j=>simp at e
   | succ i=>cases j with
    | zero=>simp at e
    | succ j=>
     have:=h2 i j (by omega) (by omega) (by simpa using e);omega
section
variable {p : O} {m : N O} {l l' : N Xb}
theorem ab{n:V}(hs:l'.Sublist l)(h:Ds (Cq p m l) (2 ^ l.length - 1) n):Ds (Cq p m l') (2 ^ l'.length - 1) n:=by
 obtain⟨f,f1,f2⟩:=pj hs;obtain⟨g,g1,g2⟩:=h;simp only[yD,decide_eq_true_eq] at g1 g2
 refine⟨fun i=>g (f i),fun i hi=> ?_,fun i j hi hj hne e=> ?_⟩
 ·simp only[yD,decide_eq_true_eq] at hi
  exact g1 _ (f1 i hi).1
 ·simp only[yD,decide_eq_true_eq] at hi hj
  have:=g2 (f i) (f j) (f1 i hi).1 (f1 j hj).1 (fun h=>hne (f2 i j hi hj h)) e;unfold Cq at this ⊢
  rw[(f1 i hi).2,(f1 j hj).2] at this
  exact this
theorem OQ(hl:m.length≤maxLen)(hN:l.length≤12)(hd:∀d∈l,Bw d=F)(ht:CC p m=F):∃(n:V) (w:N O),Dt (Cq p m l) (2 ^ l.length - 1) n∧Dv p m l=G (w,(n:O),F):=by
 have hdo:(decide (l.length≤12)&&l.all Bw)=F:=by
  rw[zA,decide_eq_true_eq,zH]; exact⟨hN,hd⟩
 obtain⟨ms,m1,m2,m3⟩:=Tg hl ht hd hN;obtain⟨n,n1,n2,n3⟩:=TF (Rt p m l) hN (ms:=ms) ⟨m1,m2⟩
 have hmx:∀x∈ms,x<2 ^ 12:=fun x hx=>by
  obtain⟨i,hi,rfl⟩:=zF hx;refine IW fun j hj=> ?_
  have:=m2 i j (by omega);rw[C hi] at this
  have this:ms[i].testBit j=Ep p m l i j:=this;rw[this,Ep,zA,decide_eq_true_eq] at hj
  omega
 obtain⟨b,r,c1,c2,c3⟩:=RS ms.length bigN ms [] (n:O) [] (by simp) (by rw[C9]; omega) hmx (by omega) (fun g h=>by cases h) (by simp);refine⟨n,r.who,n1,?_⟩;unfold Dv H0;have ht':=ht;simp only[CC,zA] at ht'
 rw[IP,hdo,Y,if_pos rfl,NM,ht'.1,Y,if_pos rfl,Nu hl,ht'.2,Y,Y,if_pos rfl,m3,Y,n3,Y];have c1:MT ⟨nn ms,(n:O),[],[]⟩=G (b,r):=c1;rw[c1,Y];show G (r.who,r.most,F)=_
 rw[c2]
theorem RQ(hl:m.length≤maxLen)(hN:l.length≤12)(hd:∀d∈l,Bw d=F)(ht:CC p m=F)(k:O):∃n:V,Dt (Cq p m l) (2 ^ l.length - 1) n∧E1 p m l k=G (decide ((n:O)≤k)):=by
 obtain⟨n,w,h1,h2⟩:=OQ hl hN hd ht;have hn:n≤l.length:=h1.2 _ (MB (by have:=Nat.two_pow_pos l.length; omega));refine⟨n,h1,?_⟩;unfold E1;split
 ·rename_i hk
  simp only[decide_eq_true_eq] at hk
  rw[decide_eq_true (by omega)]
 ·rw[h2]; rfl
def Ew(p:O)(m:N O)(l:N Xb)(k:O):U:=(E1 p m l k).getD E
theorem aC(hl:m.length≤maxLen)(k:O):E1 p m l k=G (Ew p m l k):=by
 obtain⟨b,e⟩:=OP (p:=p) (m:=m) (l:=l) hl k;rw[Ew,e]; rfl
theorem RB(hl:m.length≤maxLen)(hN:l.length≤12)(hd:∀d∈l,Bw d=F)(ht:CC p m=F){k:O}(hs:l'.Sublist l)(h:Ew p m l k=F):Ew p m l' k=F:=by
 obtain⟨n,n1,n2⟩:=RQ hl hN hd ht k;obtain⟨n',n3,n4⟩:=RQ (l:=l') hl (yQ hs.length_le hN) (fun d hm=>hd d (hs.subset hm)) ht k;rw[Ew,n2] at h;rw[Ew,n4];simp only[Option.getD_some,decide_eq_true_eq] at h ⊢
 have:=n3.2 n (ab hs n1.1);omega
end
def HI(c:X5)(fl:N X9)(p:X2):N Xb:=zQ (Bo fl p.Ship).Tugs.toNat (CW c p p)
theorem V8{α β:Type}(f:α→N β){l' l:N α}(h:l'.Sublist l):(l'.flatMap f).Sublist (l.flatMap f):=by
 induction h with
 | slnil=>exact List.Sublist.slnil
 | cons a _ ih=>rw[yC]; exact ih.trans (List.sublist_append_right _ _)
 | cons_cons a _ ih=>rw[yC,yC]; exact(List.Sublist.refl _).append ih
theorem Vq{c:X5}{fl:N X9}(hn:∀x∈c.Points,x.Name.length≤maxLen)(hf:∀x∈fl,x.Name.length≤maxLen)(hc:AH c=F)(hfl:E6 fl=F){all:N X2}(hl:all.length≤maxLen)(hp:∀p∈all,CP c fl p=F) :
  FM c fl all=if(all.flatMap (HI c fl)).length≤12 then G (all.flatMap (HI c fl),F) else G ([],E):=by
 have key:∀(k i n:V) (acc:N Xb),i+k=all.length→k<n→acc.length≤12→CJ fl all c n (i:O) acc=if(acc++(all.drop i).flatMap (HI c fl)).length≤12 then G (acc++(all.drop i).flatMap (HI c fl),F) else G ([],E):=by
  intro k
  induction k with
  | zero=>
   intro i n acc hi hn2 ha;obtain⟨n,rfl⟩:=sn (n:=n) (by omega);have:i=all.length:=by omega
   subst this;rw[CJ,if_neg (by simp)];simp[ha]
  | succ k ih=>
   intro i n acc hi hn2 ha;obtain⟨n,rfl⟩:=sn (n:=n) (by omega);have hlt:i<all.length:=by omega
   have hpi:=hp _ (Z hlt);obtain⟨f1,f2,f3,f4,f5⟩:=CQ hc hpi;obtain⟨s1,s2⟩:=EW f1;have hso:=(FR hfl).2 _ s2
   have hT:0≤(Bo fl all[i].Ship).Tugs∧(Bo fl all[i].Ship).Tugs≤4:=by
    simp only[BO,zA,decide_eq_true_eq] at hso
    omega
   obtain⟨T,hTe⟩:∃T:V,(Bo fl all[i].Ship).Tugs=(T:O):=⟨(Bo fl all[i].Ship).Tugs.toNat,by omega⟩;have g2:=Vs (c:=c) (fl:=fl) (p:=all[i]) f2 all (i:O) (CJ fl all c n) hTe (by omega) T 0 bigN acc (by omega) (by rw[C9]; omega) (by omega);have g2:EP fl all (i:O) (Bo fl all[i].Ship) c all[i] (CJ fl all c n) bigN 0 acc=_:=g2;have et:HI c fl all[i]=zQ T (CW c all[i] all[i]):=by rw[HI,hTe]; rfl
   simp only[CJ,Ag,hlt,decide_true,if_true,Ad hlt,Y,Ns hn hf hc hfl,hpi,s1];rw[g2,zW hlt,yC,et,← List.append_assoc];by_cases h12:(12:O)<((acc++zQ T (CW c all[i] all[i])).length:O)
   ·simp only[h12,decide_true,if_true];rw[if_neg (by rw[zG]; omega)]
   ·simp only[h12,decide_false,I,if_false];rw[Am hlt hl];exact ih (i+1) n _ (by omega) (by omega) (by omega)
 exact key all.length 0 bigN [] (by omega) (Al hl) (by simp)
def dP:X2:=⟨0,0,E,0,0⟩
def G2(c:X5)(o:X0):Xb:=CW c (o.Passages[0]?.getD dP) (o.Passages[o.Passages.length - 1]?.getD dP)
def DK(h:X3)(l:N X0):N Xb:=(l.flatMap X0.Passages).flatMap (HI h.Chart h.Fleet)
def Hx(h:X3)(l:N X0):N Xb:=l.map (G2 h.Chart)
def CG(h:X3)(l:N X0):U:=decide ((DK h l).length≤12)&&(Ew 0 h.Crew.Moves (DK h l) h.Crew.Tugs&&Ew h.Crew.Rest h.Crew.Moves (Hx h l) h.Crew.Pilots)
def Dd(h:X3)(l:N X0):Prop:=∀o∈l,∃a,OptOk h a o
theorem OptOk.good{h:X3}{a:X7}{o:X0}(H:OptOk h a o):DN h o:=⟨H.len,fun p hp=>(H.pass p hp).2.1⟩
section
variable {h : X3}
theorem af(s:HSmall h)(hh:As h=F){l:N X0}(hl:l.length≤1000)(ho:Dd h l):E2 h l=G (CG h l):=by
 have hh':=hh;simp only[As,zA] at hh'
 obtain⟨hf,hc,hfl,hreg,hcrew⟩:=hh'
 have key:∀(k i n:V),i+k=l.length→k<n→((l.take i).flatMap X0.Passages).length≤100*i→Dy l h n (i:O) ((l.take i).flatMap X0.Passages) (Hx h (l.take i))=G (CG h l):=by
  intro k
  induction k with
  | zero=>
   intro i n hi hn ha;obtain⟨q,rfl⟩:=sn (n:=n) (by omega);have:i=l.length:=by omega
   subst this;rw[zL] at ha ⊢
   have e:=Vq s.pn s.fn hc hfl (all:=l.flatMap X0.Passages) (Ab (by omega)) fun p hp=>by
    obtain⟨o,h1,h2⟩:=yN.1 hp;obtain⟨a,H⟩:=ho o h1;exact H.good.2 p h2
   have e:FM h.Chart h.Fleet (l.flatMap X0.Passages)=if(DK h l).length≤12 then G (DK h l,F) else G ([],E):=e;rw[Dy];simp only[Ag,zV,decide_false,I,if_false,e];unfold CG;by_cases h12:(DK h l).length≤12
   ·simp only[h12,if_true,Y,aC s.mv,decide_true,Bool.true_and];cases Ew 0 h.Crew.Moves (DK h l) h.Crew.Tugs<;>rfl
   ·simp only[h12,if_false,Y,decide_false,Bool.false_and,I]
  | succ k ih=>
   intro i n hi hn ha;obtain⟨q,rfl⟩:=sn (n:=n) (by omega);have hlt:i<l.length:=by omega
   obtain⟨a,H⟩:=ho _ (Z hlt);obtain⟨g1,g2⟩:=H.good;have hz:=H.pos;have ep:kK .i64 ((l[i].Passages.length:O) - 1)=((l[i].Passages.length - 1:V):O):=by rw[A8 (by omega) (by omega)]; omega
   have hz9:l[i].Passages.length - 1<l[i].Passages.length:=by omega
   have e0:ix l[i].Passages 0=G l[i].Passages[0]:=Ad hz;have e9:ix l[i].Passages ((l[i].Passages.length - 1:V):O)=G l[i].Passages[l[i].Passages.length - 1]:=Ad hz9;have s1:=(CQ hc (g2 _ (Z hz))).2.1;have s2:=(CQ hc (g2 _ (Z hz9))).2.1
   have hd:G2 h.Chart l[i]=CW h.Chart l[i].Passages[0] l[i].Passages[l[i].Passages.length - 1]:=by
    rw[G2,C hz,C hz9]; rfl
   have ei:=ih (i+1) q (by omega) (by omega) (by rw[zB hlt,yH,zG,yA]; omega);rw[zB hlt,yH,Hx,yP,List.map_singleton,hd,yA] at ei
   rw[Dy];simp only[Ag,hlt,decide_true,if_true,Ad hlt,Y,Am hlt (Ab (by omega))];rw[if_pos (AO (by omega) (by omega) (by omega)),if_pos (by simp; omega)];simp only[e0,ep,e9,Y,Nt s1 s2];rw[if_pos (AO (by simp[Hx]; omega) (by simp) (by omega))];exact ei
 exact key l.length 0 bigN (by omega) (Al (Ab (by omega))) (by simp)
theorem Ud(hc:AH h.Chart=F){o:X0}(ho:∃a,OptOk h a o):Bw (G2 h.Chart o)=F:=by
 obtain⟨a,H⟩:=ho;have hz:=H.pos;have hz9:o.Passages.length - 1<o.Passages.length:=by omega
 rw[G2,C hz,C hz9];simp only[Option.getD_some];have f0:=CQ hc (H.good.2 _ (Z hz));have f9:=CQ hc (H.good.2 _ (Z hz9));have g0:=H.fst _ (C hz);have g9:=H.late _ (Z hz9);have g8:=U8 hc (H.good.2 _ (Z hz9));exact RW hc f0.2.1 f9.2.1 (by omega) (by omega) (by omega)
theorem Vr(hc:AH h.Chart=F){l:N X0}(ho:Dd h l):∀d∈DK h l,Bw d=F:=fun d hd=>by
 obtain⟨p,h1,h2⟩:=yN.1 hd;obtain⟨o,h3,h4⟩:=yN.1 h1;obtain⟨a,H⟩:=ho o h3;have f:=CQ hc (H.good.2 p h4);have g:=U8 hc (H.good.2 p h4);rw[kB h2];exact RW hc f.2.1 f.2.1 (by omega) (by omega) (by omega)
theorem RU(s:HSmall h)(hh:As h=F){l l':N X0}(hl:l.length≤12)(ho:Dd h l)(hs:l'.Sublist l)(H:CG h l=F):CG h l'=F:=by
 have hh':=hh;simp only[As,zA] at hh'
 obtain⟨hf,hc,hfl,hreg,hcrew⟩:=hh';obtain⟨m1,m2⟩:=OR hcrew;simp only[CG,zA,decide_eq_true_eq] at H ⊢
 obtain⟨h1,h2,h3⟩:=H;have ht:(DK h l').Sublist (DK h l):=V8 _ (V8 _ hs);have hp:(Hx h l').Sublist (Hx h l):=hs.map _;refine⟨yQ ht.length_le h1,RB s.mv h1 (Vr hc ho) (by simp only[CC,m2,yW]; decide) ht h2,RB s.mv (by simpa[Hx] using hl) (fun d hd=> ?_) (by simp only[CC,m1,m2,yW]) hp h3⟩;obtain⟨o,h4,rfl⟩:=List.mem_map.1 hd;exact Ud hc (ho o h4)
def Gi(h:X3)(x o:X0):U:=(FB h.Chart h.Regime x.Passages o.Passages).getD E
theorem RD{x o:X0}(hx:DN h x)(ho:DN h o):FB h.Chart h.Regime x.Passages o.Passages=G (Gi h x o):=by
 obtain⟨r,e⟩:=RE (c:=h.Chart) (rg:=h.Regime) (a:=x.Passages) (b:=o.Passages) (Ab (by have:=hx.1; omega)) (Ab (by have:=ho.1; omega));rw[Gi,e]; rfl
theorem eS(s:HSmall h)(hh:As h=F){l:N X0}{o:X0}(hl:l.length≤100)(ho:Dd h (l++ [o])):EM h l o=G (l.all (fun x=> !Gi h x o)&&CG h (l++ [o])):=by
 have g0:DN h o:=by obtain⟨a,H⟩:=ho o (by simp); exact H.good
 have key:∀(k i n:V),i+k=l.length→k<n→E3 l h o n (i:O)=G ((l.drop i).all (fun x=> !Gi h x o)&&CG h (l++ [o])):=by
  intro k
  induction k with
  | zero=>
   intro i n hi hn;obtain⟨q,rfl⟩:=sn (n:=n) (by omega);have:i=l.length:=by omega
   subst this;rw[E3];simp only[Ag,zV,decide_false,I,if_false,RG (show l.length≤1000 by omega),Y];rw[if_pos (AO (by omega) (by simp) (by omega)),af s hh (by simp; omega) ho];simp
  | succ k ih=>
   intro i n hi hn;obtain⟨q,rfl⟩:=sn (n:=n) (by omega);have hlt:i<l.length:=by omega
   obtain⟨a,H⟩:=ho _ (List.mem_append_left _ (Z hlt));rw[E3,zW hlt,List.all_cons];simp only[Ag,hlt,decide_true,if_true,Ad hlt,Y,RD H.good g0,Am hlt (Ab (by omega)),ih (i+1) q (by omega) (by omega)];cases Gi h l[i] o<;>simp
 exact key l.length 0 bigN (by omega) (Al (Ab (by omega)))
theorem P6(s:HSmall h)(hh:As h=F){l:N X0}(hl:l.length≤12)(ho:Dd h l):Fit h l↔l.Pairwise (fun x y=>Gi h x y=E)∧(l≠ []→CG h l=F):=by
 have fe:∀i (hi:i<l.length),EM h (l.take i) l[i]=G ((l.take i).all (fun x=> !Gi h x l[i])&&CG h (l.take (i+1))):=fun i hi=>by
  rw[eS s hh (by simp; omega) (fun o hm=>ho o (by rw[← zB hi] at hm; exact yE hm)),zB hi]
 constructor
 ·intro H;refine⟨zX.2 fun i j hi hj hij=> ?_,fun hne=> ?_⟩
  ·have:=H j hj;rw[fe j hj,zD,zA,zH] at this
   have:=this.1 l[i] (yX.2 ⟨i,by omega,rfl⟩);simpa using this
  ·have h0:0<l.length:=zR.2 hne;have:=H (l.length - 1) (by omega);rw[fe _ (by omega),zD,zA,show l.length - 1+1=l.length by omega,zL] at this
   exact this.2
 ·intro⟨h1,h2⟩ i hi;rw[fe i hi,zD,zA,zH];refine⟨fun x hx=> ?_,RU s hh hl ho (List.take_sublist _ _) (h2 fun e=>by rw[e] at hi; simp at hi)⟩;obtain⟨j,hj,rfl⟩:=yX.1 hx;have:=zX.1 h1 j i (by omega) hi (by omega);rw[this]; rfl
theorem eR(s:HSmall h)(hh:As h=F){l l':N X0}(hl:l.length≤12)(ho:Dd h l)(hs:l'.Sublist l)(H:Fit h l):Fit h l':=by
 obtain⟨h1,h2⟩:=(P6 s hh hl ho).1 H;refine(P6 s hh (yQ hs.length_le hl) fun o hm=>ho o (hs.subset hm)).2 ⟨h1.sublist hs,fun hne=>RU s hh hl ho hs (h2 fun e=> ?_)⟩;subst e;exact hne (List.sublist_nil.1 hs)
end
def BC:O→O→N O→U
 | _,_,[]=>F
 | a,n,x::l=>decide (a≤x)&&(decide (x<n)&&BC (x+1) n l)
theorem Jw{n:O}:∀{l:N O} {a:O},BC a n l=F→∀x∈l,a≤x∧x<n
 | [],_,_,_,hx=>by simp at hx
 | y::l,a,h,x,hx=>by
  simp only[BC,zA,decide_eq_true_eq] at h;rcases zI.1 hx with rfl|hx
  ·exact⟨h.1,h.2.1⟩
  ·have:=Jw h.2.2 x hx;omega
theorem Rl{n:O}:∀{l:N O} {a:O},BC a n l=F→∀i (h:i+1<l.length),l[i]<l[i+1]
 | [],_,_,i,h=>by simp at h
 | [y],_,_,i,h=>by simp at h
 | y::z::l,a,h,0,_=>by
  simp only[BC,zA,decide_eq_true_eq] at h;simp only[zT,List.getElem_cons_succ];omega
 | y::z::l,a,h,i+1,hi=>by
  have h2:BC (y+1) n (z::l)=F:=by
   simp only[BC,zA,decide_eq_true_eq] at h ⊢
   exact h.2.2
  have:=Rl h2 i (by simpa using hi);simpa using this
def BM(n:V)(l:N O):N V:=(zO n).filter fun i:V=>l.contains (i:O)
theorem YU:∀(d:V) {l:N O} {a:V},BC a ((a+d:V):O) l=F→((yG a d).filter fun i:V=>l.contains (i:O)).map (fun i:V=>(i:O))=l:=by
 intro d
 induction d with
 | zero=>
  intro l a h;cases l with
  | nil=>rfl
  | cons x l=>
   simp only[BC,zA,decide_eq_true_eq] at h;omega
 | succ d ih=>
  intro l a h;cases l with
  | nil=>simp
  | cons x l=>
   have h0:=h;simp only[BC,zA,decide_eq_true_eq] at h;have e:(((a+1+d:V)):O)=((a+(d+1):V):O):=by omega
   rw[List.range'_succ];by_cases hx:x=(a:O)
   ·subst hx;have h2:=ih (l:=l) (a:=a+1) (by rw[e]; simpa using h.2.2);rw[List.filter_cons];simp only[List.contains_cons,beq_self_eq_true,Bool.true_or,if_true,yM];rw[List.filter_congr (q:=fun i:V=>l.contains (i:O)) fun i hi=> ?_,h2];have:=List.mem_range'_1.1 hi;have hne:((i:O)==(a:O))=E:=by simp; omega
    simp[hne]
   ·have h2:=ih (l:=x::l) (a:=a+1) (by
     rw[e];simp only[BC,zA,decide_eq_true_eq];exact⟨by omega,h.2⟩)
    have hna:(x::l).contains (a:O)=E:=by
     cases hc:(x::l).contains (a:O) with
     | false=>rfl
     | true=>
      have hm:(a:O)∈x::l:=by simpa using hc
      rcases zI.1 hm with h3|h3
      ·exact absurd h3.symm hx
      ·have:=Jw h.2.2 _ h3;omega
    rw[List.filter_cons,hna];simpa using h2
theorem Mp{n:V}{l:N O}(h:BC 0 (n:O) l=F):(BM n l).map (fun i:V=>(i:O))=l:=by
 have:=YU n (l:=l) (a:=0) (by simpa using h);unfold BM;rw[List.range_eq_range'];exact this
theorem YW{n:V}{l:N O}(h:BC 0 (n:O) l=F)(hl:l.length=n):BM n l=zO n:=by
 have e:=Mp h;have h2:(BM n l).length=n:=by have:=congrArg kD e; simpa[hl] using this
 unfold BM at h2 ⊢
 refine List.filter_eq_self.2 fun x hx=> ?_
 have h3:((zO n).filter fun i:V=>l.contains (i:O)).length=(zO n).length:=by simpa using h2
 rw[List.length_filter_eq_length_iff] at h3
 exact h3 x hx
def UB(n k:V):U:=match MU (n:O) (k:O) with
 | some L=>L.all (fun l=>BC 0 (n:O) l&&(l.length==k))&&(decide (L.length≤64)&& !L.isEmpty)
 | none=>E
theorem oc:(zO 7).all (fun n=>(zO (n+1)).all (UB n))=F:=by kernel_rfl
theorem od{n k:V}(hn:n≤6)(hk:k≤n):∃L,MU (n:O) (k:O)=G L∧(∀l∈L,BC 0 (n:O) l=F∧l.length=k)∧L.length≤64∧L≠ []:=by
 have h:=zH.1 (zH.1 oc n (zY.2 (by omega))) k (zY.2 (by omega));unfold UB at h;split at h
 ·rename_i L e
  simp only[zA,zH,decide_eq_true_eq,beq_iff_eq,Bool.not_eq_true',List.isEmpty_eq_false_iff] at h;exact⟨L,e,h.1,h.2.1,h.2.2⟩
 ·cases h
def pick{α:Type}(cs:N α)(is:N V):N α:=is.filterMap fun i=>cs[i]?
theorem Uc{α:Type}(cs:N α)(p:V→U):∀(k:V),k≤cs.length→(pick cs ((zO k).filter p)).Sublist (cs.take k):=by
 intro k
 induction k with
 | zero=>intro _; simp[pick]
 | succ k ih=>
  intro hk;have h:=ih (by omega);rw[List.range_succ,List.filter_append,zB (by omega)];unfold pick at h ⊢
  rw[yO];refine h.append ?_;cases hp:p k with
  | true=>simp[hp,C (show k<cs.length by omega)]
  | false=>simp[hp]
theorem nF{α:Type}(cs:N α):pick cs (zO cs.length)=cs:=by
 have key:∀k,k≤cs.length→pick cs (zO k)=cs.take k:=by
  intro k
  induction k with
  | zero=>intro _; simp[pick]
  | succ k ih=>
   intro hk;have h:=ih (by omega);rw[List.range_succ,zB (by omega)];unfold pick at h ⊢
   rw[yO,h];simp[C (show k<cs.length by omega)]
 rw[key _ (yS _),zL]
theorem CallsGood.sub{h:X3}{cs ds:N X7}(H:CallsGood h cs)(hs:ds.Sublist cs):CallsGood h ds:=
 ⟨fun a ha=>H.ok a (hs.subset ha),fun i j hi hj hij=>by
  have hp:cs.Pairwise fun a b:X7=>a.Ship≠b.Ship:=zX.2 fun i j hi hj hij=>H.ne i j hi hj hij
  exact zX.1 (hp.sublist hs) i j hi hj hij,yQ hs.length_le H.six⟩
theorem CallsGood.pick{h:X3}{cs:N X7}(H:CallsGood h cs)(p:V→U):CallsGood h (pick cs ((zO cs.length).filter p)):=
 H.sub (by have:=Uc cs p cs.length (yS _); rwa [zL] at this)
theorem Ty{cs:N X7}(h6:cs.length≤6){l:N O}(hl:l.length≤1000)(ha:BC 0 (cs.length:O) l=F):Ky cs l=G F:=by
 have key:∀(k i n:V),i+k=l.length→k<n→FF cs l n (i:O)=G F:=by
  intro k
  induction k with
  | zero=>
   intro i n hi hn;obtain⟨q,rfl⟩:=sn (n:=n) (by omega);have:i=l.length:=by omega
   subst this;simp[FF]
  | succ k ih=>
   intro i n hi hn;obtain⟨q,rfl⟩:=sn (n:=n) (by omega);have hlt:i<l.length:=by omega
   have e0:=ih (i+1) q (by omega) (by omega);rw[← Am hlt (Ab (by omega))] at e0
   have g:=Jw ha _ (Z hlt);rw[FF];simp only[Ag,hlt,decide_true,if_true,Ad hlt,Y,CN,DD.2 g];by_cases h0:i=0
   ·subst h0;rw[if_neg (by simp)];exact e0
   ·rw[if_pos (by simp; omega)];obtain⟨j,rfl⟩:∃j,i=j+1:=⟨i - 1,by omega⟩;have hw:kK .i64 (((j+1:V):O) - 1)=(j:O):=by rw[A8 (by omega) (by omega)]; omega
    have hjl:j<l.length:=by omega
    rw[hw,Ad hjl,Y];have:=Rl ha j hlt;rw[if_neg (by simp; omega)];exact e0
 exact key l.length 0 bigN (by omega) (Al (Ab (by omega)))
theorem oe{cs:N X7}(h6:cs.length≤6){l:N O}(hl:l.length≤1000)(ha:BC 0 (cs.length:O) l=F):Kk cs l=G (pick cs (BM cs.length l)):=by
 have hil:(BM cs.length l).length=l.length:=by have:=congrArg kD (Mp ha); simpa using this
 have hat:∀i (h:i<l.length),∃(h2:i<(BM cs.length l).length) (h3:(BM cs.length l)[i]<cs.length),l[i]=(((BM cs.length l)[i]:V):O):=fun i h=>by
  have h2:i<(BM cs.length l).length:=by omega
  have e:=congrArg (fun z=>z[i]?) (Mp ha);simp only[yL,C h2,C h,Option.map_some,zD] at e
  have:=Jw ha _ (Z h);exact⟨h2,by omega,e.symm⟩
 unfold Kk;rw[Ty h6 hl ha,Y,if_pos rfl]
 have key:∀(k i n:V) (v:N X7),i+k=l.length→k<n→v=pick cs ((BM cs.length l).take i)→v.length=i→GT cs l n (i:O) v=G (pick cs (BM cs.length l)):=by
  intro k
  induction k with
  | zero=>
   intro i n v hi hn hv _;obtain⟨q,rfl⟩:=sn (n:=n) (by omega);have:i=l.length:=by omega
   subst this;rw[zS (by omega)] at hv
   subst hv;simp[GT]
  | succ k ih=>
   intro i n v hi hn hv hvl;obtain⟨q,rfl⟩:=sn (n:=n) (by omega);have hlt:i<l.length:=by omega
   obtain⟨h2,h3,h4⟩:=hat i hlt;rw[GT];simp only[Ag,hlt,decide_true,if_true,Ad hlt,Y];rw[h4,Ad h3,Y,if_pos (AO (by omega) (by simp) (by omega)),Am hlt (Ab (by omega))];refine ih (i+1) q _ (by omega) (by omega) ?_ (by simp[hvl]);rw[hv,zB h2];unfold pick;rw[yO];simp only[List.filterMap_cons,C h3,List.filterMap_nil]
 exact key l.length 0 bigN [] (by omega) (Al (Ab (by omega))) (by simp[pick]) X
open Go.Lib
theorem NV{α:Type}{l:N α}:∀{is:N V},(∀i∈is,i<l.length)→(pick l is).length=is.length∧∀j (h:j<is.length),(pick l is)[j]?=l[is[j]]?
 | [],_=>⟨rfl,fun j h=>by simp at h⟩
 | i::is,hi=>by
  obtain⟨h1,h2⟩:=NV (l:=l) (is:=is) fun k hk=>hi k (by simp[hk])
  have hil:=hi i (by simp);have e:pick l (i::is)=l[i]::pick l is:=by simp[pick,List.filterMap_cons,C hil]
  rw[e];refine⟨by simp[h1],fun j hj=> ?_⟩;cases j with
  | zero=>simp[C hil]
  | succ j=>simpa using h2 j (by simpa using hj)
def C5(h:X3)(ds:N X7):U:=match Fl h ds with
 | some r=>r.2.2
 | none=>E
section
variable {h : X3} {cs : N X7}
theorem pF(s:HSmall h)(hh:As h=F)(hc:CallsGood h cs):JO h cs=G (C5 h cs):=by
 obtain⟨os,e1,ho,_⟩:=HW s hh hc;obtain⟨ch,lw,f,e2,_⟩:=I0 s hh hc e1 ho;simp only[JO,C5,e2,Y]
theorem pH(s:HSmall h)(hh:As h=F)(hc:CallsGood h cs)(p:V→U)(H:C5 h cs=F):C5 h (pick cs ((zO cs.length).filter p))=F:=by
 obtain⟨os,e1,ho,he⟩:=HW s hh hc;obtain⟨ch,lw,f,e2,hb⟩:=I0 s hh hc e1 ho;have hf:f=F:=by simpa[C5,e2] using H
 obtain⟨pl,c1,c2,c3,_⟩:=hb.plan hf;have hc':=hc.pick p;have hsub:=Uc pl p pl.length (yS _);have hol:=ho.len;rw[zL,c2,hol] at hsub
 have hin:∀i∈(zO cs.length).filter p,i<cs.length:=fun i hi=>zY.1 (List.mem_filter.1 hi).1
 generalize (zO cs.length).filter p=is at hc' hsub hin
 obtain⟨os',e1',ho',he'⟩:=HW s hh hc';obtain⟨ch',lw',f',e2',hb'⟩:=I0 s hh hc' e1' ho';have h6:=hc.six;have hcl:=c1.1;obtain⟨a1,a2⟩:=NV (l:=cs) (is:=is) hin;obtain⟨b1,b2⟩:=NV (l:=pl) (is:=is) fun i hi=>(by have:=hin i hi; omega)
 obtain⟨d1,d2⟩:=NV (l:=ch) (is:=is) fun i hi=>(by have:=hin i hi; omega)
 have hol':=ho'.len
 have hch:Chosen os' (pick pl is) (pick ch is):=⟨by omega,by omega,fun j h1 h2 h3=>by
  have hj:j<is.length:=by omega
  have hi:=hin _ (Z hj);have a3:=a2 j hj;have b3:=b2 j hj;have d3:=d2 j hj;rw[C (by omega),C (by omega),zD] at a3 b3 d3
  have e3:=he' j (by omega) h3;rw[a3,he is[j] hi (by omega),zD] at e3
  rw[b3,d3,← e3];exact c1.2.2 is[j] (by omega) (by omega) (by omega)⟩
 have hfit:Fit h (pick pl is):=eR s hh (l:=pl) (by omega) (fun o hm=>by
  obtain⟨i,hi,rfl⟩:=zF hm;obtain⟨_,g⟩:=JA ho c1 i hi;exact⟨_,g⟩) hsub c3
 have:=(hb'.least _ _ hch (by omega) hfit).1;simp only[C5,e2',this]
theorem pG(s:HSmall h)(hh:As h=F):C5 h []=F:=by
 have hc:CallsGood h []:=⟨fun a h=>(by cases h),fun i j hi=>(by simp at hi),by simp⟩;obtain⟨os,e1,ho,he⟩:=HW s hh hc;obtain⟨ch,lw,f,e2,hb⟩:=I0 s hh hc e1 ho;have:=(hb.least [] [] ⟨rfl,by simp,fun i h1=>by simp at h1⟩ (by have:=ho.len; simp at this ⊢; simp[this]) fun i hi=>by simp at hi).1;simp only[C5,e2,this]
def sv(h:X3)(cs:N X7)(l:N O):U:=C5 h (pick cs (BM cs.length l))
theorem Rk{n:V}{l:N O}(ha:BC 0 (n:O) l=F):l.length≤n:=by
 have h1:=congrArg kD (Mp ha);have h2:(BM n l).length≤n:=yQ (List.length_filter_le _ _) (by simp);simp only[List.length_map] at h1
 omega
theorem oh(s:HSmall h)(hh:As h=F)(hc:CallsGood h cs){l:N O}(ha:BC 0 (cs.length:O) l=F):Kl h cs l=G (sv h cs l):=by
 have h6:=hc.six;have hl:=Rk ha;have hp:CallsGood h (pick cs (BM cs.length l)):=hc.pick _;unfold Kl;rw[DR s hh hc,Y,if_pos rfl,Ty h6 (by omega) ha,Y,if_pos rfl,oe h6 (by omega) ha,Y,pF s hh hp];rfl
theorem nl(s:HSmall h)(hh:As h=F)(hc:CallsGood h cs){L:N (N O)}(hL:∀l∈L,BC 0 (cs.length:O) l=F)(h64:L.length≤64)(y v:O)(K:O→Option (N O)) :
  (∃x∈L,sv h cs x=E∧CZ cs y v L h K bigN 0=G x)∨((∀x∈L,sv h cs x=F)∧CZ cs y v L h K bigN 0=K (kK .i64 (v+1))):=by
 have key:∀(k i n:V),i+k=L.length→k<n→(∃x∈L,sv h cs x=E∧CZ cs y v L h K n (i:O)=G x)∨((∀x∈L.drop i,sv h cs x=F)∧CZ cs y v L h K n (i:O)=K (kK .i64 (v+1))):=by
  intro k
  induction k with
  | zero=>
   intro i n hi hn;obtain⟨q,rfl⟩:=sn (n:=n) (by omega);have:i=L.length:=by omega
   subst this;exact Or.inr ⟨fun x hx=>by simp at hx,by rw[CZ,if_neg (by simp)]⟩
  | succ k ih=>
   intro i n hi hn;obtain⟨q,rfl⟩:=sn (n:=n) (by omega);have hlt:i<L.length:=by omega
   have hm:=Z hlt
   have e:CZ cs y v L h K (q+1) (i:O)=if sv h cs L[i]=F then CZ cs y v L h K q ((i+1:V):O) else G L[i]:=by
    rw[CZ];simp only[Ag,hlt,decide_true,if_true,Ad hlt,Y,oh s hh hc (hL _ hm),Am hlt (Ab (by omega))]
   rw[e];by_cases hs:sv h cs L[i]=F
   ·rw[if_pos hs];rcases ih (i+1) q (by omega) (by omega) with H|⟨H1,H2⟩
    ·exact Or.inl H
    ·refine Or.inr ⟨fun x hx=> ?_,H2⟩;rw[zW hlt] at hx
     rcases zI.1 hx with rfl|hx
     ·exact hs
     ·exact H1 x hx
   ·rw[if_neg hs];exact Or.inl ⟨_,hm,by simpa using hs,X⟩
 have:=key L.length 0 bigN (by omega) (Al (Ab (by omega)));simpa using this
theorem nk(s:HSmall h)(hh:As h=F)(hc:CallsGood h cs):∃r,Ik h cs=G r∧BC 0 (cs.length:O) r=F∧(r= []↔C5 h cs=F):=by
 have h6:=hc.six
 have nn0:sv h cs []=F:=by
  have:BM cs.length []= []:=by simp[BM]
  rw[sv,this]; exact pG s hh
 have key:∀(d k n:V),k+d=cs.length+1→d<n→(∃x,BC 0 (cs.length:O) x=F∧sv h cs x=E∧Di cs h ((cs.length+1:V):O) n (k:O)=G x)∨((k≤cs.length→C5 h cs=F)∧Di cs h ((cs.length+1:V):O) n (k:O)=G []):=by
  intro d
  induction d with
  | zero=>
   intro k n hk hn;obtain⟨q,rfl⟩:=sn (n:=n) (by omega);exact Or.inr ⟨fun h=>by omega,by rw[Di,if_neg (by simp; omega)]⟩
  | succ d ih=>
   intro k n hk hn;obtain⟨q,rfl⟩:=sn (n:=n) (by omega);obtain⟨L,l1,l2,l3,l4⟩:=od h6 (show k≤cs.length by omega)
   have e:Di cs h ((cs.length+1:V):O) (q+1) (k:O)=CZ cs ((cs.length+1:V):O) (k:O) L h (Di cs h ((cs.length+1:V):O) q) bigN 0:=by
    rw[Di,if_pos (by simp; omega),l1]; rfl
   rw[e];rcases nl s hh hc (fun l hl=>(l2 l hl).1) l3 ((cs.length+1:V):O) (k:O) (Di cs h ((cs.length+1:V):O) q) with ⟨x,x1,x2,x3⟩|⟨x1,x2⟩
   ·exact Or.inl ⟨x,(l2 x x1).1,x2,x3⟩
   ·rw[x2,A8 (by omega) (by omega),show(k:O)+1=((k+1:V):O) by omega];rcases ih (k+1) q (by omega) (by omega) with H|⟨H1,H2⟩
    ·exact Or.inl H
    ·refine Or.inr ⟨fun hle=> ?_,H2⟩;by_cases hk2:k=cs.length
     ·obtain⟨x,hx⟩:=List.exists_mem_of_ne_nil _ l4;have:=x1 x hx;rw[sv,YW (l2 x hx).1 (by rw[(l2 x hx).2,hk2]),nF] at this
      exact this
     ·exact H1 (by omega)
 have e0:Ik h cs=Di cs h ((cs.length+1:V):O) bigN ((0:V):O):=by
  unfold Ik;rw[DR s hh hc,Y,if_pos rfl,A8 (by omega) (by omega)];rfl
 rcases key (cs.length+1) 0 bigN (by omega) (Al (Ab (by omega))) with ⟨x,x1,x2,x3⟩|⟨x1,x2⟩
 ·refine⟨x,by rw[e0,x3],x1,fun e=> ?_,fun e=> ?_⟩
  ·subst e; rw[nn0] at x2; cases x2
  ·have:=pH s hh hc (fun i=>x.contains (i:O)) e;rw[sv,BM,this] at x2; cases x2
 ·exact⟨[],by rw[e0,x2],X,fun _=>x1 (by omega),fun _=>rfl⟩
end
theorem Vd:∀(l:N (N W)),(∀w∈l,w.length=2)→(joinTail [43] l).length=3*l.length
 | [],_=>by simp[joinTail]
 | a::l,H=>by
  have h1:=H a (by simp);have h2:=Vd l fun w hw=>H w (yF _ hw)
  simp only[joinTail,yM,List.flatten_cons,zG,zK,zU] at *
  omega
theorem jl{l:N (N W)}(h0:0<l.length)(H:∀w∈l,w.length=2):(join l [43]).length+1=3*l.length:=by
 cases l with
 | nil=>simp at h0
 | cons a l=>
  have h1:=H a (by simp);have h2:=Vd l fun w hw=>H w (yF _ hw)
  rw[join_cons,zG,zK];omega
theorem NB{l:N (N W)}{sep:N W}(hl:l.length≤140737488355328)(hj:(join l sep).length≤140737488355328):ED l sep=G (join l sep):=by
 unfold ED N5;rw[if_pos ⟨hl,hj⟩]; rfl
theorem nj{h:X3}{cs:N X7}(s:HSmall h)(hh:As h=F)(hc:CallsGood h cs)(hn:∀y∈h.Fleet,y.Name.length=2):∃r,Kf h cs=G r∧r≠ []∧(r= [110,111,110,101]↔C5 h cs=F):=by
 obtain⟨l,e,ha,hs⟩:=nk s hh hc;have hl:=Rk ha;have h6:=hc.six;unfold Kf;rw[DR s hh hc,Y,if_pos rfl,e,Y]
 have key:∀(k i n:V) (v:N (N W)),i+k=l.length→k<n→v.length=i→(∀w∈v,w.length=2)→∃r,GR cs l h n (i:O) v=G r∧(l= []→r= [110,111,110,101])∧(l≠ []→r.length+1=3*l.length):=by
  intro k
  induction k with
  | zero=>
   intro i n v hi hn hv hw;obtain⟨q,rfl⟩:=sn (n:=n) (by omega);rw[GR,if_neg (by simp; omega)];by_cases h0:l= []
   ·subst h0;simp only[zU] at hi
    refine⟨_,by rw[if_pos (by simp; exact List.eq_nil_of_length_eq_zero (by omega))],fun _=>rfl,fun h=>absurd X h⟩
   ·have hpos:=zR.2 h0;have hj:=jl (l:=v) (by omega) hw;rw[if_neg (by simp; intro e; subst e; simp at hv; omega),NB (by omega) (by omega)];exact⟨_,X,fun h=>absurd h h0,fun _=>by omega⟩
  | succ k ih=>
   intro i n v hi hn' hv hw;obtain⟨q,rfl⟩:=sn (n:=n) (by omega);have hlt:i<l.length:=by omega
   obtain⟨g1,g2⟩:=Jw ha _ (Z hlt);obtain⟨c,hcn⟩:∃c:V,l[i]=(c:O):=⟨l[i].toNat,by omega⟩;have hcl:c<cs.length:=by omega
   have hok:=hc.ok _ (Z hcl);simp only[Ca,zA] at hok
   obtain⟨s1,s2⟩:=EW hok.1;rw[GR];simp only[Ag,hlt,decide_true,if_true,Ad hlt,hcn,Ad hcl,s1,Y];rw[if_pos (AO (by omega) (by simp) (by omega)),Am hlt (Ab (by omega))];refine ih (i+1) q _ (by omega) (by omega) (by simp; omega) fun w hw'=> ?_
   rcases zJ.1 hw' with hw' | hw'
   ·exact hw w hw'
   ·simp only[zE] at hw'; subst hw'; exact hn _ s2
 obtain⟨r,r1,r2,r3⟩:=key l.length 0 bigN [] (by omega) (Al (Ab (by omega))) rfl fun w hw=>(by cases hw)
 refine⟨r,r1,fun e0=> ?_,?_⟩
 ·by_cases h0:l= []
  ·rw[r2 h0] at e0; cases e0
  ·have:=r3 h0; rw[e0] at this; simp at this; omega
 ·rw[← hs];constructor
  ·intro e0;by_cases h0:l= []
   ·exact h0
   ·have:=r3 h0; rw[e0] at this; simp at this; omega
  ·exact r2
open Go.Lib
theorem VJ(n:O):i64 (kK .i64 n):=Od .i64 n
theorem Li{α:Type}{l:N α}{i:O}(h0:0≤i)(h1:i<(l.length:O)):∃x∈l,ix l i=G x:=by
 obtain⟨k,rfl⟩:∃k:V,i=(k:O):=⟨i.toNat,by omega⟩;have hk:k<l.length:=by omega
 exact⟨l[k],Z hk,Ad hk⟩
theorem aG{l:N X0}(hl:l.length≤1000):∃r,MG l=G r∧r<(l.length:O)∧(0<l.length→0≤r):=by
 have key:∀(k i n:V) (v:O),i+k=l.length→k<n→(v<(i:O))→(0<i→0≤v)→∃r,Ez l n v (i:O)=G r∧r<(l.length:O)∧(0<l.length→0≤r):=by
  intro k
  induction k with
  | zero=>
   intro i n v hi hn h1 h2;obtain⟨q,rfl⟩:=sn (n:=n) (by omega);exact⟨v,by rw[Ez,if_neg (by simp; omega)],by omega,fun h=>h2 (by omega)⟩
  | succ k ih=>
   intro i n v hi hn h1 h2;obtain⟨q,rfl⟩:=sn (n:=n) (by omega);have hlt:i<l.length:=by omega
   have go:∀b,∃r,If l v (i:O) (Ez l q) b=G r∧r<(l.length:O)∧(0<l.length→0≤r)∨(b=E∧v<0):=by
    intro b;unfold If;rw[Am hlt (Ab (by omega))];cases b with
    | true=>
     obtain⟨r,hr⟩:=ih (i+1) q (i:O) (by omega) (by omega) (by omega) (fun _=>by omega);exact⟨r,Or.inl (by simpa using hr)⟩
    | false=>
     by_cases hv:v<0
     ·exact⟨0,Or.inr ⟨X,hv⟩⟩
     ·obtain⟨r,hr⟩:=ih (i+1) q v (by omega) (by omega) (by omega) (fun _=>by omega);exact⟨r,Or.inl (by simpa using hr)⟩
   rw[Ez];simp only[Ag,hlt,decide_true,if_true,Ad hlt,Y];by_cases hv:v<0
   ·rw[if_pos (by simpa using hv)];obtain⟨r,hr|hr⟩:=go F
    ·exact⟨r,hr⟩
    ·cases hr.1
   ·rw[if_neg (by simpa using hv)];obtain⟨x,_,ex⟩:=Li (l:=l) (i:=v) (by omega) (by omega);rw[ex,Y];obtain⟨r,hr|hr⟩:=go (decide (l[i].Cost<x.Cost))
    ·exact⟨r,hr⟩
    ·omega
 exact key l.length 0 bigN (-1) (by omega) (Al (Ab (by omega))) (by omega) (fun h=>by omega)
section
variable {h : X3} {cs : N X7}
theorem eY(s:HSmall h)(hh:As h=F){a:X7}(ha:Ca h a=F):∃r,JR h a=G r:=by
 obtain⟨l,e1,e2,_⟩:=NT s hh ha;unfold JR;rw[e1,Y];split
 ·exact⟨_,X⟩
 ·rename_i h0
  obtain⟨r,r1,r2,r3⟩:=aG (l:=l) (by omega);obtain⟨x,_,ex⟩:=Li (l:=l) (i:=r) (r3 (by simp at h0; exact zR.2 h0)) r2;rw[r1,Y,ex];exact⟨_,X⟩
theorem mu(s:HSmall h)(hh:As h=F){a b:X7}(ha:Ca h a=F)(hb:Ca h b=F):∃r,K5 h a b=G r:=by
 obtain⟨l,e1,e2,e3⟩:=NT s hh ha;obtain⟨l',f1,f2,f3⟩:=NT s hh hb;unfold K5;rw[e1,Y]
 have outer:∀(k i n:V) (v:O),i+k=l.length→k<n→∃r,EE l h b n v (i:O)=G r:=by
  intro k
  induction k with
  | zero=>
   intro i n v hi hn;obtain⟨q,rfl⟩:=sn (n:=n) (by omega);exact⟨v,by rw[EE,if_neg (by simp; omega)]⟩
  | succ k ih=>
   intro i n v hi hn;obtain⟨q,rfl⟩:=sn (n:=n) (by omega);have hlt:i<l.length:=by omega
   rw[EE];simp only[Ag,hlt,decide_true,if_true,Ad hlt,Y,f1]
   have inner:∀(k j n:V) (v:O),j+k=l'.length→k<n→∃r,DW l (i:O) l' h b l[i] (EE l h b q) n v (j:O)=G r:=by
    intro k
    induction k with
    | zero=>
     intro j n v hj hn;obtain⟨q',rfl⟩:=sn (n:=n) (by omega);rw[DW,if_neg (by simp; omega),Am hlt (Ab (by omega))];exact ih (i+1) q v (by omega) (by omega)
    | succ k ihk=>
     intro j n v hj hn;obtain⟨q',rfl⟩:=sn (n:=n) (by omega);have hjl:j<l'.length:=by omega
     have go:∀(c:O) (t:U),∃r,GK v l (i:O) l' (j:O) h b l[i] (DW l (i:O) l' h b l[i] (EE l h b q) q') c t=G r:=by
      intro c t;unfold GK;rw[Am hjl (Ab (by omega))];cases t<;>exact ihk (j+1) q' _ (by omega) (by omega)
     rw[DW];simp only[Ag,hjl,decide_true,if_true,Ad hjl,Y,RD (e3 _ (Z hlt)).good (f3 _ (Z hjl)).good];split
     ·exact go _ _
     ·split
      ·exact go _ _
      ·exact go _ _
   exact inner l'.length 0 bigN v (by omega) (Al (Ab (by omega)))
 exact outer l.length 0 bigN (-1) (by omega) (Al (Ab (by omega)))
theorem lf{m:N O}(hm:m.length=cs.length)(h6:cs.length≤6):∃b,K0 cs m=G b∧(b=F→∀x∈m,0≤x∧x<(m.length:O)):=by
 unfold K0;rw[if_neg (by simp; omega)]
 have key:∀(k i n:V),i+k=m.length→k<n→∃b,GI m n (i:O)=G b∧(b=F→∀x∈m.drop i,0≤x∧x<(m.length:O)):=by
  intro k
  induction k with
  | zero=>
   intro i n hi hn;obtain⟨q,rfl⟩:=sn (n:=n) (by omega);have:i=m.length:=by omega
   subst this;exact⟨F,by rw[GI,if_neg (by simp)],fun _ x hx=>by simp at hx⟩
  | succ k ih=>
   intro i n hi hn;obtain⟨q,rfl⟩:=sn (n:=n) (by omega);have hlt:i<m.length:=by omega
   rw[GI];simp only[Ag,hlt,decide_true,if_true,Ad hlt,Y,Hm,Am hlt (Ab (by omega))];by_cases hx:(decide (0≤m[i])&&decide (m[i]<(m.length:O)))=F
   ·rw[if_pos hx];simp only[zA,decide_eq_true_eq] at hx
    obtain⟨y,_,ey⟩:=Li (l:=m) hx.1 hx.2;rw[ey,Y];split
    ·exact⟨E,X,fun h=>by cases h⟩
    ·obtain⟨b,b1,b2⟩:=ih (i+1) q (by omega) (by omega);refine⟨b,b1,fun hb x hx'=> ?_⟩;rw[zW hlt] at hx'
     rcases zI.1 hx' with rfl|hx'
     ·exact hx
     ·exact b2 hb x hx'
   ·rw[if_neg hx];exact⟨E,X,fun h=>by cases h⟩
 simpa using key m.length 0 bigN (by omega) (Al (Ab (by omega)))
theorem ZN(s:HSmall h)(hh:As h=F)(hc:CallsGood h cs){m:N O}(hm:m.length=cs.length):∃v b,JM h cs m=G (v,b)∧i64 v:=by
 have h6:=hc.six;have z:i64 0:=⟨by omega,by omega⟩;unfold JM;obtain⟨b,b1,b2⟩:=lf (cs:=cs) hm h6;rw[DR s hh hc,Y,if_pos rfl,b1,Y];unfold JN;cases b with
 | false=>exact⟨0,E,rfl,z⟩
 | true=>
  have b2:=b2 rfl;rw[if_neg (by simp)]
  have key:∀(k i n:V) (v:O),i+k=m.length→k<n→i64 v→∃r b,DT cs m h n v (i:O)=G (r,b)∧i64 r:=by
   intro k
   induction k with
   | zero=>
    intro i n v hi hn hv;obtain⟨q,rfl⟩:=sn (n:=n) (by omega);exact⟨v,F,by rw[DT,if_neg (by simp; omega)],hv⟩
   | succ k ih=>
    intro i n v hi hn hv;obtain⟨q,rfl⟩:=sn (n:=n) (by omega);have hlt:i<m.length:=by omega
    have hc':i<cs.length:=by omega
    obtain⟨x0,x1⟩:=b2 _ (Z hlt)
    have go:∀w,∃r b,Gn cs v m (i:O) h (DT cs m h q) w=G (r,b)∧i64 r:=by
     intro w;unfold Gn;split
     ·exact⟨0,E,X,z⟩
     ·rw[Am hlt (Ab (by omega))];exact ih (i+1) q _ (by omega) (by omega) (VJ _)
    rw[DT];simp only[Ag,hlt,decide_true,if_true,Ad hlt,Ad hc',Y];split
    ·obtain⟨w,ew⟩:=eY s hh (hc.ok _ (Z hc'));rw[ew,Y];exact go w
    ·split
     ·obtain⟨y,hy,ey⟩:=Li (l:=cs) x0 (by omega);obtain⟨w,ew⟩:=mu s hh (hc.ok _ (Z hc')) (hc.ok _ hy);rw[ey,Y,ew,Y];exact go w
     ·exact go 0
  exact key m.length 0 bigN 0 (by omega) (Al (Ab (by omega))) z
def Bl(m:N O):N U:=m.map fun x=>decide (x<0)
theorem NU(m:N O)(i:V)(x:O):Bl (m.set i x)=(Bl m).set i (decide (x<0)):=by simp[Bl,List.map_set]
theorem Hv(m:N O):(Bl m).length=m.length:=by simp[Bl]
theorem aQ:∀{l:N U} {i:V},l[i]?=G F→∀{j:V},((l.set i E).set j E).count F<l.count F:=by
 intro l
 have le:∀(l:N U) (j:V),(l.set j E).count F≤l.count F:=by
  intro l
  induction l with
  | nil=>intro j; simp
  | cons b l ih=>
   intro j;cases j with
   | zero=>simp only[List.set_cons_zero,kC]; cases b<;>simp
   | succ j=>simp only[yT,kC]; have:=ih j; omega
 intro i hi j;refine Nat.lt_of_le_of_lt (le _ j) ?_;revert i
 induction l with
 | nil=>intro i hi; simp at hi
 | cons b l ih=>
  intro i hi;cases i with
  | zero=>simp only[yJ,zD] at hi; subst hi; simp
  | succ i=>simp only[yT,kC]; have:=ih (by simpa using hi); omega
theorem nB{P:N U}{i j:V}(hi:P[i]?=G F)(hj:P[j]?=G F):(((P.set i E).set j E).set i F).set j F=P:=by
 refine List.ext_getElem? fun k=> ?_
 simp only[List.getElem?_set,List.length_set];have hil:i<P.length:=by rcases Nat.lt_or_ge i P.length with h | h; exact h; rw[List.getElem?_eq_none h] at hi; cases hi
 have hjl:j<P.length:=by rcases Nat.lt_or_ge j P.length with h | h; exact h; rw[List.getElem?_eq_none h] at hj; cases hj
 have hi':P[i]=F:=by rw[C hil] at hi; simpa using hi
 have hj':P[j]=F:=by rw[C hjl] at hj; simpa using hj
 by_cases h1:j=k
 ·subst h1; simp[hjl,hj']
 ·by_cases h2:i=k
  ·subst h2; simp[h1,hil,hi']
  ·simp[h1,h2]
theorem lg(s:HSmall h)(hh:As h=F)(hc:CallsGood h cs):∀(u fuel:V) (m:N O) (f:U) (k:O) (b:N O),(Bl m).count F≤u→u<fuel→m.length=cs.length→i64 k→
  ∃m' f' k' b',EK h cs fuel m f k b=G (m',f',k',b')∧Bl m'=Bl m∧i64 k':=by
 have h6:=hc.six;intro u
 induction u with
 | zero=> ?_
 | succ u ihu=> ?_
 all_goals
  intro fuel m f k b hu hf hm hk;obtain⟨q,rfl⟩:=sn (n:=fuel) (by omega)
  have visit:∀(m:N O) (f:U) (k:O) (b:N O),m.length=cs.length→i64 k→∃m' f' k' b',EJ (EK h cs q) h cs m f k b (m.length:O)=G (m',f',k',b')∧Bl m'=Bl m∧i64 k':=by
   intro m f k b hm hk;obtain⟨v,t,e,hv⟩:=ZN s hh hc hm;unfold EJ MS;rw[if_pos (by simp),e,Y,My (show m.length≤1000 by omega)];cases t<;>cases f<;>simp only[Y,if_true,I,if_false]
   ·exact⟨_,_,_,_,X,X,hk⟩
   ·exact⟨_,_,_,_,X,X,hk⟩
   ·exact⟨_,_,_,_,X,X,hv⟩
   ·split
    ·exact⟨_,_,_,_,X,X,hv⟩
    ·exact⟨_,_,_,_,X,X,hk⟩
  have A1:∀(d i n:V),i+d=m.length→d<n→(∀j,i≤j→j<m.length→(Bl m)[j]?=G F→False)∨True→∃m' f' k' b',DY (EK h cs q) h cs m f k b n (i:O)=G (m',f',k',b')∧Bl m'=Bl m∧i64 k':=by
   intro d
   induction d with
   | zero=>
    intro i n hi hn _;obtain⟨q',rfl⟩:=sn (n:=n) (by omega);have:i=m.length:=by omega
    subst this;rw[DY,if_neg (by simp)];exact visit m f k b hm hk
   | succ d ih=>
    intro i n hi hn _;obtain⟨q',rfl⟩:=sn (n:=n) (by omega);have hlt:i<m.length:=by omega
    rw[DY,if_pos (by simpa using hlt),Ad hlt,Y];by_cases h0:0≤m[i]
    ·rw[if_pos (by simpa using h0),Am hlt (Ab (by omega))];exact ih (i+1) q' (by omega) (by omega) (Or.inr trivial)
    ·rw[if_neg (by simpa using h0)];have hpi:(Bl m)[i]?=G F:=by rw[Bl,yL,C hlt]; simp; omega
     unfold EJ;rw[if_neg (by simp; omega)]
     have loop:∀(d v n:V) (m1:N O) (f:U) (k:O) (b:N O),v+d=m.length→d<n→Bl m1=Bl m→i64 k→∃m' f' k' b',DZ (EK h cs q) (i:O) n (v:O) m1 f k b=G (m',f',k',b')∧Bl m'=Bl m∧i64 k':=by
      intro d
      induction d with
      | zero=>
       intro v n m1 f k b hv hn hp hk;obtain⟨q2,rfl⟩:=sn (n:=n) (by omega);have hl1:m1.length=m.length:=by rw[← Hv,hp,Hv]
       exact⟨m1,f,k,b,by rw[DZ,if_neg (by simp; omega)],hp,hk⟩
      | succ d ihd=>
       intro v n m1 f k b hv hn hp hk;obtain⟨q2,rfl⟩:=sn (n:=n) (by omega);have hl1:m1.length=m.length:=by rw[← Hv,hp,Hv]
       have hv1:v<m1.length:=by omega
       have hi1:i<m1.length:=by omega
       rw[DZ,if_pos (by simpa using hv1),Ad hv1,Y,Am hv1 (Ab (by omega))];by_cases hneg:m1[v]<0
       ·rw[if_pos (by simpa using hneg),Ad hi1,Y,Ad (l:=m1.set (Int.toNat (i:O)) (v:O)) (by simpa using hv1),Y];simp only[yB];have hpv:(Bl m)[v]?=G F:=by rw[← hp,Bl,yL,C hv1]; simpa using hneg
        have e1:Bl ((m1.set i (v:O)).set v (i:O))=((Bl m).set i E).set v E:=by
         rw[NU,NU,hp,decide_eq_false (by omega),decide_eq_false (by omega)]
        have hcd:=aQ hpi (j:=v);have hrec:∃m2 f2 k2 b2,EK h cs q ((m1.set i (v:O)).set v (i:O)) f k b=G (m2,f2,k2,b2)∧Bl m2=Bl ((m1.set i (v:O)).set v (i:O))∧i64 k2:=by first | (exfalso; omega) | exact ihu q _ f k b (by rw[e1]; omega) (by omega) (by simp; omega) hk
        obtain⟨m2,f2,k2,b2,r1,r2,r3⟩:=hrec;have hl2:m2.length=m.length:=by rw[← Hv,r2,Hv]; simp; omega
        rw[r1,Y];simp only[];rw[Ad (l:=m2) (show i<m2.length by omega),Y,Ad (l:=m2.set i (-1)) (show v<(m2.set i (-1)).length by simp; omega),Y];exact ihd (v+1) q2 _ f2 k2 b2 (by omega) (by omega) (by rw[NU,NU,r2,e1,decide_eq_true (show(-1:O)<0 by omega)]; exact nB hpi hpv) r3
       ·rw[if_neg (by simpa using hneg)];exact ihd (v+1) q2 m1 f k b (by omega) (by omega) hp hk
     exact loop (m.length - i) i bigN m f k b (by omega) (Al (Ab (by omega))) X hk
  exact A1 m.length 0 bigN (by omega) (Al (Ab (by omega))) (Or.inr trivial)
theorem Zq(s:HSmall h)(hh:As h=F)(hc:CallsGood h cs):∃m k f,JJ h cs=G (m,k,f)∧i64 k:=by
 have h6:=hc.six;unfold JJ;rw[DR s hh hc,Y,if_pos rfl,PJ (by omega) (by omega),Y]
 have key:∀(d i n:V) (m:N O),i+d=cs.length→d<n→m.length=cs.length→∃m' k f,Gm h cs ((zQ cs.length (0:O)).length:O) n (i:O) m=G (m',k,f)∧i64 k:=by
  intro d
  induction d with
  | zero=>
   intro i n m hi hn hm;obtain⟨q,rfl⟩:=sn (n:=n) (by omega);obtain⟨m',f',k',b',e1,e2,e3⟩:=lg s hh hc (Bl m).length bigN m E 0 [] List.count_le_length (by rw[Hv]; exact Al (Ab (by omega))) hm ⟨by omega,by omega⟩;have e1:MR h cs m E 0 []=G (m',f',k',b'):=e1;exact⟨b',k',f',by rw[Gm,if_neg (by simp; omega),e1]; rfl,e3⟩
  | succ d ih=>
   intro i n m hi hn hm;obtain⟨q,rfl⟩:=sn (n:=n) (by omega);have hlt:i<m.length:=by omega
   rw[Gm,if_pos (by simp; omega),Ad hlt,Y,Am hlt (Ab (by omega))];exact ih (i+1) q _ (by omega) (by omega) (by simpa using hm)
 exact key cs.length 0 bigN _ (by omega) (Al (Ab (by omega))) (by simp)
end
theorem L7{n:O}(h:i64 n):EC n=G (itoa n):=by
 simp[EC,N4,h]
def wd(w:Xj):N W:=if w.isS=F then w.s else itoa w.n
theorem sf{ws:N Xj}(hl:ws.length≤100)(h:∀w∈ws,w.isS=F∨i64 w.n)(hj:(join (ws.map wd) [32]).length≤140737488355328):ES ws=G (join (ws.map wd) [32]):=by
 unfold ES;rw[Uj (L:=Ha ws) ws wd (fun v=>(ED v ([32]:N W)).bind fun r7=>G r7) (Ab (by omega)) (fun n i acc hi ha=> ?_) (fun n acc _=>by rw[Ha,if_neg (by simp)]),NB (by simp; omega) hj]
 ·rfl
 ·have hw:KK ws[i]=G (wd ws[i]):=by
   unfold KK wd;rcases h _ (Z hi) with e|e
   ·simp[e]
   ·split
    ·rfl
    ·rw[L7 e]; rfl
  rw[Ha,Ag,if_pos (by simpa using hi),Ad hi,Y,hw,Y,if_pos (AO (by omega) (by simp) (by omega))]
open Go.Lib
theorem Vc{B:V}{c:W}:∀(l:N (N W)),(∀w∈l,w.length≤B)→(joinTail [c] l).length≤(B+1)*l.length
 | [],_=>by simp[joinTail]
 | a::l,H=>by
  have h1:=H a (by simp);have h2:=Vc (c:=c) l fun w hw=>H w (yF _ hw)
  simp only[joinTail,yM,List.flatten_cons,zG,zK,zU,Nat.mul_add,Nat.mul_one] at *
  omega
theorem Pz{B:V}{c:W}{l:N (N W)}(H:∀w∈l,w.length≤B):(join l [c]).length≤(B+1)*l.length:=by
 cases l with
 | nil=>simp[join_nil]
 | cons a l=>
  have h1:=H a (by simp);have h2:=Vc (c:=c) l fun w hw=>H w (yF _ hw)
  rw[join_cons,zG,zK,Nat.mul_add,Nat.mul_one];omega
theorem Oc{x:N W}{rest:N Xj}(hx:x.length≤10000000)(hl:rest.length≤50)(h:∀w∈rest,(w.isS=F∧w.s.length≤10000000)∨(w.isS=E∧i64 w.n)):∃t,ES ((⟨F,x,0⟩:Xj)::rest)=G (x++t):=by
 have hb:∀w∈((⟨F,x,0⟩:Xj)::rest).map wd,w.length≤10000000:=fun w hw=>by
  obtain⟨y,hy,rfl⟩:=List.mem_map.1 hw;unfold wd;rcases zI.1 hy with rfl|hy
  ·simpa using hx
  ·rcases h y hy with ⟨e,e2⟩|⟨e,e2⟩
   ·simpa[e] using e2
   ·simp only[e,I,if_false]; have:=IS e2; omega
 have hj:=Pz (c:=32) hb;simp only[List.length_map,zK] at hj
 rw[sf (by simp; omega) (fun w hw=> ?_) (by omega),yM,join_cons]
 ·exact⟨_,X⟩
 ·rcases zI.1 hw with rfl|hw
  ·exact Or.inl X
  ·rcases h w hw with e|e
   ·exact Or.inl e.1
   ·exact Or.inr e.2
section
variable {h : X3} {cs : N X7}
theorem ZM(s:HSmall h)(hh:As h=F)(hc:CallsGood h cs):∃r,JL h cs=G r∧r≠ []∧(r= [110,111,32,112,108,97,110]↔C5 h cs=E):=by
 obtain⟨os,e1,ho,_⟩:=HW s hh hc;obtain⟨ch,lw,f,e2,hb⟩:=I0 s hh hc e1 ho;have es:C5 h cs=f:=by simp only[C5,e2]
 unfold JL;rw[DR s hh hc,Y,if_pos rfl,e2,Y,es];cases f with
 | false=>exact⟨_,rfl,by simp,by simp⟩
 | true=>
  obtain⟨m,k,g,e3,hk⟩:=Zq s hh hc;obtain⟨pl,c1,c2,c3,c4⟩:=hb.plan rfl;have hs:=V9 (OH ho c1);have h6:=hc.six;have hol:=ho.len;have hlw:lw.i0=Dq pl:=by rw[c4]; rfl
  simp only[if_true,e3,Y]
  obtain⟨t,et⟩:=Oc (x:= [99,111,115,116]) (rest:= [(⟨E,[],lw.i0⟩:Xj),(⟨F,([98,111,117,110,100]:N W),0⟩:Xj),(⟨E,[],k⟩:Xj),(⟨F,([103,97,112]:N W),0⟩:Xj),(⟨E,[],(kK .i64 (lw.i0 - k))⟩:Xj)]) (by simp) (by simp) (fun w hw=>by
   simp only[zI,zN,or_false] at hw
   rcases hw with rfl|rfl|rfl|rfl|rfl
   ·exact Or.inr ⟨X,by simp only[hlw]; unfold i64; omega⟩
   ·exact Or.inl ⟨X,by simp⟩
   ·exact Or.inr ⟨X,hk⟩
   ·exact Or.inl ⟨X,by simp⟩
   ·exact Or.inr ⟨X,VJ _⟩)
  rw[et,Y];exact⟨_,X,by simp,by simp⟩
theorem nL(s:HSmall h)(hh:As h=F)(hc:CallsGood h cs)(h1:1≤cs.length):Fx h cs []=G []:=by
 unfold Fx Ii;rw[DR s hh hc,Y,if_pos rfl,if_pos (by simp; omega)];rfl
theorem nM(s:HSmall h)(hh:As h=F)(hc:CallsGood h cs){os:N (N X0)}(ho:OptsOf h cs os){pl:N X0}{ch:N O}(hch:Chosen os pl ch)(hl:pl.length=os.length)(hf:Fit h pl):∃r,Fx h cs pl=G r∧r.length=cs.length:=by
 have h6:=hc.six;have hol:=ho.len;unfold Fx;rw[jj s hh hc ho hch hl hf,Y,if_pos rfl]
 have key:∀(k i n:V) (v:N (N W)),i+k=pl.length→k<n→v.length=i→∃r,GO cs pl h n (i:O) v=G r∧r.length=cs.length:=by
  intro k
  induction k with
  | zero=>
   intro i n v hi hn hv;obtain⟨q,rfl⟩:=sn (n:=n) (by omega);exact⟨v,by rw[GO,if_neg (by simp; omega)],by omega⟩
  | succ k ih=>
   intro i n v hi hn hv;obtain⟨q,rfl⟩:=sn (n:=n) (by omega);have hlt:i<pl.length:=by omega
   have hlc:i<cs.length:=by omega
   have hok:=hc.ok _ (Z hlc);simp only[Ca,zA] at hok
   obtain⟨s1,s2⟩:=EW hok.1;have hsn:=s.fn _ s2;have hnm:=HC ((FR (by simp only[As,zA] at hh; exact hh.2.2.1)).2 _ s2);have hnl:(Bo h.Fleet cs[i].Ship).Name.length≤8:=(LA (Q7 ((FR (by simp only[As,zA] at hh; exact hh.2.2.1)).2 _ s2)).1).2;obtain⟨_,H⟩:=JA ho hch i hlt;have a1:=H.st64;have a2:=H.cost
   obtain⟨t,et⟩:=Oc (x:=(Bo h.Fleet cs[i].Ship).Name) (rest:= [(⟨F,([115,116,97,114,116]:N W),0⟩:Xj),(⟨E,[],pl[i].Start⟩:Xj),(⟨F,([97,114,114,105,118,101]:N W),0⟩:Xj),(⟨E,[],pl[i].Arrival⟩:Xj),(⟨F,([119,97,105,116]:N W),0⟩:Xj),(⟨E,[],pl[i].Cost⟩:Xj)]) (by omega) (by simp) (fun w hw=>by
    simp only[zI,zN,or_false] at hw
    rcases hw with rfl|rfl|rfl|rfl|rfl|rfl
    ·exact Or.inl ⟨X,by simp⟩
    ·exact Or.inr ⟨X,by simp only; unfold i64; omega⟩
    ·exact Or.inl ⟨X,by simp⟩
    ·exact Or.inr ⟨X,by simp only; unfold i64; omega⟩
    ·exact Or.inl ⟨X,by simp⟩
    ·exact Or.inr ⟨X,by simp only; unfold i64; omega⟩)
   rw[GO];simp only[Ag,hlt,decide_true,if_true,Ad hlt,Ad hlc,s1,Y,et];rw[if_pos (AO (by omega) (by simp) (by omega)),Am hlt (Ab (by omega))];exact ih (i+1) q _ (by omega) (by omega) (by simp; omega)
 exact key pl.length 0 bigN [] (by omega) (Al (Ab (by omega))) X
theorem aH{l:N X2}(hl:l.length≤1000):Kv l=G l:=by
 unfold Kv BT;rw[if_pos ⟨by omega,by omega,by omega,by omega⟩];simp only[Y,kF,yR,zZ];rw[if_pos (by simp only[A7,zU,decide_eq_true_eq]; omega)]
theorem aE{pl:N X0}(hl:pl.length≤100)(ho:Dd h pl):JP pl=G (pl.map X0.Passages):=by
 unfold JP
 exact Uj (L:=Gq pl) pl X0.Passages G (Ab (by omega)) (fun n i acc hi ha=>by
  obtain⟨a,H⟩:=ho _ (Z hi);have:=H.len;rw[Gq];simp only[Ag,hi,decide_true,if_true,Ad hi,Y,aH (show pl[i].Passages.length≤1000 by omega)];rw[if_pos (AO (by omega) (by simp) (by omega))]) fun n acc _=>by rw[Gq,if_neg (by simp)]
theorem aD{c:X5}{fl:N X9}(hc:AH c=F){l:N X2}(hl:l.length≤100)(hp:∀p∈l,CP c fl p=F):∃b,JU c l=G b:=by
 unfold JU;rw[D4 (Cb hc).2.2.1,hc,Y,if_pos rfl]
 have key:∀(k i n:V),i+k=l.length→k<n→∃b,Ft l c n (i:O)=G b:=by
  intro k
  induction k with
  | zero=>
   intro i n hi hn;obtain⟨q,rfl⟩:=sn (n:=n) (by omega);exact⟨F,by rw[Ft,if_neg (by simp; omega)]⟩
  | succ k ih=>
   intro i n hi hn;obtain⟨q,rfl⟩:=sn (n:=n) (by omega);have hlt:i<l.length:=by omega
   have hs:=(CQ hc (hp _ (Z hlt))).2.1;have e0:ix l 0=G l[0]:=Ad (show 0<l.length by omega);obtain⟨b,eb⟩:=ih (i+1) q (by omega) (by omega);rw[Ft];simp only[Ag,hlt,decide_true,if_true,Ad hlt,e0,Y,CN,hs,Am hlt (Ab (by omega))];split
   ·exact⟨_,X⟩
   ·split
    ·exact⟨b,eb⟩
    ·rename_i hz
     have hi0:0<i:=by rcases Nat.eq_zero_or_pos i with h0 | h0; subst h0; simp at hz; exact h0
     have ep:kK .i64 ((i:O) - 1)=((i - 1:V):O):=by rw[A8 (by omega) (by omega)]; omega
     have hlp:i - 1<l.length:=by omega
     have hsp:=(CQ hc (hp _ (Z hlp))).2.1;rw[ep,Ad hlp,Y,Lg hsp,Y,Lg hs,Y];split
     ·exact⟨_,X⟩
     ·split
      ·exact⟨_,X⟩
      ·exact⟨b,eb⟩
 exact key l.length 0 bigN (by omega) (Al (Ab (by omega)))
theorem nJ(s:HSmall h)(hh:As h=F){o:X0}(ho:∃a,OptOk h a o):∃d b,K9 h.Chart h.Fleet o.Passages=G (d,b)∧(b=F→Bw d=F):=by
 have hh':=hh;simp only[As,zA] at hh'
 obtain⟨hf,hc,hfl,hreg,hcrew⟩:=hh';have hd:=Ud hc ho;obtain⟨a,H⟩:=ho;have hz:=H.pos;have hlen:=H.len;obtain⟨b,eb⟩:=aD hc (fl:=h.Fleet) H.len H.good.2;unfold K9;rw[if_neg (by simp; intro e; simp[e] at hz),eb,Y];unfold Ka;cases b with
 | false=>exact⟨_,E,rfl,fun h=>by cases h⟩
 | true=>
  rw[if_neg (by simp)]
  have key:∀(k i n:V),i+k=o.Passages.length→k<n→GN h.Fleet o.Passages h.Chart n (i:O)=G (G2 h.Chart o,F):=by
   intro k
   induction k with
   | zero=>
    intro i n hi hn;obtain⟨q,rfl⟩:=sn (n:=n) (by omega);have ep:kK .i64 ((o.Passages.length:O) - 1)=((o.Passages.length - 1:V):O):=by rw[A8 (by omega) (by omega)]; omega
    have hz9:o.Passages.length - 1<o.Passages.length:=by omega
    have e0:ix o.Passages 0=G o.Passages[0]:=Ad hz;have e9:ix o.Passages ((o.Passages.length - 1:V):O)=G o.Passages[o.Passages.length - 1]:=Ad hz9;have s1:=(CQ hc (H.good.2 _ (Z hz))).2.1;have s2:=(CQ hc (H.good.2 _ (Z hz9))).2.1
    have hd:G2 h.Chart o=CW h.Chart o.Passages[0] o.Passages[o.Passages.length - 1]:=by
     rw[G2,C hz,C hz9]; rfl
    rw[GN,if_neg (by simp; omega),e0,Y,ep,e9,Y,Nt s1 s2,Y,hd]
   | succ k ih=>
    intro i n hi hn;obtain⟨q,rfl⟩:=sn (n:=n) (by omega);have hlt:i<o.Passages.length:=by omega
    rw[GN];simp only[Ag,hlt,decide_true,if_true,Ad hlt,Y,Ns s.pn s.fn hc hfl,H.good.2 _ (Z hlt),Am hlt (Ab (by omega))];exact ih (i+1) q (by omega) (by omega)
  exact⟨_,F,key o.Passages.length 0 bigN (by omega) (Al (Ab (by omega))),fun _=>hd⟩
theorem TG{p:O}{m:N O}{l:N Xb}{n:V}(hN:l.length≤12)(H:Dt (Cq p m l) (2 ^ l.length - 1) n):i64 (n:O):=by
 have:=H.2 l.length (MB (by have:=Nat.two_pow_pos l.length; omega));exact⟨by omega,by omega⟩
theorem qM(s:HSmall h)(hh:As h=F){pl:N X0}(hl:pl.length≤100)(ho:Dd h pl)(hk:CG h pl=F):∃n,Ks h.Crew h.Chart h.Fleet (pl.flatMap X0.Passages)=G n∧i64 n:=by
 have hh':=hh;simp only[As,zA] at hh'
 obtain⟨hf,hc,hfl,hreg,hcrew⟩:=hh';obtain⟨m1,m2⟩:=OR hcrew;simp only[CG,zA,decide_eq_true_eq] at hk
 have hlen:(pl.flatMap X0.Passages).length≤100*pl.length:=by
  have:∀(l:N X0),Dd h l→(l.flatMap X0.Passages).length≤100*l.length:=fun l=>by
   induction l with
   | nil=>intro _; simp
   | cons x l ih=>
    intro hg;obtain⟨a,H⟩:=hg x (by simp);have:=ih fun o hm=>hg o (by simp[hm])
    have:=H.len;rw[yC,zG,zK];omega
  exact this pl ho
 have e:=Vq s.pn s.fn hc hfl (all:=pl.flatMap X0.Passages) (Ab (by omega)) fun p hp=>by
  obtain⟨o,h1,h2⟩:=yN.1 hp;obtain⟨a,H⟩:=ho o h1;exact H.good.2 p h2
 have e:FM h.Chart h.Fleet (pl.flatMap X0.Passages)=if(DK h pl).length≤12 then G (DK h pl,F) else G ([],E):=e;obtain⟨n,w,n1,n2⟩:=OQ (p:=0) s.mv hk.1 (Vr hc ho) (by simp only[CC,m2,yW]; decide);unfold Ks;rw[e,if_pos hk.1,Y,if_pos rfl,Pu s.mv,hcrew,Y,if_pos rfl,n2];exact⟨_,X,TG hk.1 n1⟩
theorem nK(s:HSmall h)(hh:As h=F){pl:N X0}(hl:pl.length≤12)(ho:Dd h pl):∃n,Kb h.Crew h.Chart h.Fleet (pl.map X0.Passages)=G n∧i64 n:=by
 have hh':=hh;simp only[As,zA] at hh'
 obtain⟨hf,hc,hfl,hreg,hcrew⟩:=hh';obtain⟨m1,m2⟩:=OR hcrew;unfold Kb
 have key:∀(k i n:V) (v:N Xb),i+k=pl.length→k<n→v.length≤i→(∀d∈v,Bw d=F)→∃r,Fw h.Fleet (pl.map X0.Passages) h.Crew h.Chart n (i:O) v=G r∧i64 r:=by
  intro k
  induction k with
  | zero=>
   intro i n v hi hn hv hd;obtain⟨q,rfl⟩:=sn (n:=n) (by omega);obtain⟨n,w,n1,n2⟩:=OQ (p:=h.Crew.Rest) s.mv (show v.length≤12 by omega) hd (by simp only[CC,m1,m2,yW]);rw[Fw,if_neg (by simp; omega),Pu s.mv,hcrew,Y,if_pos rfl,if_neg (by simp; omega),n2];exact⟨_,X,TG (by omega) n1⟩
  | succ k ih=>
   intro i n v hi hn hv hd;obtain⟨q,rfl⟩:=sn (n:=n) (by omega);have hlt:i<pl.length:=by omega
   have hlm:i<(pl.map X0.Passages).length:=by simpa using hlt
   have hg:=ho _ (Z hlt);obtain⟨d,b,e,hdb⟩:=nJ s hh hg;obtain⟨a,H⟩:=hg;have hz:=H.pos;rw[Fw];simp only[Ag,hlm,decide_true,if_true,Ad hlm,List.getElem_map,Y,e,Am hlm (Ab (by simp; omega))];rw[if_neg (by simp; intro e; simp[e] at hz)];cases b with
   | false=>exact⟨_,rfl,by unfold i64; omega⟩
   | true=>
    rw[if_pos rfl,if_pos (AO (by omega) (by simp) (by omega))];refine ih (i+1) q _ (by omega) (by omega) (by simp; omega) fun x hx=> ?_
    rcases zJ.1 hx with hx|hx
    ·exact hd x hx
    ·simp only[zE] at hx; subst hx; exact hdb rfl
 exact key pl.length 0 bigN [] (by omega) (Al (Ab (by omega))) (by simp) fun d hd=>by cases hd
theorem aj(s:HSmall h)(hh:As h=F){pl:N X0}(hl:pl.length≤12)(ho:Dd h pl)(hk:CG h pl=F):∃r,JQ h pl=G r∧r≠ []:=by
 obtain⟨n1,t1,t2⟩:=qM s hh (by omega) ho hk;obtain⟨n2,p1,p2⟩:=nK s hh hl ho
 obtain⟨t,et⟩:=Oc (x:= [116,117,103,115]) (rest:= [(⟨E,[],n1⟩:Xj),(⟨F,([112,105,108,111,116,115]:N W),0⟩:Xj),(⟨E,[],n2⟩:Xj)]) (by simp) (by simp) (fun w hw=>by
  simp only[zI,zN,or_false] at hw
  rcases hw with rfl|rfl|rfl
  ·exact Or.inr ⟨X,t2⟩
  ·exact Or.inl ⟨X,by simp⟩
  ·exact Or.inr ⟨X,p2⟩)
 unfold JQ;rw[Pv s,hh,Y,if_pos rfl,aE (by omega) ho,Y]
 have key:∀(k i n:V),i+k=pl.length→k<n→((pl.take i).flatMap X0.Passages).length≤100*i→Gx (pl.map X0.Passages) h n (i:O) ((pl.take i).flatMap X0.Passages)=G ([116,117,103,115]++t):=by
  intro k
  induction k with
  | zero=>
   intro i n hi hn ha;obtain⟨q,rfl⟩:=sn (n:=n) (by omega);have:i=pl.length:=by omega
   subst this;rw[zL,Gx,if_neg (by simp),t1,Y,p1,Y,et];rfl
  | succ k ih=>
   intro i n hi hn ha;obtain⟨q,rfl⟩:=sn (n:=n) (by omega);have hlt:i<pl.length:=by omega
   have hlm:i<(pl.map X0.Passages).length:=by simpa using hlt
   obtain⟨a,H⟩:=ho _ (Z hlt);have hlen:=H.len;have e:=ih (i+1) q (by omega) (by omega) (by rw[zB hlt,yH,zG,yA]; omega);rw[zB hlt,yH,yA] at e
   rw[Gx];simp only[Ag,hlm,decide_true,if_true,Ad hlm,List.getElem_map,Y,Am hlm (Ab (by simp; omega))];rw[if_pos (AO (by omega) (by omega) (by omega))];exact e
 exact⟨_,key pl.length 0 bigN (by omega) (Al (Ab (by omega))) (by simp),by simp⟩
end
theorem ed{l:N X8}(hl:l.length≤3000)(hb:∀w∈l,0≤w.From∧w.From≤w.To∧w.To≤2880):∃r,JT l=G r∧r.length≤10000000:=by
 obtain⟨b,eb⟩:=Qq l (by omega) fun w hw=>⟨(hb w hw).1,(hb w hw).2.2⟩
 unfold JT;rw[eb,Y];cases b with
 | false=>exact⟨_,rfl,by simp⟩
 | true=>
  rw[if_pos rfl];split
  ·exact⟨_,X,by simp⟩
  ·have key:∀(k i n:V) (v:N (N W)),i+k=l.length→k<n→v.length=i→(∀w∈v,w.length≤43)→∃r,GC l n (i:O) v=G r∧r.length≤10000000:=by
    intro k
    induction k with
    | zero=>
     intro i n v hi hn hv hw;obtain⟨q,rfl⟩:=sn (n:=n) (by omega);have hj:=Pz (c:=32) hw;rw[GC,if_neg (by simp; omega),NB (by omega) (by omega)];exact⟨_,X,by omega⟩
    | succ k ih=>
     intro i n v hi hn hv hw;obtain⟨q,rfl⟩:=sn (n:=n) (by omega);have hlt:i<l.length:=by omega
     have hbi:=hb _ (Z hlt);have i1:i64 l[i].From:=⟨by omega,by omega⟩;have i2:i64 l[i].To:=⟨by omega,by omega⟩;have l1:=IS i1;have l2:=IS i2;have c1:Bm (itoa l[i].From).length ([45]:N W).length=F:=by unfold Bm; rw[decide_eq_true_eq]; simp; omega
     have c2:Bm (itoa l[i].From++ [45]).length (itoa l[i].To).length=F:=by unfold Bm; rw[decide_eq_true_eq]; simp; omega
     rw[GC];simp only[Ag,hlt,decide_true,if_true,Ad hlt,Y,L7 i1,L7 i2,c1,c2,Am hlt (Ab (by omega))];rw[if_pos (AO (by omega) (by simp) (by omega))];refine ih (i+1) q _ (by omega) (by omega) (by simp; omega) fun w hw'=> ?_
     rcases zJ.1 hw' with hw' | hw'
     ·exact hw w hw'
     ·simp only[zE] at hw'; subst hw'; simp; omega
   exact key l.length 0 bigN [] (by omega) (Al (Ab (by omega))) X fun w hw=>by cases hw
theorem NX{c:X5}(hc:AH c=F){x:Xa}(hx:x∈c.Points):x.Name.length≤8:=by
 simp only[AH,zA,decide_eq_true_eq,zH,zY] at hc
 obtain⟨i,hi,rfl⟩:=zF hx;have:=hc.2.2.1 i hi;simp only[Ja,C hi,zA] at this
 exact(LA this.1).2
theorem Nz{c:X5}{i:O}(h:idx i c.Points.length=F):∃x∈c.Points,ix c.Points i=G x:=by
 obtain⟨h1,h2⟩:=DD.1 h;exact Li h1 h2
theorem pm{f:Xd}{c:X5}{s:X9}(hf:CK f=F)(hc:AH c=F)(hs:BO s=F):∃r,Ko f c s=G r∧r.length=c.Segments.length:=by
 have hcf:=Cb hc;unfold Ko;rw[Nr,hf,Y,if_pos rfl,D4 hcf.2.2.1,hc,Y,if_pos rfl,Hj (HC hs),hs,Y,if_pos rfl]
 have key:∀(k i n:V) (v:N (N W)),i+k=c.Segments.length→k<n→v.length=i→∃r,GV c f s n (i:O) v=G r∧r.length=c.Segments.length:=by
  intro k
  induction k with
  | zero=>
   intro i n v hi hn hv;obtain⟨q,rfl⟩:=sn (n:=n) (by omega);exact⟨v,by rw[GV,if_neg (by simp; omega)],by omega⟩
  | succ k ih=>
   intro i n v hi hn hv;obtain⟨q,rfl⟩:=sn (n:=n) (by omega);have hlt:i<c.Segments.length:=by omega
   obtain⟨j1,j2⟩:=hcf.2.2.2 _ (Z hlt);obtain⟨x1,y1,z1⟩:=Nz j1;obtain⟨x2,y2,z2⟩:=Nz j2;have n1:=NX hc y1;have n2:=NX hc y2;obtain⟨ws,w1,w2,w3⟩:=Vb hf hc hs (i:=(i:O)) (DD.2 ⟨by omega,by omega⟩);obtain⟨r,r1,r2⟩:=ed (l:=ws) w3 fun w hw=>⟨(w2 w hw).1,(w2 w hw).2.1,(w2 w hw).2.2.1⟩
   have c1:Bm x1.Name.length ([45]:N W).length=F:=by unfold Bm; rw[decide_eq_true_eq]; simp; omega
   have c2:Bm (x1.Name++ [45]).length x2.Name.length=F:=by unfold Bm; rw[decide_eq_true_eq]; simp; omega
   obtain⟨t,et⟩:=Oc (x:=(x1.Name++ [45])++x2.Name) (rest:= [(⟨F,r,0⟩:Xj)]) (by simp; omega) (by simp) (fun w hw=>by
    simp only[zI,zN,or_false] at hw
    subst hw;exact Or.inl ⟨X,r2⟩)
   rw[GV];simp only[Ag,hlt,decide_true,if_true,Ad hlt,z1,z2,c1,c2,Y,w1,r1,et,Am hlt (Ab (by omega))];rw[if_pos (AO (by omega) (by simp) (by omega))];exact ih (i+1) q _ (by omega) (by omega) (by simp; omega)
 exact key c.Segments.length 0 bigN [] (by omega) (Al (Ab (by omega))) X
theorem eZ{h:X3}(s:HSmall h)(hh:As h=F){p:X2}(hp:CP h.Chart h.Fleet p=F):∃r,JS h.Chart h.Fleet p=G r∧r≠ []:=by
 have hh':=hh;simp only[As,zA] at hh'
 obtain⟨hf,hc,hfl,hreg,hcrew⟩:=hh';obtain⟨g1,g2,g3,g4,g5⟩:=CQ hc hp;obtain⟨s1,s2⟩:=EW g1;have hnl:(Bo h.Fleet p.Ship).Name.length≤8:=(LA (Q7 ((FR hfl).2 _ s2)).1).2;obtain⟨j1,j2⟩:=(Cb hc).2.2.2 _ (BS g2).2
 have j3:idx (Dh h.Chart p).1 h.Chart.Points.length=F∧idx (Dh h.Chart p).2 h.Chart.Points.length=F:=by
  unfold Dh;split
  ·exact⟨j1,j2⟩
  ·exact⟨j2,j1⟩
 obtain⟨x1,y1,z1⟩:=Nz j3.1;obtain⟨x2,y2,z2⟩:=Nz j3.2;have n1:=NX hc y1;have n2:=NX hc y2;have i1:i64 p.Start:=⟨by omega,by omega⟩;have i2:i64 p.End:=⟨by omega,by omega⟩;have l1:=IS i1;have l2:=IS i2;have c1:Bm x1.Name.length ([62]:N W).length=F:=by unfold Bm; rw[decide_eq_true_eq]; simp; omega
 have c2:Bm (x1.Name++ [62]).length x2.Name.length=F:=by unfold Bm; rw[decide_eq_true_eq]; simp; omega
 have hb:∀w∈ [(Bo h.Fleet p.Ship).Name,((x1.Name++ [62])++x2.Name),itoa p.Start,itoa p.End],w.length≤30:=fun w hw=>by
  simp only[zI,zN,or_false] at hw
  rcases hw with rfl|rfl|rfl|rfl
  ·omega
  ·simp; omega
  ·omega
  ·omega
 have hj:=Pz (c:=32) hb;simp only[zK,zU] at hj
 unfold JS;simp only[Ns s.pn s.fn hc hfl,hp,Y,if_true,Lg g2,s1,z1,z2,c1,c2,L7 i1,L7 i2];rw[NB (by simp) (by omega)];refine⟨_,X,fun e=> ?_⟩;rw[join_cons] at e
 simp[joinTail] at e
theorem law_FnReports(a0:N O)(ok:DsOk [.sc (.sl (List.map r8 a0))]):MZ a0=G F:=by
 unfold MZ;by_cases hl:(1048576:O)<(a0.length:O)
 ·rw[if_pos (by simpa using hl)]
 ·rw[if_neg (by simpa using hl)];obtain⟨h,cs,e,s,hh,hc,k1,k2,k3⟩:=lZ (b:=a0) (by rw[Bj]; omega);obtain⟨os,e1,ho,he⟩:=HW s hh hc;obtain⟨ch,lw,f,e2,hb⟩:=I0 s hh hc e1 ho;have es:C5 h cs=f:=by simp only[C5,e2]
  obtain⟨r4,b1,b2,b3⟩:=ZM s hh hc;obtain⟨r5,c1,c2,c3⟩:=nj s hh hc k3;rw[es] at b3 c3
  have q4:(r4==([]:N W))=E:=by simpa using b2
  have q5:(r5==([]:N W))=E:=by simpa using c2
  have q6:(r5==([110,111,110,101]:N W))=f:=by rw[Bool.eq_iff_iff,beq_iff_eq]; exact c3
  have q7:(r4==([110,111,32,112,108,97,110]:N W))= !f:=by rw[Bool.eq_iff_iff,beq_iff_eq,b3]; simp
  simp only[e,e2,b1,c1,Y,q4,q5,q6,q7,I,if_false,beq_self_eq_true,if_true];cases f with
  | false=>
   simp only[nL s hh hc k1,Y,kG,I,if_false];rfl
  | true=>
   obtain⟨pl,p1,p2,p3,p4⟩:=hb.plan rfl;have hol:=ho.len;have h6:=hc.six
   have hg:Dd h pl:=fun o hm=>by
    obtain⟨i,hi,rfl⟩:=zF hm;obtain⟨_,g⟩:=JA ho p1 i hi;exact⟨_,g⟩
   have hk:CG h pl=F:=((P6 s hh (by omega) hg).1 p3).2 fun e0=>(by subst e0; simp at p2; omega)
   obtain⟨r13,l1,l2⟩:=nM s hh hc ho p1 p2 p3;have h0:0<pl.length:=by omega
   obtain⟨a,H⟩:=hg _ (Z h0);have hz:=H.pos;obtain⟨r18,w1,w2⟩:=aj s hh (by omega) hg hk;have hf0:0<h.Fleet.length:=by omega
   have hh':=hh;simp only[As,zA] at hh'
   obtain⟨r21,u1,u2⟩:=pm hh'.1 hh'.2.1 ((FR hh'.2.2.1).2 _ (Z hf0));obtain⟨r24,v1,v2⟩:=eZ s hh (H.good.2 _ (Z hz));have i0:ix pl 0=G pl[0]:=Ad h0;have i1:ix h.Fleet 0=G h.Fleet[0]:=Ad hf0;have i2:ix pl[0].Passages 0=G pl[0].Passages[0]:=Ad hz;have g1:((pl.length:O) !=(cs.length:O))=E:=by simp; omega
   have g2:((pl[0].Passages.length:O)==(0:O))=E:=by simp; intro e0; simp[e0] at hz
   have g3:((r13.length:O)==(cs.length:O))=F:=by simp[l2]
   have g4:(r18==([]:N W))=E:=by simpa using w2
   have g5:((r21.length:O)==(h.Chart.Segments.length:O))=F:=by simp[u2]
   have g6:(r24==([]:N W))=E:=by simpa using v2
   simp only[kI,I,if_false,if_true,nN s hh hc ho he p1 p2,l1,i0,i1,i2,g1,g2,g3,g4,g5,g6,w1,u1,v1,Y,kG];rfl
end Go.Vi
