/-
Plain laws. No condition.
-/
import Derived.Test.YtmgfndipofbbaaaGreatKVa8
import Derived.KernelRfl
namespace Go.Vi
set_option linter.all false
open Option renaming bind_some → Q, bind_eq_some_iff → zH, some → E
open Bool renaming false_eq_true → U, and_eq_true → V, true → T, false → F
open List renaming getElem?_eq_getElem → W, getElem_mem → X, mem_singleton → Y, getElem_append_left → Z, take_succ_eq_append_getElem → I, mem_append → zA, getElem_cons_zero → zB, all_eq_true → zC, not_mem_nil → zD, getElem_of_mem → zE, getElem?_append_left → zF, getElem_append_right → zG, range' → zI, mem_cons → zJ, length_singleton → zK, nil_append → zL, length_pos_iff → zM, replicate → zN, cons_append → zQ, mem_range → zR, sum_cons → zT
open Option.some renaming injEq → C
open Int renaming tdiv_eq_ediv_of_nonneg → zO, toNat_natCast → zP, tdiv → zS
open IntKind renaming wrap → zU
open _root_ renaming List → G, Int → L, Bool → N, Nat → O, rfl → P
theorem D4h{t:Xn}{m:L}(ht:A9v t=T)(h0:0≤m)(h1:m≤2880):∃r,A5f t m=E r∧ -1000000000000≤r∧r≤1000000000000:=by
 have ht':=ht
 simp only[A9v,V,decide_eq_true_eq,zC] at ht
 obtain⟨hmean,hl,hp⟩:=ht
 have hlm:t.Parts.length≤maxLen:=by rw[F4]; omega
 have key:∀(k i n:O) (v:L),i+k=t.Parts.length→k<n→ -(1000+20000000000*(i:L))≤v→v≤1000+20000000000*(i:L)→∃r,S5 m t n v (i:L)=E r∧ -(1000+20000000000*(t.Parts.length:L))≤r∧r≤1000+20000000000*(t.Parts.length:L):=by
  intro k
  induction k with
  | zero=>
   intro i n v hi hn v1 v2
   obtain⟨q,rfl⟩:=sn (n:=n) (by omega)
   have:i=t.Parts.length:=by omega
   subst this
   exact⟨v,by simp[S5],v1,v2⟩
  | succ k ih=>
   intro i n v hi hn v1 v2
   obtain⟨q,rfl⟩:=sn (n:=n) (by omega)
   have hlt:i<t.Parts.length:=by omega
   have hx:=hp _ (X hlt)
   simp only[A7w,V,decide_eq_true_eq] at hx
   obtain⟨⟨am1,am2⟩,hx1,hx2,hx3⟩:=hx
   obtain⟨p1,p2,_⟩:=C3m hx1
   rw[A9 (by omega) (by omega)] at hx3
   have hw:=A9 (n:=m+t.Parts[i].Phase) (by omega) (by omega)
   have hnn:0≤m+t.Parts[i].Phase:=by omega
   have hmm:Int.tmod (m+t.Parts[i].Phase) t.Parts[i].Period=(m+t.Parts[i].Phase) % t.Parts[i].Period:=Int.tmod_eq_emod_of_nonneg hnn
   have w:=D1t (x:=(m+t.Parts[i].Phase) % t.Parts[i].Period) (p:=t.Parts[i].Period) (Int.emod_nonneg _ (by omega)) (Int.emod_lt_of_pos _ (by omega)) p1 p2
   rw[← hmm] at w
   generalize hwv:B7v (Int.tmod (m+t.Parts[i].Phase) t.Parts[i].Period) t.Parts[i].Period=wv at w
   have mm:=B2n (a:=t.Parts[i].Amp) (b:=wv) (A:=1000) (B:=200000000000) (by omega) (by omega) (by omega) (by omega)
   have hd: -20000000000≤zS (t.Parts[i].Amp*wv) 10000∧zS (t.Parts[i].Amp*wv) 10000≤20000000000:=by
    generalize t.Parts[i].Amp*wv=z at mm
    by_cases ha:0≤z
    ·rw[zO ha]; omega
    ·obtain⟨c,rfl⟩:∃c,z= -c:=⟨-z,by omega⟩
     rw[Int.neg_tdiv,zO (by omega)]; omega
   obtain⟨r,e1,e2,e3⟩:=ih (i+1) q (zU .i64 (v+zU .i64 (zS (zU .i64 (t.Parts[i].Amp*wv)) 10000))) (by omega) (by omega)
    (by rw[A9 (n:=t.Parts[i].Amp*wv) (by omega) (by omega),A9 (n:=zS _ _) (by omega) (by omega),A9 (by omega) (by omega)]; omega)
    (by rw[A9 (n:=t.Parts[i].Amp*wv) (by omega) (by omega),A9 (n:=zS _ _) (by omega) (by omega),A9 (by omega) (by omega)]; omega)
   rw[← E9 hlt hlm] at e1
   refine⟨r,?_,e2,e3⟩
   simp only[S5,A0q,W hlt,Q,C6,hlt,decide_true,if_true,hw,C7w hx1 (show 0≤m+t.Parts[i].Phase by omega) (by omega),hwv]
   exact e1
 obtain⟨r,e1,e2,e3⟩:=key t.Parts.length 0 bigN t.Mean (by omega) (D4 hlm) (by omega) (by omega)
 exact⟨r,e1,by omega,by omega⟩
theorem D5c{f:Xf}{m:L}(h0:0<f.Surges.length)(h6:f.Surges.length≤6):∃(a:O) (ha:a<f.Surges.length),A2s f m=E (a:L):=by
 have hl:f.Surges.length≤maxLen:=by rw[F4]; omega
 have key:∀(k i n a:O) (ha:a<f.Surges.length),i+k=f.Surges.length→k<n→∃(a':O) (ha':a'<f.Surges.length),I5 m f n (a:L) (i:L)=E (a':L):=by
  intro k
  induction k with
  | zero=>
   intro i n a ha hi hn
   obtain⟨q,rfl⟩:=sn (n:=n) (by omega)
   have:i=f.Surges.length:=by omega
   subst this
   exact⟨a,ha,by simp[I5]⟩
  | succ k ih=>
   intro i n a ha hi hn
   obtain⟨q,rfl⟩:=sn (n:=n) (by omega)
   have hlt:i<f.Surges.length:=by omega
   by_cases hm:f.Surges[i].From≤m
   ·obtain⟨a',ha',e1⟩:=ih (i+1) q i hlt (by omega) (by omega)
    rw[← E9 hlt hl] at e1
    refine⟨a',ha',?_⟩
    simp only[I5,A0q,W hlt,Q,C6,hlt,decide_true,if_true,hm]
    exact e1
   ·obtain⟨a',ha',e1⟩:=ih (i+1) q a ha (by omega) (by omega)
    rw[← E9 hlt hl] at e1
    refine⟨a',ha',?_⟩
    simp only[I5,A0q,W hlt,Q,C6,hlt,decide_true,if_true,hm,decide_false,U,if_false]
    exact e1
 obtain⟨a,ha,e1⟩:=key f.Surges.length 0 bigN 0 h0 (by omega) (D4 hl)
 exact⟨a,ha,e1⟩
theorem F0p{f:Xf}{m:L}(hf:A9d f=T)(h0:0≤m)(h1:m≤2880):∃r,O0 f m=E r∧ -2000000000000≤r∧r≤2000000000000:=by
 obtain⟨ht,s0,s6⟩:=D8k hf
 obtain⟨t,e1,b1,b2⟩:=D4h ht h0 h1
 obtain⟨a,ha,e2⟩:=D5c (m:=m) s0 s6
 have hs:=C95 hf a ha
 have w:=A9 (n:=t+f.Surges[a].Low) (by omega) (by omega)
 have e3:O0 f m=E (t+f.Surges[a].Low):=by
  unfold O0
  rw[e1,Q,e2,Q,D9 ha,Q,w]
 exact⟨t+f.Surges[a].Low,e3,by omega,by omega⟩
def C2i(f:Xf)(m:L):L:=(O0 f m).getD 0
theorem E3q{f:Xf}{m:L}(hf:A9d f=T)(h0:0≤m)(h1:m≤2880):O0 f m=E (C2i f m)∧ -2000000000000≤C2i f m∧C2i f m≤2000000000000:=by
 obtain⟨r,e1,b1,b2⟩:=F0p hf h0 h1
 have:C2i f m=r:=by simp[C2i,e1]
 rw[this]
 exact⟨e1,b1,b2⟩
theorem apk{n k b:O}(h:n≤100000000)(hk:k≤1000)(hb:b≤1000):D1 n k b=T:=by
 have:(n+k)*b≤100001000*1000:=Nat.mul_le_mul (by omega) hb
 simp only[D1,decide_eq_true_eq]
 omega
def WinIn(p:L→N)(m:L)(l:G X9):Prop:=∀w∈l,0≤w.From∧w.From≤w.To∧w.To<m∧∀k,w.From≤k→k≤w.To→p k=T
theorem WinIn.more{p:L→N}{m:L}{l:G X9}(h:WinIn p m l):WinIn p (m+1) l:=fun w hw=>by
 obtain⟨a,b,c,d⟩:=h w hw
 exact⟨a,b,by omega,d⟩
theorem WinIn.app{p:L→N}{m:L}{l:G X9}{x:X9}(h:WinIn p m l)(hx:WinIn p m [x]):WinIn p m (l++ [x]):=fun w hw=>by
 rcases zA.1 hw with hw|hw
 ·exact h w hw
 ·exact hx w hw
theorem C8w{α:Type}(l:G α)(x y:α):(l++ [x]).set l.length y=l++ [y]:=by simp
theorem D4t{f:L→Option N}{p:L→N}(hf:∀m,0≤m→m≤2880→f m=E (p m)):∃l,A53 f=E l∧WinIn p 2881 l∧l.length≤2881:=by
 have key:∀(k n:O) (b:N) (m:L) (l:G X9),m+(k:L)=2881→k<n→0≤m→(l.length:L)≤m→(b=F→WinIn p m l)→
   (b=T→∃l0 x,l=l0++ [x]∧WinIn p m l0∧0≤x.From∧x.From<m∧x.To=m - 1∧∀k,x.From≤k→k<m→p k=T)→∃r,H8 f n b m l=E r∧WinIn p 2881 r∧r.length≤2881:=by
  intro k
  induction k with
  | zero=>
   intro n b m l hk hn hm hl hF hT
   obtain⟨q,rfl⟩:=sn (n:=n) (by omega)
   have:¬m≤2880:=by omega
   refine⟨l,by rw[H8]; simp only[this,decide_false,U,if_false],?_,by omega⟩
   have hm':m=2881:=by omega
   subst hm'
   cases b with
   | false=>exact hF rfl
   | true=>
    obtain⟨l0,x,rfl,h0,a1,a2,a3,a4⟩:=hT rfl
    refine h0.app fun w hw=> ?_
    simp only[Y] at hw
    subst hw
    exact⟨a1,by omega,by omega,fun k h1 h2=>a4 k h1 (by omega)⟩
  | succ k ih=>
   intro n b m l hk hn hm hl hF hT
   obtain⟨q,rfl⟩:=sn (n:=n) (by omega)
   have hle:m≤2880:=by omega
   rw[H8]
   simp only[hle,decide_true,if_true,hf m hm hle,Q]
   have w1:zU .i64 (m+1)=m+1:=A9 (by omega) (by omega)
   have last:∀(l0:G X9) (x:X9),zU .i64 (((l0++ [x]).length:L) - 1)=(l0.length:L)∨3000<l0.length:=fun l0 x=>by
    by_cases hb:l0.length≤3000
    ·left; rw[A9 (by simp<;>omega) (by simp<;>omega)]; simp
    ·right; omega
   cases hp:p m with
   | false=>
    simp only[U,if_false,U8,w1]
    refine ih q F (m+1) l (by omega) (by omega) (by omega) (by omega) (fun _=> ?_) (fun h=>by cases h)
    cases b with
    | false=>exact(hF rfl).more
    | true=>
     obtain⟨l0,x,rfl,h0,a1,a2,a3,a4⟩:=hT rfl
     refine h0.more.app fun w hw=> ?_
     simp only[Y] at hw
     subst hw
     exact⟨a1,by omega,by omega,fun k h1 h2=>a4 k h1 (by omega)⟩
   | true=>
    simp only[if_true]
    cases b with
    | true=>
     obtain⟨l0,x,rfl,h0,a1,a2,a3,a4⟩:=hT rfl
     simp only[List.length_append,zK] at hl
     simp only[if_true,A0h,U8,w1]
     have e:=(last l0 x).resolve_right (by omega)
     have e2:ix (l0++ [x]) (l0.length:L)=E x:=by rw[A0q]; simp
     rw[e,e2,Q,zP,C8w]
     refine ih q T (m+1) _ (by omega) (by omega) (by omega) (by simp; omega) (fun h=>by cases h) (fun _=>⟨l0,_,P,h0.more,a1,by simp; omega,by simp,fun k h1 h2=> ?_⟩)
     simp only at h1
     by_cases hk:k=m
     ·exact hk▸hp
     ·exact a4 k h1 (by omega)
    | false=>
     simp only[U,if_false]
     rw[if_pos (apk (by omega) (by simp) (by omega))]
     simp only[A0h,U8,w1]
     have e:=(last l ⟨m,0⟩).resolve_right (by omega)
     have e2:ix (l++ [(⟨m,0⟩:X9)]) (l.length:L)=E ⟨m,0⟩:=by rw[A0q]; simp
     rw[e,e2,Q,zP,C8w]
     refine ih q T (m+1) _ (by omega) (by omega) (by omega) (by simp; omega) (fun h=>by cases h) (fun _=>⟨l,_,P,(hF P).more,hm,by simp; omega,by simp,fun k h1 h2=> ?_⟩)
     simp only at h1
     have:k=m:=by omega
     exact this▸hp
 exact key 2881 bigN F 0 [] (by omega) (by rw[A0d]; omega) (by omega) (by simp) (fun _ w hw=>by cases hw) (fun h=>by cases h)
theorem C7h(l:G X9)(hl:l.length≤100000)(hb:∀w∈l,0≤w.From∧w.To≤2880):∃b,A3w l=E b:=by
 have key:∀(k i n:O),i+k=l.length→k<n→∃b,P4 l n (i:L)=E b:=by
  intro k
  induction k with
  | zero=>
   intro i n hi hn
   obtain⟨q,rfl⟩:=sn (n:=n) (by omega)
   have:i=l.length:=by omega
   subst this
   exact⟨T,by simp[P4]⟩
  | succ k ih=>
   intro i n hi hn
   obtain⟨q,rfl⟩:=sn (n:=n) (by omega)
   have hlt:i<l.length:=by omega
   obtain⟨b,e⟩:=ih (i+1) q (by omega) (by omega)
   rw[← E9 hlt (by rw[F4]; omega)] at e
   rw[P4]
   simp only[C6,hlt,decide_true,if_true,D9 hlt,Q]
   by_cases c1:l[i].From<0
   ·exact⟨F,by simp only[c1,decide_true,if_true]⟩
   by_cases c2:l[i].To<l[i].From
   ·exact⟨F,by simp only[c1,c2,decide_true,decide_false,U,if_false,if_true]⟩
   by_cases c3:2880<l[i].To
   ·exact⟨F,by simp only[c1,c2,c3,decide_true,decide_false,U,if_false,if_true]⟩
   simp only[c1,c2,c3,decide_false,U,if_false]
   by_cases c4:(0:L)<(i:L)
   ·have e4:zU .i64 ((i:L) - 1)=((i - 1:O):L):=by rw[A9 (by omega) (by omega)]; omega
    simp only[c4,decide_true,if_true,e4,D9 (show i - 1<l.length by omega),Q]
    by_cases c5:l[i].From≤zU .i64 (l[i - 1].To+1)
    ·exact⟨F,by simp only[c5,decide_true,if_true]⟩
    ·exact⟨b,by simp only[c5,decide_false,U,if_false]; exact e⟩
   ·exact⟨b,by simp only[c4,decide_false,U,if_false]; exact e⟩
 exact key l.length 0 bigN (by omega) (D4 (by rw[F4]; omega))
def A8f(p:L→N)(a:L)(l:G X9):Prop:=∀w∈l,0≤w.From∧w.From≤w.To∧w.To≤2880∧∀k,w.From≤k→k≤w.To→k+a≤2880∧∀m,k≤m→m≤k+a→p m=T
theorem D60{p:L→N}{l:G X9}{a:L}(hl:l.length≤3000)(h:WinIn p 2881 l):∃r,A0z l a=E r∧A8f p a r∧r.length≤3000:=by
 unfold A0z
 obtain⟨b,e⟩:=C7h l (by omega) fun w hw=>⟨(h w hw).1,by have:=(h w hw).2.2.1; omega⟩
 rw[e,Q,A3a]
 have hnil:∃r,E ([]:G X9)=E r∧A8f p a r∧r.length≤3000:=⟨[],rfl,(fun w hw=>by cases hw),by simp⟩
 cases b with
 | false=>simpa using hnil
 | true=>
  simp only[if_true,Q]
  cases ha:(decide (0≤a)&&decide (a≤2880)) with
  | false=>simpa using hnil
  | true=>
   simp only[V,decide_eq_true_eq] at ha
   simp only[if_true]
   have key:∀(k i n:O) (acc:G X9),i+k=l.length→k<n→acc.length≤i→A8f p a acc→∃r,L3 a l n (i:L) acc=E r∧A8f p a r∧r.length≤3000:=by
    intro k
    induction k with
    | zero=>
     intro i n acc hi hn hc hs
     obtain⟨q,rfl⟩:=sn (n:=n) (by omega)
     have:i=l.length:=by omega
     subst this
     exact⟨acc,by simp[L3],hs,by omega⟩
    | succ k ih=>
     intro i n acc hi hn hc hs
     obtain⟨q,rfl⟩:=sn (n:=n) (by omega)
     have hlt:i<l.length:=by omega
     obtain⟨a1,a2,a3,a4⟩:=h _ (X hlt)
     rw[L3]
     simp only[C6,hlt,decide_true,if_true,D9 hlt,Q,E9 hlt (show l.length≤maxLen by rw[F4]; omega)]
     rw[A9 (n:=l[i].To - l[i].From) (by omega) (by omega),A9 (n:=l[i].To - a) (by omega) (by omega)]
     by_cases c:a≤l[i].To - l[i].From
     ·simp only[c,decide_true,if_true]
      rw[if_pos (apk (by omega) (by simp) (by omega))]
      refine ih (i+1) q _ (by omega) (by omega) (by simp; omega) fun w hw=> ?_
      rcases zA.1 hw with hw|hw
      ·exact hs w hw
      ·simp only[Y] at hw
       subst hw
       refine⟨a1,by simp only; omega,by simp only; omega,fun k h1 h2=> ?_⟩
       simp only at h1 h2
       exact⟨by omega,fun m h3 h4=>a4 m (by omega) (by omega)⟩
     ·simp only[c,decide_false,U,if_false]
      exact ih (i+1) q acc (by omega) (by omega) (by omega) hs
   exact key l.length 0 bigN [] (by omega) (D4 (by rw[F4]; omega)) (by simp) fun w hw=>by cases hw
theorem F0v{l:G X9}{a:L}(hl:l.length≤100000):∃b,A54 l a=E b∧(b=T→∃w∈l,w.From≤a∧a≤w.To):=by
 have key:∀(k i n:O),i+k=l.length→k<n→∃b,U7 a l n (i:L)=E b∧(b=T→∃w∈l,w.From≤a∧a≤w.To):=by
  intro k
  induction k with
  | zero=>
   intro i n hi hn
   obtain⟨q,rfl⟩:=sn (n:=n) (by omega)
   have:i=l.length:=by omega
   subst this
   exact⟨F,by simp[U7],fun h=>by cases h⟩
  | succ k ih=>
   intro i n hi hn
   obtain⟨q,rfl⟩:=sn (n:=n) (by omega)
   have hlt:i<l.length:=by omega
   rw[U7]
   simp only[C6,hlt,decide_true,if_true,D9 hlt,Q,Y5,E9 hlt (show l.length≤maxLen by rw[F4]; omega)]
   cases c:(decide (l[i].From≤a)&&decide (a≤l[i].To)) with
   | true=>
    simp only[V,decide_eq_true_eq] at c
    exact⟨T,by simp only[if_true],fun _=>⟨_,X hlt,c⟩⟩
   | false=>
    simp only[U,if_false]
    exact ih (i+1) q (by omega) (by omega)
 exact key l.length 0 bigN (by omega) (D4 (by rw[F4]; omega))
theorem E6v{l:G X9}{a:L}(hl:l.length≤100000)(hb:∀w∈l,0≤w.From∧w.From≤w.To∧w.To≤2880):∃r,A21 l a=E r∧(r= -1∨(a≤r∧∃w∈l,w.From≤r∧r≤w.To)):=by
 unfold A21
 obtain⟨b,e⟩:=C7h l hl fun w hw=>⟨(hb w hw).1,(hb w hw).2.2⟩
 rw[e,Q]
 cases b with
 | false=>exact⟨-1,by simp,Or.inl rfl⟩
 | true=>
  simp only[if_true]
  have key:∀(k i n:O),i+k=l.length→k<n→∃r,T2 a l n (i:L)=E r∧(r= -1∨(a≤r∧∃w∈l,w.From≤r∧r≤w.To)):=by
   intro k
   induction k with
   | zero=>
    intro i n hi hn
    obtain⟨q,rfl⟩:=sn (n:=n) (by omega)
    have:i=l.length:=by omega
    subst this
    exact⟨-1,by simp[T2],Or.inl P⟩
   | succ k ih=>
    intro i n hi hn
    obtain⟨q,rfl⟩:=sn (n:=n) (by omega)
    have hlt:i<l.length:=by omega
    rw[T2]
    simp only[C6,hlt,decide_true,if_true,D9 hlt,Q,E9 hlt (show l.length≤maxLen by rw[F4]; omega)]
    by_cases c:a≤l[i].To
    ·simp only[c,decide_true,if_true]
     by_cases d:l[i].From<a
     ·exact⟨a,by simp only[d,if_true],Or.inr ⟨Int.le_refl a,_,X hlt,by omega,c⟩⟩
     ·exact⟨l[i].From,by simp only[d,if_false],Or.inr ⟨by omega,_,X hlt,Int.le_refl _,(hb _ (X hlt)).2.1⟩⟩
    ·simp only[c,decide_false,U,if_false]
     exact ih (i+1) q (by omega) (by omega)
  exact key l.length 0 bigN (by omega) (D4 (by rw[F4]; omega))
def B1k(f:Xf)(c:X5)(i:L)(s:Xb)(m:L):N:=decide (C42 c i s≤C2i f m)
theorem smx{n:O}(h:n≤1000000):n≤maxLen:=by rw[F4]; omega
theorem A3m{c:X5}(h:I4 c=T):c.Points.length≤8∧c.Segments.length≤10∧(∀x∈c.Points,x.Name.length≤maxLen)∧∀x∈c.Segments,idx x.A c.Points.length=T∧idx x.B c.Points.length=T:=by
 simp only[I4,V,decide_eq_true_eq,zC,zR] at h
 obtain⟨h1,h2,h3,h4⟩:=h
 refine⟨h1,h2,fun x hx=> ?_,fun x hx=> ?_⟩
 ·obtain⟨i,hi,rfl⟩:=zE hx
  have:=h3 i hi
  simp only[C7k,W hi,V] at this
  exact smx (by have:=(C8p this.1).2; omega)
 ·obtain⟨i,hi,rfl⟩:=zE hx
  have:=h4 i hi
  simp only[A9o,W hi,V,decide_eq_true_eq] at this
  exact⟨this.1,this.2.1⟩
theorem A93{s:Xb}(h:A2i s=T):s.Name.length≤maxLen:=smx (by have:=(C8p (D3l h).1).2; omega)
theorem B1a{c:X5}{s:Xb}{i:L}(hc:I4 c=T)(hi:idx i c.Segments.length=T):1≤Q7 (U0 c i) s∧Q7 (U0 c i) s≤480:=by
 obtain⟨_,_,a,b⟩:=(B7a hc).2.2 _ (A35 hi).2
 unfold Q7
 split
 ·rw[A9 (n:=2*_) (by omega) (by omega)]; omega
 ·omega
theorem E6u{f:Xf}{c:X5}{s:Xb}{i:L}(hf:A9d f=T)(hc:I4 c=T)(hs:A2i s=T)(hi:idx i c.Segments.length=T) :
  ∃l,A24 f c i s=E l∧A8f (B1k f c i s) (Q7 (U0 c i) s) l∧l.length≤3000:=by
 have hn:=(A3m hc).2.2.1
 have hm:=A93 hs
 obtain⟨ws,e1,e2,e3⟩:=D4t (f:=fun z0=>A1x z0 f (C42 c i s)) (p:=B1k f c i s) fun m h0 h1=>by
  simp only[A1x,(E3q hf h0 h1).1,Q,B1k]
 obtain⟨r,e4,e5,e6⟩:=D60 (a:=Q7 (U0 c i) s) (by omega) e2
 refine⟨r,?_,e5,e6⟩
 unfold A24 A13 A5h A59
 simp only[A6z,M0 hn,A3e hm,hf,hc,hs,hi,Q,if_true,A17,B9h hn hm hc hs hi,e1,(A35 hi).1,A4k,e4]
def B1q(x:X3)(a:L):L:=if a=x.A then x.B else if a=x.B then x.A else -1
theorem E8b(x:X3)(a:L):A0n x a=E (B1q x a):=by
 unfold A0n B1q
 by_cases h1:a=x.A
 ·rw[if_pos (by simpa using h1),if_pos h1]
 ·rw[if_neg (by simpa using h1),if_neg h1]
  by_cases h2:a=x.B
  ·rw[if_pos (by simpa using h2),if_pos h2]
  ·rw[if_neg (by simpa using h2),if_neg h2]
theorem D06{c:X5}(hc:I4 c=T){x:X3}(hx:x∈c.Segments)(a:L):B1q x a= -1∨idx (B1q x a) c.Points.length=T:=by
 obtain⟨h1,h2⟩:=(A3m hc).2.2.2 x hx
 unfold B1q
 split
 ·exact Or.inr h2
 ·split
  ·exact Or.inr h1
  ·exact Or.inl P
theorem A67{i:L}{n:O}:idx i n=T↔0≤i∧i<(n:L):=by simp[idx]
theorem ix8(y:X7){i:L}(h0:0≤i)(h1:i<8):∃b,ix ([y.i0,y.i1,y.i2,y.i3,y.i4,y.i5,y.i6,y.i7]:G N) i=E b:=by
 obtain⟨n,rfl⟩:∃n:O,i=(n:L):=⟨i.toNat,by omega⟩
 exact⟨_,D9 (show n<([y.i0,y.i1,y.i2,y.i3,y.i4,y.i5,y.i6,y.i7]:G N).length by simp; omega)⟩
theorem C4a{c:X5}(hc:I4 c=T)(rt:G L)(a:L)(hl:rt.length≤1000):∃l b,S9 c a rt=E (l,b)∧l.length≤rt.length+1∧(∀x∈l,idx x c.Points.length=T)∧
  (b=T→l.length=rt.length+1∧∀x∈rt,idx x c.Segments.length=T):=by
 obtain⟨hp8,hs10,_,_⟩:=A3m hc
 have none_:∃l b,(E (([]:G L),F):Option (G L × N))=E (l,b)∧l.length≤rt.length+1∧(∀x∈l,idx x c.Points.length=T)∧(b=T→l.length=rt.length+1∧∀x∈rt,idx x c.Segments.length=T):=
  ⟨[],F,rfl,by simp,(fun x hx=>by cases hx),fun h=>by cases h⟩
 have key:∀(k i n:O) (v5:L) (v7:X7) (v8:G L),i+k=rt.length→k<n→v8.length=i+1→(∀x∈v8,idx x c.Points.length=T)→(∀j (h:j<rt.length),j<i→idx rt[j] c.Segments.length=T)→
   ∃l b,I2 rt c n v5 (i:L) v7 v8=E (l,b)∧l.length≤rt.length+1∧(∀x∈l,idx x c.Points.length=T)∧(b=T→l.length=rt.length+1∧∀x∈rt,idx x c.Segments.length=T):=by
  intro k
  induction k with
  | zero=>
   intro i n v5 v7 v8 hi hn h8 h9 hj
   obtain⟨q,rfl⟩:=sn (n:=n) (by omega)
   have:i=rt.length:=by omega
   subst this
   refine⟨v8,T,by simp[I2],by omega,h9,fun _=>⟨h8,fun x hx=> ?_⟩⟩
   obtain⟨j,hj',rfl⟩:=zE hx
   exact hj j hj' hj'
  | succ k ih=>
   intro i n v5 v7 v8 hi hn h8 h9 hj
   obtain⟨q,rfl⟩:=sn (n:=n) (by omega)
   have hlt:i<rt.length:=by omega
   rw[I2]
   simp only[C6,hlt,decide_true,if_true,D9 hlt,Q,A17]
   cases hx:idx rt[i] c.Segments.length with
   | false=>simpa using none_
   | true=>
    simp only[if_true,(A35 hx).1,Q,E8b]
    have he:=D06 hc (A35 hx).2 v5
    generalize B1q (U0 c rt[i]) v5=r at he
    by_cases h0:r<0
    ·simp only[h0,decide_true,if_true,O7]
     exact none_
    ·have hr:=he.resolve_left (by omega)
     have hr':=A67.1 hr
     have hd:(decide (0≤r)&&decide (r<8))=T:=by simp; omega
     simp only[h0,decide_false,U,if_false,hd,if_true]
     obtain⟨b,e⟩:=ix8 v7 hr'.1 (by omega)
     rw[e,Q]
     cases b with
     | true=>simp only[O7,if_true]; exact none_
     | false=>
      simp only[O7,U,if_false,hd,if_true]
      rw[if_pos (apk (by omega) (by simp) (by omega)),E9 hlt (smx (by omega))]
      refine ih (i+1) q _ _ _ (by omega) (by omega) (by simp; omega) (fun x hx=> ?_) fun j h1 h2=> ?_
      ·rcases zA.1 hx with hx|hx
       ·exact h9 x hx
       ·simp only[Y] at hx; exact hx▸hr
      ·by_cases hji:j=i
       ·subst hji; exact hx
       ·exact hj j h1 (by omega)
 unfold S9
 rw[A17,Q]
 cases ha:idx a c.Points.length with
 | false=>simpa using none_
 | true=>
  have ha':=A67.1 ha
  have hd:(decide (0≤a)&&decide (a<8))=T:=by simp; omega
  simp only[if_true,hd]
  exact key rt.length 0 bigN _ _ _ (by omega) (D4 (smx (by omega))) (by simp) (by simpa using ha) fun j h1 h2=>by omega
theorem B8x{c:X5}(hc:I4 c=T)(rt:G L)(hl:rt.length≤1000):∃r,M7 c rt=E r:=by
 unfold M7
 rw[M0 (A3m hc).2.2.1,hc,Q,if_pos rfl]
 have key:∀(k i n:O) (v:L),i+k=rt.length→k<n→∃r,I1 rt c n v (i:L)=E r:=by
  intro k
  induction k with
  | zero=>
   intro i n v hi hn
   obtain⟨q,rfl⟩:=sn (n:=n) (by omega)
   have:i=rt.length:=by omega
   subst this
   exact⟨v,by simp[I1]⟩
  | succ k ih=>
   intro i n v hi hn
   obtain⟨q,rfl⟩:=sn (n:=n) (by omega)
   have hlt:i<rt.length:=by omega
   rw[I1]
   simp only[C6,hlt,decide_true,if_true,D9 hlt,Q,A17,E9 hlt (smx (by omega))]
   cases hx:idx rt[i] c.Segments.length with
   | false=>exact⟨-1,by simp⟩
   | true=>
    simp only[if_true,(A35 hx).1,Q]
    exact ih (i+1) q _ (by omega) (by omega)
 exact key rt.length 0 bigN 0 (by omega) (D4 (smx (by omega)))
structure VoyOk (f:Xf) (c:X5) (s:Xb) (a:L) (rt:G L) (v:Xk):Prop where
 ne:rt≠ []
 w:v.waits.length=rt.length
 m:v.minutes.length=rt.length
 u:v.sure.length=rt.length
 seg:∀x∈rt,idx x c.Segments.length=T
 mins:∀i (h:i<rt.length),v.minutes[i]?=E (Q7 (U0 c rt[i]) s)
 sure:∀i (h:i<rt.length),∃l,v.sure[i]?=E l∧A8f (B1k f c rt[i] s) (Q7 (U0 c rt[i]) s) l∧l.length≤3000
 rok:∃pts,S9 c a rt=E (pts,T)∧pts.length=rt.length+1
theorem D8f{f:Xf}{c:X5}{s:Xb}(hf:A9d f=T)(hc:I4 c=T)(hs:A2i s=T)(rt:G L)(a:L)(hl:rt.length≤1000) :
  ∃v b,A41 f c s a rt=E (v,b)∧(b=T→VoyOk f c s a rt v):=by
 have hn:=(A3m hc).2.2.1
 obtain⟨pts,b,e1,e2,e3,e4⟩:=C4a hc rt a hl
 have eo:A14 c a rt=E b:=by simp only[A14,M0 hn,hc,Q,if_true,e1]
 have er:N5 c a rt=E pts:=by simp only[N5,M0 hn,hc,Q,if_true,e1]
 have none_:∃v b',(E ((⟨[],[],[]⟩:Xk),F):Option (Xk × N))=E (v,b')∧(b'=T→VoyOk f c s a rt v):=⟨_,F,rfl,fun h=>by cases h⟩
 unfold A41
 simp only[A6z,A3e (A93 hs),hf,hs,eo,Q,if_true,W8]
 cases b with
 | false=>simpa using none_
 | true=>
  obtain⟨e5,e6⟩:=e4 rfl
  simp only[if_true]
  cases rt with
  | nil=>simpa using none_
  | cons r0 rs=>
   have hnz:(((r0::rs).length:L)==(0:L))=F:=by simp; omega
   simp only[hnz,U,if_false,er,Q]
   generalize hrt:r0::rs=rt at *
   rw[A49 (by omega),Q]
   simp only[List.drop_zero,Nat.sub_zero]
   have hlen:(pts.take rt.length).length=rt.length:=by simp; omega
   have key:∀(k i n:O) (ws:G N) (ms:G L) (us:G (G X9)),i+k=rt.length→k<n→ws.length=i→ms.length=i→us.length=i→
     (∀j (h:j<rt.length),j<i→ms[j]?=E (Q7 (U0 c rt[j]) s))→(∀j (h:j<rt.length),j<i→∃l,us[j]?=E l∧A8f (B1k f c rt[j] s) (Q7 (U0 c rt[j]) s) l∧l.length≤3000)→
     ∃v b,W5 rt f c s (pts.take rt.length) ((pts.take rt.length).length:L) n (i:L) ws ms us=E (v,b)∧(b=T→VoyOk f c s a rt v):=by
    intro k
    induction k with
    | zero=>
     intro i n ws ms us hi hn h1 h2 h3 h4 h5
     obtain⟨q,rfl⟩:=sn (n:=n) (by omega)
     have:i=rt.length:=by omega
     subst this
     refine⟨⟨ws,ms,us⟩,T,by rw[hlen]; simp[W5],fun _=>⟨by rw[← hrt]; simp,h1,h2,h3,e6,fun j h=>h4 j h h,fun j h=>h5 j h h,pts,e1,e5⟩⟩
    | succ k ih=>
     intro i n ws ms us hi hn h1 h2 h3 h4 h5
     obtain⟨q,rfl⟩:=sn (n:=n) (by omega)
     have hlt:i<rt.length:=by omega
     have hlt':i<(pts.take rt.length).length:=by omega
     have hx:=e6 _ (X hlt)
     have hpt:=e3 _ (List.mem_of_mem_take (X hlt'))
     obtain⟨l,g1,g2,g3⟩:=E6u hf hc hs hx
     rw[W5]
     simp only[C6,hlt',decide_true,if_true,D9 hlt',D9 hlt,Q,(C8r (⟨[],F⟩:Xc) hpt).1,(A35 hx).1,A4k,g1]
     rw[if_pos (apk (by omega) (by simp) (by omega)),if_pos (apk (by omega) (by simp) (by omega)),if_pos (apk (by omega) (by simp) (by omega)),E9 hlt (smx (by omega))]
     refine ih (i+1) q _ _ _ (by omega) (by omega) (by simp; omega) (by simp; omega) (by simp; omega) (fun j hj1 hj2=> ?_) fun j hj1 hj2=> ?_
     ·by_cases hji:j=i
      ·subst hji; subst h2; simp
      ·rw[zF (by omega)]; exact h4 j hj1 (by omega)
     ·by_cases hji:j=i
      ·subst hji; subst h3; exact⟨l,by simp,g2,g3⟩
      ·rw[zF (by omega)]; exact h5 j hj1 (by omega)
   exact key rt.length 0 bigN [] [] [] (by omega) (D4 (smx (by omega))) P P P (fun j _ h=>by omega) fun j _ h=>by omega
def B9d(y:X7):G N:= [y.i0,y.i1,y.i2,y.i3,y.i4,y.i5,y.i6,y.i7]
def D32(y:X7):O:=(B9d y).countP fun b=> !b
theorem F9q(y:X7){n:O}(hn:n<8):B9d (X7.set y n T)=(B9d y).set n T:=by
 have:n=0∨n=1∨n=2∨n=3∨n=4∨n=5∨n=6∨n=7:=by omega
 rcases this with rfl|rfl|rfl|rfl|rfl|rfl|rfl|rfl<;>rfl
theorem D3n{l:G N}:∀{n:O},l[n]?=E F→((l.set n T).countP fun b=> !b)+1=l.countP fun b=> !b:=by
 induction l with
 | nil=>intro n h; simp at h
 | cons a l ih=>
  intro n h
  cases n with
  | zero=>simp only[List.getElem?_cons_zero,C] at h; subst h; simp
  | succ n=>
   simp only[List.getElem?_cons_succ] at h
   have:=ih h
   simp only[List.set_cons_succ,List.countP_cons]
   omega
theorem D0q{y:X7}{a:L}(h:ix (B9d y) a=E F):D32 (X7.set y (Int.toNat a) T)+1=D32 y∧0≤a∧a<8:=by
 have hg:=N4 h
 have hl:(B9d y).length=8:=rfl
 have ha:0≤a:=by
  unfold ix at h
  split at h
  ·rename_i h1; exact h1
  ·cases h
 have hn:a.toNat<8:=by
  have:=(List.getElem?_eq_some_iff.1 hg).1
  omega
 refine⟨?_,ha,by omega⟩
 unfold D32
 rw[F9q y hn]
 exact D3n hg
theorem C7t{l:G L}(h:l.length≤1000):D6 l=E l:=by
 unfold D6 mkS
 rw[if_pos ⟨by omega,by omega,by omega,by omega⟩]
 simp only[Q,Int.toNat_zero,List.replicate_zero,zL]
 rw[if_pos (by simp only[D1,List.length_nil,decide_eq_true_eq]; omega)]
theorem D65{c:X5}(hc:I4 c=T):∀(u n:O) (a b:L) (rt:G L) (y:X7) (out:G (G L)),u<n→D32 y≤u→ix (B9d y) a=E F→rt.length+u≤100→out.length+10 ^ u≤100000000→
  ∃r,G9 n c a b rt y out=E r∧r.length≤out.length+10 ^ u∧∀x∈r,x∈out∨x.length≤100:=by
 obtain⟨_,hs10,_,_⟩:=A3m hc
 intro u
 induction u with
 | zero=>
  intro n a b rt y out hn hu hi
  have:=(D0q hi).1
  omega
 | succ u ih=>
  intro n a b rt y out hn hu hi hr ho
  obtain⟨q,rfl⟩:=sn (n:=n) (by omega)
  obtain⟨hc1,ha0,ha8⟩:=D0q hi
  have hp:10 ^ (u+1)=10*10 ^ u:=by rw[Nat.pow_succ]; omega
  have hp1:0<10 ^ u:=Nat.pow_pos (by omega)
  rw[G9,A0r]
  by_cases hab:(a==b)=T
  ·rw[if_pos hab,C7t (by omega),Q,if_pos (apk (by omega) (by simp) (by omega))]
   refine⟨_,P,by simp; omega,fun x hx=> ?_⟩
   rcases zA.1 hx with hx|hx
   ·exact Or.inl hx
   ·simp only[Y] at hx; subst hx; exact Or.inr (by omega)
  ·rw[if_neg hab,if_pos (by simp; omega)]
   generalize hy:X7.set y (Int.toNat a) T=y'
   have hy':(⟨y'.i0,y'.i1,y'.i2,y'.i3,y'.i4,y'.i5,y'.i6,y'.i7⟩:X7)=y':=rfl
   rw[hy']
   rw[hy] at hc1
   have key:∀(k i m:O) (o:G (G L)),i+k=c.Segments.length→k<m→o.length≤out.length+i*10 ^ u→(∀x∈o,x∈out∨x.length≤100)→
     ∃r,E7 (G9 q) a b rt c y' m (i:L) o=E r∧r.length≤out.length+c.Segments.length*10 ^ u∧∀x∈r,x∈out∨x.length≤100:=by
    intro k
    induction k with
    | zero=>
     intro i m o hi hm hl hx
     obtain⟨p,rfl⟩:=sn (n:=m) (by omega)
     have:i=c.Segments.length:=by omega
     subst this
     exact⟨o,by simp[E7],hl,hx⟩
    | succ k ihk=>
     intro i m o hi hm hl hx
     obtain⟨p,rfl⟩:=sn (n:=m) (by omega)
     have hlt:i<c.Segments.length:=by omega
     have hsucc:(i+1)*10 ^ u=i*10 ^ u+10 ^ u:=Nat.succ_mul i _
     have hle:i*10 ^ u≤9*10 ^ u:=Nat.mul_le_mul_right _ (by omega)
     have go:∀o',o'.length≤out.length+(i+1)*10 ^ u→(∀x∈o',x∈out∨x.length≤100)→∃r,E7 (G9 q) a b rt c y' p (zU .i64 ((i:L)+1)) o'=E r∧r.length≤out.length+c.Segments.length*10 ^ u∧∀x∈r,x∈out∨x.length≤100:=fun o' h1 h2=>by
      rw[E9 hlt (smx (by omega))]
      exact ihk (i+1) p o' (by omega) (by omega) h1 h2
     rw[E7]
     simp only[C6,hlt,decide_true,if_true,D9 hlt,Q,E8b]
     have he:=D06 hc (X hlt) a
     generalize B1q c.Segments[i] a=e at he
     by_cases h0:0≤e
     ·have he':=A67.1 (he.resolve_left (by omega))
      have hp8:=(A3m hc).1
      have hd:(decide (0≤e)&&decide (e<8))=T:=by simp; omega
      simp only[h0,decide_true,if_true,hd,Bool.true_and]
      rw[if_pos (by simp; omega)]
      obtain⟨bb,eb⟩:=ix8 y' h0 (by omega)
      rw[eb,Q]
      cases bb with
      | true=>
       simp only[L1,Bool.not_true,U,if_false]
       exact go o (by omega) hx
      | false=>
       simp only[L1,Bool.not_false,if_true]
       rw[C7t (by omega),Q,if_pos (apk (by omega) (by simp) (by omega))]
       obtain⟨r,e1,e2,e3⟩:=ih q e b (rt++ [(i:L)]) y' o (by omega) (by omega) eb (by simp; omega) (by omega)
       rw[e1,Q]
       exact go r (by omega) fun x h=>by
        rcases e3 x h with h|h
        ·exact hx x h
        ·exact Or.inr h
     ·simp only[h0,decide_false,U,if_false,L1]
      exact go o (by omega) hx
   obtain⟨r,e1,e2,e3⟩:=key c.Segments.length 0 bigN out (by omega) (D4 (smx (by omega))) (by omega) fun x hx=>Or.inl hx
   have hle:c.Segments.length*10 ^ u≤10*10 ^ u:=Nat.mul_le_mul_right _ hs10
   exact⟨r,e1,by omega,e3⟩
theorem D3y{c:X5}(hc:I4 c=T)(a b:L):∃r,A00 c a b=E r∧r.length≤100000000∧∀x∈r,x.length≤100:=by
 have hp8:=(A3m hc).1
 have nil_:∃r,E ([]:G (G L))=E r∧r.length≤100000000∧∀x∈r,x.length≤100:=⟨[],rfl,by simp,fun x h=>by cases h⟩
 unfold A00 A4e
 rw[M0 (A3m hc).2.2.1,hc,Q,if_pos rfl,A17,Q,A17]
 cases ha:idx a c.Points.length with
 | false=>simpa using nil_
 | true=>
  simp only[if_true,Q]
  cases hb:idx b c.Points.length with
  | false=>simpa using nil_
  | true=>
   simp only[if_true]
   have ha':=A67.1 ha
   have hi:ix (B9d ⟨F,F,F,F,F,F,F,F⟩) a=E F:=by
    obtain⟨n,rfl⟩:∃n:O,a=(n:L):=⟨a.toNat,by omega⟩
    have:n=0∨n=1∨n=2∨n=3∨n=4∨n=5∨n=6∨n=7:=by omega
    rcases this with rfl|rfl|rfl|rfl|rfl|rfl|rfl|rfl<;>rfl
   obtain⟨r,e1,e2,e3⟩:=D65 hc 8 bigN a b [] ⟨F,F,F,F,F,F,F,F⟩ [] (by rw[A0d]; omega) (by decide) hi (by simp) (by simp)
   rw[e1,Q]
   exact⟨r,P,by simpa using e2,fun x hx=>(e3 x hx).resolve_left (by simp)⟩
theorem E7f{c:X5}(hc:I4 c=T)(a b:L):∃rt q,A3n c a b=E (rt,q)∧rt.length≤100:=by
 obtain⟨r,e,hl,hx⟩:=D3y hc a b
 unfold A3n
 rw[e,Q]
 cases r with
 | nil=>exact⟨[],F,by simp,by simp⟩
 | cons r0 rs=>
  have hnz:(((r0::rs).length:L)==(0:L))=F:=by simp; omega
  have hml:(r0::rs).length≤maxLen:=by rw[F4]; omega
  rw[hnz,if_neg (by simp),show ix (r0::rs) 0=E r0 from rfl,Q]
  have h0:r0.length≤100:=hx r0 (by simp)
  generalize r0::rs=l at hl hx hml
  have key:∀(k i n:O) (v:G L),i+k=l.length→k<n→v.length≤100→∃rt q,P6 l c n v (i:L)=E (rt,q)∧rt.length≤100:=by
   intro k
   induction k with
   | zero=>
    intro i n v hi hn hv
    obtain⟨q,rfl⟩:=sn (n:=n) (by omega)
    have:i=l.length:=by omega
    subst this
    exact⟨v,T,by simp[P6],hv⟩
   | succ k ih=>
    intro i n v hi hn hv
    obtain⟨q,rfl⟩:=sn (n:=n) (by omega)
    have hlt:i<l.length:=by omega
    have hli:=hx _ (X hlt)
    obtain⟨m1,e1⟩:=B8x hc l[i] (by omega)
    obtain⟨m2,e2⟩:=B8x hc v (by omega)
    rw[P6]
    simp only[C6,hlt,decide_true,if_true,D9 hlt,Q,e1,e2,E9 hlt hml]
    by_cases hm:m1<m2
    ·simp only[hm,decide_true,if_true]
     exact ih (i+1) q _ (by omega) (by omega) hli
    ·simp only[hm,decide_false,U,if_false]
     exact ih (i+1) q _ (by omega) (by omega) hv
  exact key l.length 0 bigN r0 (by omega) (D4 hml) h0
def A9y(f:Xf)(c:X5)(s:Xb)(i x:L):Prop:=0≤x∧x+Q7 (U0 c i) s≤2880∧∀m,x≤m→m≤x+Q7 (U0 c i) s→B1k f c i s m=T
theorem C3j{f:Xf}{c:X5}{s:Xb}{i x:L}{l:G X9}(h:A8f (B1k f c i s) (Q7 (U0 c i) s) l)(hw:∃w∈l,w.From≤x∧x≤w.To):A9y f c s i x:=by
 obtain⟨w,hm,h1,h2⟩:=hw
 obtain⟨a1,_,_,a4⟩:=h w hm
 obtain⟨b1,b2⟩:=a4 x h1 h2
 exact⟨by omega,b1,b2⟩
structure Sailed (f:Xf) (c:X5) (s:Xb) (rt:G L) (start:L) (m:O) (l:G L):Prop where
 fst:l[0]?=E start
 saf:∀j (h:j<rt.length),j≤m→∃x,l[j]?=E x∧A9y f c s rt[j] x
 ord:∀j (h:j+1<rt.length),j+1≤m→∃x y,l[j]?=E x∧l[j+1]?=E y∧x+Q7 (U0 c rt[j]) s≤y
theorem Sailed.at{f:Xf}{c:X5}{s:Xb}{rt:G L}{start:L}{l:G L}(H:Sailed f c s rt start rt.length l):∀i (h:i<rt.length),∃x,l[i]?=E x∧A9y f c s rt[i] x:=fun i h=>H.saf i h (by omega)
theorem Sailed.ge{f:Xf}{c:X5}{s:Xb}{rt:G L}{start:L}{l:G L}(hc:I4 c=T)(hg:∀x∈rt,idx x c.Segments.length=T)(H:Sailed f c s rt start rt.length l):∀i,i<rt.length→∀x,l[i]?=E x→start≤x:=by
 intro i
 induction i with
 | zero=>
  intro hi x hx
  rw[H.fst] at hx
  simp only[C] at hx
  omega
 | succ i ih=>
  intro hi x hx
  obtain⟨y,z,e1,e2,e3⟩:=H.ord i hi (by omega)
  rw[e2] at hx
  simp only[C] at hx
  have:=ih (by omega) y e1
  have:=(B1a (s:=s) hc (hg _ (X (show i<rt.length by omega)))).1
  omega
theorem E3o{f:Xf}{c:X5}{s:Xb}{a:L}{rt:G L}{v:Xk}(hc:I4 c=T)(hv:VoyOk f c s a rt v)(hl:rt.length≤1000)(start:L) :
  ∃l b,A2c v start=E (l,b)∧(b=T→l.length=rt.length∧Sailed f c s rt start rt.length l):=by
 have none_:∃l b,(E (([]:G L),F):Option (G L × N))=E (l,b)∧(b=T→l.length=rt.length∧Sailed f c s rt start rt.length l):=⟨[],F,rfl,fun h=>by cases h⟩
 have h0:0<rt.length:=zM.2 hv.ne
 obtain⟨l0,g1,g2,g3⟩:=hv.sure 0 h0
 unfold A2c
 have e0:ix v.sure 0=E l0:=by rw[show(0:L)=((0:O):L) from rfl,A0q,g1]
 obtain⟨b,e1,e2⟩:=F0v (l:=l0) (a:=start) (by omega)
 rw[e0,Q,e1,Q]
 cases b with
 | false=>simpa using none_
 | true=>
  simp only[if_true]
  have hs0:=C3j g2 (e2 rfl)
  have key:∀(k i n:O) (acc:G L),i+1+k=rt.length→k<n→acc.length=i+1→Sailed f c s rt start i acc→
    ∃l b,F5 v n ((i+1:O):L) acc=E (l,b)∧(b=T→l.length=rt.length∧Sailed f c s rt start rt.length l):=by
   intro k
   induction k with
   | zero=>
    intro i n acc hi hn ha hj
    obtain⟨q,rfl⟩:=sn (n:=n) (by omega)
    have hu:¬(i+1<v.sure.length):=by rw[hv.u]; omega
    exact⟨acc,T,by simp only[F5,C6,hu,decide_false,U,if_false],fun _=>⟨by omega,hj.fst,fun j h _=>hj.saf j h (by omega),fun j h _=>hj.ord j h (by omega)⟩⟩
   | succ k ih=>
    intro i n acc hi hn ha hj
    obtain⟨q,rfl⟩:=sn (n:=n) (by omega)
    have hu:i+1<v.sure.length:=by rw[hv.u]; omega
    have hlt:i+1<rt.length:=by omega
    obtain⟨x,f1,f2,f3,f4⟩:=hj.saf i (by omega) (Nat.le_refl i)
    have hm:=hv.mins i (by omega)
    obtain⟨mb1,mb2⟩:=B1a (s:=s) hc (hv.seg _ (X (show i<rt.length by omega)))
    obtain⟨l,w1,w2,w3⟩:=hv.sure (i+1) hlt
    have ep:zU .i64 (((i+1:O):L) - 1)=(i:L):=by rw[A9 (by omega) (by omega)]; omega
    have ew:zU .i64 (x+Q7 (U0 c rt[i]) s)=x+Q7 (U0 c rt[i]) s:=A9 (by omega) (by omega)
    obtain⟨r,n1,n2⟩:=E6v (l:=l) (a:=zU .i64 (x+Q7 (U0 c rt[i]) s)) (by omega) fun w hw=>⟨(w2 w hw).1,(w2 w hw).2.1,(w2 w hw).2.2.1⟩
    rw[F5]
    simp only[C6,hu,decide_true,if_true,ep,A0q,f1,hm,w1,Q,n1]
    by_cases hr:r<0
    ·simp only[hr,decide_true,if_true,K9]
     exact none_
    ·simp only[hr,decide_false,U,if_false]
     have hn2:=n2.resolve_left (by omega)
     have hsa:=C3j w2 hn2.2
     have hle:=hn2.1
     rw[ew] at hle
     have go:∀bb,∃l b,K9 ((i+1:O):L) r v acc (F5 v q) bb=E (l,b)∧(b=T→l.length=rt.length∧Sailed f c s rt start rt.length l):=by
      intro bb
      cases bb with
      | true=>simp only[K9,if_true]; exact none_
      | false=>
       simp only[K9,U,if_false]
       rw[if_pos (apk (by omega) (by simp) (by omega)),E9 hlt (smx (by omega))]
       have hr1:(acc++ [r])[i+1]?=E r:=by rw[← ha]; simp
       have hlo:∀j,j≤i→(acc++ [r])[j]?=acc[j]?:=fun j hj=>zF (by omega)
       refine ih (i+1) q _ (by omega) (by omega) (by simp; omega) ⟨by rw[hlo 0 (by omega)]; exact hj.fst,fun j h1 h2=> ?_,fun j h1 h2=> ?_⟩
       ·by_cases hji:j=i+1
        ·subst hji
         exact⟨r,hr1,hsa⟩
        ·rw[hlo j (by omega)]
         exact hj.saf j h1 (by omega)
       ·by_cases hji:j=i
        ·subst hji
         exact⟨x,r,by rw[hlo j (by omega)]; exact f1,hr1,hle⟩
        ·rw[hlo j (by omega),hlo (j+1) (by omega)]
         exact hj.ord j h1 (by omega)
     by_cases hlt2:zU .i64 (x+Q7 (U0 c rt[i]) s)<r
     ·simp only[hlt2,decide_true,if_true]
      have hwt:i+1<v.waits.length:=by rw[hv.w]; omega
      rw[W hwt,Q]
      exact go _
     ·simp only[hlt2,decide_false,U,if_false]
      exact go _
  refine key (rt.length - 1) 0 bigN [start] (by omega) (D4 (smx (by omega))) P ⟨P,fun j h1 h2=> ?_,fun j h1 h2=>by omega⟩
  have:j=0:=by omega
  subst this
  exact⟨start,P,hs0⟩
theorem C9v{f:Xf}{c:X5}{s:Xb}{a sh:L}{rt st:G L}{v:Xk}(hc:I4 c=T)(hs:A2i s=T)(hv:VoyOk f c s a rt v)(hl:rt.length≤1000)
  (h1:st.length=rt.length) (h2:∀i (h:i<rt.length),∃x,st[i]?=E x∧A9y f c s rt[i] x) :
  ∃ps,A2z c sh s a rt st=E ps∧(ps.length=rt.length∧ps.map X4.Segment=rt)∧∀p∈ps,p.Ship=sh∧idx p.Segment c.Segments.length=T∧p.End=p.Start+Q7 (U0 c p.Segment) s∧A9y f c s p.Segment p.Start∧∃i,i<rt.length∧st[i]?=E p.Start:=by
 obtain⟨pts,r1,r2⟩:=hv.rok
 have hn:=(A3m hc).2.2.1
 unfold A2z A14 N5
 simp only[M0 hn,A3e (A93 hs),hc,hs,Q,if_true,r1,h1]
 rw[if_neg (by simp)]
 have key:∀(k i n:O) (acc:G X4),i+k=rt.length→k<n→acc.map X4.Segment=rt.take i→(∀p∈acc,p.Ship=sh∧idx p.Segment c.Segments.length=T∧p.End=p.Start+Q7 (U0 c p.Segment) s∧A9y f c s p.Segment p.Start∧∃i,i<rt.length∧st[i]?=E p.Start)→
   ∃ps,T0 sh st rt c s pts n (i:L) acc=E ps∧(ps.length=rt.length∧ps.map X4.Segment=rt)∧∀p∈ps,p.Ship=sh∧idx p.Segment c.Segments.length=T∧p.End=p.Start+Q7 (U0 c p.Segment) s∧A9y f c s p.Segment p.Start∧∃i,i<rt.length∧st[i]?=E p.Start:=by
  intro k
  induction k with
  | zero=>
   intro i n acc hi hn ha hp
   obtain⟨q,rfl⟩:=sn (n:=n) (by omega)
   have:i=rt.length:=by omega
   subst this
   rw[List.take_length] at ha
   exact⟨acc,by simp[T0],⟨by rw[← ha]; simp,ha⟩,hp⟩
  | succ k ih=>
   intro i n acc hi hn ha hp
   obtain⟨q,rfl⟩:=sn (n:=n) (by omega)
   have hlt:i<rt.length:=by omega
   have hal:acc.length=i:=by have:=congrArg List.length ha; simp at this; omega
   obtain⟨x,x1,x2⟩:=h2 i hlt
   have hseg:=hv.seg _ (X hlt)
   obtain⟨mb1,mb2⟩:=B1a (s:=s) hc hseg
   have x2':=x2
   obtain⟨y1,y2,y3⟩:=x2'
   have hpt:i<pts.length:=by omega
   have hmi:(decide (0≤x)&&decide (x≤2880))=T:=by simp; omega
   rw[T0]
   simp only[C6,hlt,decide_true,if_true,D9 hlt,A0q st,x1,Q,A3a,hmi,(A35 hseg).1,D9 hpt,A4k]
   rw[if_pos (apk (by omega) (by simp) (by omega)),E9 hlt (smx (by omega)),A9 (n:=x+_) (by omega) (by omega)]
   refine ih (i+1) q _ (by omega) (by omega) (by rw[List.map_append,ha,I hlt]; rfl) fun p hpm=> ?_
   rcases zA.1 hpm with hpm|hpm
   ·exact hp p hpm
   ·simp only[Y] at hpm
    subst hpm
    exact⟨P,hseg,P,x2,i,hlt,x1⟩
 exact key rt.length 0 bigN [] (by omega) (D4 (smx (by omega))) (by simp) fun p hp=>by cases hp
theorem C7r{c:X5}(hc:I4 c=T){rt:G L}(hl:rt.length≤1000)(hs:∀x∈rt,idx x c.Segments.length=T):∃r,M7 c rt=E r∧0≤r:=by
 unfold M7
 rw[M0 (A3m hc).2.2.1,hc,Q,if_pos rfl]
 have key:∀(k i n:O) (v:L),i+k=rt.length→k<n→0≤v→v≤240*i→∃r,I1 rt c n v (i:L)=E r∧0≤r:=by
  intro k
  induction k with
  | zero=>
   intro i n v hi hn h0 h1
   obtain⟨q,rfl⟩:=sn (n:=n) (by omega)
   have:i=rt.length:=by omega
   subst this
   exact⟨v,by simp[I1],h0⟩
  | succ k ih=>
   intro i n v hi hn h0 h1
   obtain⟨q,rfl⟩:=sn (n:=n) (by omega)
   have hlt:i<rt.length:=by omega
   have hx:=hs _ (X hlt)
   obtain⟨_,_,m1,m2⟩:=(B7a hc).2.2 _ (A35 hx).2
   rw[I1]
   simp only[C6,hlt,decide_true,if_true,D9 hlt,Q,A17,E9 hlt (smx (by omega)),hx,(A35 hx).1]
   rw[A9 (n:=v+_) (by omega) (by omega)]
   exact ih (i+1) q _ (by omega) (by omega) (by omega) (by omega)
 exact key rt.length 0 bigN 0 (by omega) (D4 (smx (by omega))) (by omega) (by omega)
theorem D2g{f:Xf}{c:X5}{s:Xb}{a start:L}{rt st:G L}{v:Xk}(hc:I4 c=T)(hs:A2i s=T)(hv:VoyOk f c s a rt v)(hl:rt.length≤1000)(h1:st.length=rt.length)
  (h2:Sailed f c s rt start rt.length st):∃r,A3x c s rt st=E r∧r≤2880∧start+v.minutes.sum≤r:=by
 obtain⟨r0,e0,p0⟩:=C7r hc hl hv.seg
 have hpos:0<rt.length:=zM.2 hv.ne
 have acc:∀i,i<rt.length→∃x m,st[i]?=E x∧v.minutes[i]?=E m∧start+(v.minutes.take (i+1)).sum≤x+m:=by
  intro i
  induction i with
  | zero=>
   intro hi
   have hm:=hv.mins 0 hi
   have hlm:0<v.minutes.length:=by rw[hv.m]; omega
   refine⟨start,_,h2.fst,hm,?_⟩
   rw[I hlm]
   have:=W hlm
   rw[hm] at this
   simp only[C] at this
   rw[← this]
   simp
  | succ i ih=>
   intro hi
   obtain⟨x,m,x1,x2,x3⟩:=ih (by omega)
   obtain⟨x',y,y1,y2,y3⟩:=h2.ord i hi (by omega)
   have hm:=hv.mins (i+1) hi
   have hm0:=hv.mins i (by omega)
   have hlm:i+1<v.minutes.length:=by rw[hv.m]; omega
   rw[x1] at y1
   rw[x2] at hm0
   simp only[C] at y1 hm0
   subst y1
   refine⟨y,_,y2,hm,?_⟩
   rw[I hlm]
   have:=W hlm
   rw[hm] at this
   simp only[C] at this
   rw[← this,List.sum_append]
   simp only[zT,List.sum_nil]
   omega
 obtain⟨x,m,x1,x2,x3⟩:=acc (rt.length - 1) (by omega)
 obtain⟨y,y1,y2,y3,_⟩:=h2.at (rt.length - 1) (by omega)
 have hm:=hv.mins (rt.length - 1) (by omega)
 rw[x1] at y1
 rw[x2] at hm
 simp only[C] at y1 hm
 subst y1
 rw[List.take_of_length_le (by rw[hv.m]; omega)] at x3
 have hseg:=hv.seg _ (X (show rt.length - 1<rt.length by omega))
 obtain⟨mb1,mb2⟩:=B1a (s:=s) hc hseg
 have hmi:(decide (0≤x)&&decide (x≤2880))=T:=by simp; omega
 unfold A3x
 simp only[e0,Q,A3e (A93 hs),hs,if_true,h1,show ¬r0<0 by omega,decide_false,U,if_false]
 rw[if_neg (by simpa using hv.ne),if_neg (by simp)]
 have ep:zU .i64 ((rt.length:L) - 1)=((rt.length - 1:O):L):=by rw[A9 (by omega) (by omega)]; omega
 rw[ep,A0q,x1,Q,A3a,Q,if_pos hmi,D9 (show rt.length - 1<rt.length by omega),Q,(A35 hseg).1,Q,A4k,Q]
 rw[A9 (n:=x+_) (by omega) (by omega)]
 exact⟨_,P,by omega,by omega⟩
structure OptOk (h:X6) (a:X8) (o:X0):Prop where
 pos:0<o.Passages.length
 len:o.Passages.length≤100
 pass:∀p∈o.Passages,p.Ship=a.Ship∧A8j h.Chart h.Fleet p=T∧A9y h.Forecast h.Chart (A34 h.Fleet a.Ship) p.Segment p.Start∧p.End=p.Start+Q7 (U0 h.Chart p.Segment) (A34 h.Fleet a.Ship)
 start:a.Ready≤o.Start∧o.Start≤a.Due
 cost:0≤o.Cost∧o.Cost≤2880
 late:∀p∈o.Passages,o.Start≤p.Start
 again:∃v,S0 h a (o.Passages.map X4.Segment)=E (v,T)∧Z7 h a v (o.Passages.map X4.Segment) o.Start=E (o,T)
theorem D7j{h:X6}{a:X8}{rt:G L}{v:Xk}(hc:I4 h.Chart=T)(hsh:idx a.Ship h.Fleet.length=T)(hs:A2i (A34 h.Fleet a.Ship)=T)
  (hv:VoyOk h.Forecast h.Chart (A34 h.Fleet a.Ship) a.From rt v) (hcv:S0 h a rt=E (v,T)) (hl:rt.length≤100) (start:L) (hr:0≤a.Ready) (h0:a.Ready≤start) (h1:start≤a.Due):∃o b,Z7 h a v rt start=E (o,b)∧(b=T→OptOk h a o):=by
 obtain⟨st,b,e1,e2⟩:=E3o hc hv (by omega) start
 have hmb:∀m∈v.minutes,1≤m∧m≤480:=fun m hm=>by
  obtain⟨i,hi,rfl⟩:=zE hm
  have hir:i<rt.length:=by rw[← hv.m]; exact hi
  have:=hv.mins i hir
  rw[W hi] at this
  simp only[C] at this
  rw[this]
  exact B1a hc (hv.seg _ (X hir))
 have hsum:∀l:G L,(∀m∈l,1≤m∧m≤480)→0≤l.sum∧l.sum≤480*(l.length:L):=fun l=>by
  induction l with
  | nil=>intro _; simp
  | cons x l ih=>
   intro hl
   have:=hl x (by simp)
   have:=ih fun m hm=>hl m (by simp[hm])
   simp only[zT,List.length_cons]
   omega
 have hml:=hv.m
 cases b with
 | false=>exact⟨_,F,by unfold Z7; rw[e1]; rfl,fun h=>by cases h⟩
 | true=>
  obtain⟨s1,s2⟩:=e2 rfl
  obtain⟨ps,p1,⟨p2,p4⟩,p3⟩:=C9v (sh:=a.Ship) hc hs hv (by omega) s1 s2.at
  obtain⟨r,r1,r2,r3⟩:=D2g hc hs hv (by omega) s1 s2
  have b0:=hsum v.minutes hmb
  have key:∀(k i n:O),i+k=v.minutes.length→k<n→A04 v start r ps n (i:L) (r - a.Ready - (v.minutes.take i).sum)=E (⟨start,r,r - a.Ready - v.minutes.sum,ps⟩,decide (r≤2880)):=by
   intro k
   induction k with
   | zero=>
    intro i n hi hn
    obtain⟨q,rfl⟩:=sn (n:=n) (by omega)
    have:i=v.minutes.length:=by omega
    subst this
    rw[List.take_length]
    simp[A04]
   | succ k ih=>
    intro i n hi hn
    obtain⟨q,rfl⟩:=sn (n:=n) (by omega)
    have hlt:i<v.minutes.length:=by omega
    have b1:=hsum (v.minutes.take i) fun m hm=>hmb m (List.mem_of_mem_take hm)
    have b2:=hmb _ (X hlt)
    have b3:((v.minutes.take i).length:L)≤100:=by simp only[List.length_take]; omega
    have ei:=ih (i+1) q (by omega) (by omega)
    rw[I hlt,List.sum_append] at ei
    simp only[zT,List.sum_nil] at ei
    rw[A04]
    simp only[C6,hlt,decide_true,if_true,D9 hlt,Q,E9 hlt (smx (by omega))]
    rw[A9 (by omega) (by omega)]
    rw[← ei]
    congr 1
    omega
  have ek:=key v.minutes.length 0 bigN (by omega) (D4 (smx (by omega)))
  simp only[List.take_zero,List.sum_nil,Int.sub_zero] at ek
  have eo:Z7 h a v rt start=E (⟨start,r,r - a.Ready - v.minutes.sum,ps⟩,decide (r≤2880)):=by
   unfold Z7
   rw[e1,Q]
   simp only[if_true,(B30 hsh).1,Q,p1,r1]
   rw[A9 (n:=r - _) (by omega) (by omega)]
   exact ek
  refine⟨_,_,eo,fun _=>⟨by simp only; rw[p2]; exact zM.2 hv.ne,by simp only; omega,fun p hp=> ?_,⟨h0,h1⟩,⟨by simp only; omega,by simp only; omega⟩,fun p hp=>(by
   obtain⟨_,_,_,_,i,hi,e⟩:=p3 p hp
   exact s2.ge hc hv.seg i hi _ e),v,by simp only[p4]; exact hcv,by simp only[p4]; rw[eo]; simp; omega⟩⟩
  obtain⟨q1,q2,q3,q4,_⟩:=p3 p hp
  refine⟨q1,?_,q4,q3⟩
  obtain⟨q5,q6,_⟩:=q4
  obtain⟨mb1,mb2⟩:=B1a (s:=A34 h.Fleet a.Ship) hc q2
  simp only[A8j,A6y,V,decide_eq_true_eq,q1]
  exact⟨hsh,q2,⟨by omega,by omega⟩,by omega,by rw[A9 (by omega) (by omega)]; exact q3⟩
def A6j(h:X6)(a:X8):N:=idx a.Ship h.Fleet.length&&(idx a.From h.Chart.Points.length&&(idx a.To h.Chart.Points.length&&(decide (a.From≠a.To)&&(A6y a.Ready&&(decide (a.Ready≤a.Due)&&decide (a.Due≤2880))))))
theorem B33(h:X6)(a:X8):A4h h a=E (A6j h a):=by
 unfold A4h A6j
 simp only[A17,Q,A3a,Y5,D01,A6y,D05]
 cases idx a.Ship h.Fleet.length<;>cases idx a.From h.Chart.Points.length<;>cases idx a.To h.Chart.Points.length<;>simp[bne_iff_ne]
theorem A82{h:X6}(s:HSmall h)(a:X8):A2u h a=E (O3 h&&A6j h a):=by
 unfold A2u
 rw[B0q s,Q,B33]
 cases O3 h<;>rfl
theorem D16{h:X6}{a:X8}(s:HSmall h)(hh:O3 h=T)(ha:A6j h a=T):∃l,K0 h a=E l∧l.length≤8∧∀o∈l,OptOk h a o:=by
 have hh':=hh
 simp only[O3,V] at hh'
 obtain⟨hf,hc,hfl,_,_⟩:=hh'
 have ha':=ha
 simp only[A6j,V,A6y,decide_eq_true_eq] at ha'
 obtain⟨i1,i2,i3,_,⟨m1,m2⟩,d1,d2⟩:=ha'
 have hs:=(B3e hfl).2 _ (B30 i1).2
 obtain⟨rt,q,b1,b2⟩:=E7f hc a.From a.To
 obtain⟨v,b,v1,v2⟩:=D8f hf hc hs rt a.From (by omega)
 obtain⟨pts,pb,t1,_⟩:=C4a hc rt a.From (by omega)
 have hcv:∃v' b',S0 h a rt=E (v',b')∧(b'=T→VoyOk h.Forecast h.Chart (A34 h.Fleet a.Ship) a.From rt v'):=by
  unfold S0 N5
  simp only[M0 (A3m hc).2.2.1,hc,Q,if_true,t1]
  have go:∀bb,∃v' b',Y8 rt h a bb=E (v',b')∧(b'=T→VoyOk h.Forecast h.Chart (A34 h.Fleet a.Ship) a.From rt v'):=fun bb=>by
   cases bb with
   | true=>exact⟨_,F,rfl,fun h=>by cases h⟩
   | false=>
    simp only[Y8,U,if_false,(B30 i1).1,Q,v1]
    exact⟨v,b,P,v2⟩
  cases pts with
  | nil=>exact go T
  | cons p0 pr=>
   rw[if_neg (by simp; omega)]
   have hlen:(p0::pr).length≤1000:=by omega
   have ep:zU .i64 (((p0::pr).length:L) - 1)=(((p0::pr).length - 1:O):L):=by rw[A9 (by omega) (by omega)]; simp
   rw[ep,D9 (show(p0::pr).length - 1<(p0::pr).length by simp),Q]
   exact go _
 obtain⟨v',b',w1,w2⟩:=hcv
 have nil_:∃l,E ([]:G X0)=E l∧l.length≤8∧∀o∈l,OptOk h a o:=⟨[],rfl,by simp,fun o ho=>by cases ho⟩
 unfold K0
 rw[A82 s,hh,ha,Q]
 simp only[Bool.and_self,if_true,b1,Q,w1]
 cases q with
 | false=>simpa using nil_
 | true=>
  simp only[if_true]
  cases b' with
  | false=>simpa using nil_
  | true=>
   simp only[if_true]
   have hv:=w2 rfl
   have key:∀(k n:O) (m:L) (l:G X0),2881 - m≤(k:L)→k<n→a.Ready≤m→l.length≤8→(∀o∈l,OptOk h a o)→∃l',L6 (rt,T) h a (v',T) n m l=E l'∧l'.length≤8∧∀o∈l',OptOk h a o:=by
    intro k
    induction k with
    | zero=>
     intro n m l hk hn hm hl ho
     obtain⟨q,rfl⟩:=sn (n:=n) (by omega)
     have:¬m≤a.Due:=by omega
     exact⟨l,by simp only[L6,this,decide_false,U,if_false],hl,ho⟩
    | succ k ih=>
     intro n m l hk hn hm hl ho
     obtain⟨q,rfl⟩:=sn (n:=n) (by omega)
     rw[L6]
     by_cases hd:m≤a.Due
     ·simp only[hd,decide_true,if_true]
      by_cases h8:(l.length:L)<8
      ·simp only[h8,decide_true,if_true]
       obtain⟨o,ob,o1,o2⟩:=D7j hc i1 hs hv w1 b2 m m1 hm hd
       rw[o1,Q]
       have wm:zU .i64 (m+15)=m+15:=A9 (by omega) (by omega)
       cases ob with
       | false=>
        simp only[U,if_false,A0k,wm]
        exact ih q (m+15) l (by omega) (by omega) (by omega) hl ho
       | true=>
        simp only[if_true,A0k,wm]
        rw[if_pos (apk (by omega) (by simp) (by omega))]
        refine ih q (m+15) _ (by omega) (by omega) (by omega) (by simp; omega) fun o' ho'=> ?_
        rcases zA.1 ho' with ho' | ho'
        ·exact ho o' ho'
        ·simp only[Y] at ho'; subst ho'; exact o2 rfl
      ·simp only[h8,decide_false,U,if_false]
       exact⟨l,P,hl,ho⟩
     ·simp only[hd,decide_false,U,if_false]
      exact⟨l,P,hl,ho⟩
   exact key 2881 bigN a.Ready [] (by omega) (by rw[A0d]; omega) (by omega) (by simp) fun o ho=>by cases ho
theorem E5m{c:X1}{l:G L}(h:CurOk c)(h0:0<l.length)(hl:l.length≤1000):∃x c',A5s c l=E (x,c')∧CurOk c'∧x∈l:=by
 obtain⟨v,c',e,h1,p,q,_⟩:=E6 (n:=(l.length:L)) h (by omega)
 have q:=q (by omega)
 obtain⟨n,rfl⟩:∃n:O,v=(n:L):=⟨v.toNat,by omega⟩
 have hn:n<l.length:=by omega
 exact⟨l[n],c',by simp only[A5s,e,Q,D9 hn],h1,X hn⟩
theorem E4q{c:X1}(h:CurOk c):∃x c',P1 c=E (x,c')∧CurOk c'∧A7w x=T:=by
 obtain⟨v1,c1,e1,h1,p1,q1,_⟩:=E6 (n:=300) h (by omega)
 obtain⟨v2,c2,e2,h2,m2⟩:=E5m (l:= [744,720,1440,372,240]) h1 (by simp) (by simp)
 have b2:4≤v2∧v2≤2880∧B21 v2=T:=by
  simp only[zJ,zD,or_false] at m2
  rcases m2 with rfl|rfl|rfl|rfl|rfl<;>exact⟨by omega,by omega,by kernel_rfl⟩
 obtain⟨v3,c3,e3,h3,p3,q3,_⟩:=E6 (n:=v2) h2 (by omega)
 have q1:=q1 (by omega); have q3:=q3 (by omega)
 refine⟨⟨v1,v2,v3⟩,c3,by simp only[P1,e1,e2,e3,Q],h3,?_⟩
 simp only[A7w,V,decide_eq_true_eq,b2.2.2]
 rw[A9 (by omega) (by omega)]
 exact⟨⟨by omega,by omega⟩,trivial,by omega,by omega⟩
theorem D00{c:X1}(h:CurOk c):∃t c',A5p c=E (t,c')∧CurOk c'∧0≤t.Mean∧t.Mean<300∧t.Parts.length≤4∧∀x∈t.Parts,A7w x=T:=by
 obtain⟨v1,c1,e1,h1,p1,q1,_⟩:=E6 (n:=300) h (by omega)
 obtain⟨v2,c2,e2,h2,p2,q2,_⟩:=E6 (n:=2) h1 (by omega)
 have q1:=q1 (by omega); have q2:=q2 (by omega)
 have key:∀(k n:O) (c:X1) (l:G Xi),k<n→CurOk c→l.length+k≤4→(∀x∈l,A7w x=T)→
   ∃t c',A0f (v1,c1) n (k:L) c.b c.i c.h l=E (t,c')∧CurOk c'∧t.Mean=v1∧t.Parts.length≤4∧∀x∈t.Parts,A7w x=T:=by
  intro k
  induction k with
  | zero=>
   intro n c l hn hc hl hx
   obtain⟨q,rfl⟩:=sn (n:=n) (by omega)
   exact⟨⟨v1,l⟩,c,by simp[A0f],hc,P,by simpa using hl,hx⟩
  | succ k ih=>
   intro n c l hn hc hl hx
   obtain⟨q,rfl⟩:=sn (n:=n) (by omega)
   obtain⟨x,c',e,h',px⟩:=E4q hc
   have e':P1 ⟨c.b,c.i,c.h⟩=E (x,c'):=e
   have hk:(0:L)<((k+1:O):L):=by omega
   rw[A0f]
   simp only[hk,decide_true,if_true,e',Q]
   rw[if_pos (apk (by omega) (by simp) (by omega)),show zU .i64 (((k+1:O):L) - 1)=(k:L) from by rw[A9 (by omega) (by omega)]; omega]
   refine ih q c' _ (by omega) h' (by simp; omega) fun y hy=> ?_
   rcases zA.1 hy with hy|hy
   ·exact hx y hy
   ·simp only[Y] at hy; exact hy▸px
 obtain⟨t,c',e3,h3,b1,b2,b3⟩:=key (1+v2).toNat bigN c2 [] (by rw[A0d]; omega) h2 (by simp; omega) fun x hx=>by cases hx
 refine⟨t,c',?_,h3,by omega,by omega,b2,b3⟩
 unfold A5p
 rw[e1,Q,e2,Q,A9 (by omega) (by omega),show(1:L)+v2=((1+v2).toNat:L) by omega]
 exact e3
def E21(l:G Xg)(v:L):Prop:=(∀j (h:j<l.length),A7j l[j]=T∧l[j].From<v)∧(∀j (h:j+1<l.length),l[j].From<l[j+1].From)∧(∀h:0<l.length,l[0].From=0)
theorem C4l{c:X1}(h:CurOk c):∃f c',A3j c=E (f,c')∧CurOk c'∧∀m,-1000≤m→m≤1000→A9d ⟨⟨m,f.Tide.Parts⟩,f.Surges⟩=T:=by
 obtain⟨t,c1,e1,h1,m1,m2,l1,px⟩:=D00 h
 obtain⟨v2,c2,e2,h2,p2,q2,_⟩:=E6 (n:=3) h1 (by omega)
 have q2:=q2 (by omega)
 have key:∀(k i n:O) (c:X1) (v:L) (l:G Xg),k<n→CurOk c→l.length=i→i+k≤3→0≤v→v≤800*(i:L)→(i=0→v=0)→(i+k≠0)→E21 l v→
   (0<i→∀j (h:j<l.length),l[j].From<v)→(∀j (h:j<l.length),l[j].From<v)→
   ∃f c',Q3 (t,c1) n v (k:L) c.b c.i c.h l=E (f,c')∧CurOk c'∧f.Tide=t∧f.Surges.length=i+k∧∃w,E21 f.Surges w:=by
  intro k
  induction k with
  | zero=>
   intro i n c v l hn hc hl hi hv0 hv1 hz hnz hs _ _
   obtain⟨q,rfl⟩:=sn (n:=n) (by omega)
   exact⟨⟨t,l⟩,c,by simp[Q3],hc,P,by simpa using hl,v,hs⟩
  | succ k ih=>
   intro i n c v l hn hc hl hi hv0 hv1 hz hnz hs _ hv
   obtain⟨q,rfl⟩:=sn (n:=n) (by omega)
   obtain⟨a,c3,e3,h3,pa,qa,_⟩:=E6 (n:=60) hc (by omega)
   obtain⟨b,c4,e4,h4,pb,qb,_⟩:=E6 (n:=60) h3 (by omega)
   obtain⟨d,c5,e5,h5,pd,qd,_⟩:=E6 (n:=700) h4 (by omega)
   have qa:=qa (by omega); have qb:=qb (by omega); have qd:=qd (by omega)
   have e3':A4 ⟨c.b,c.i,c.h⟩ 60=E (a,c3):=e3
   have hk:(0:L)<((k+1:O):L):=by omega
   rw[Q3]
   simp only[hk,decide_true,if_true,e3',e4,e5,Q]
   rw[if_pos (apk (by omega) (by simp) (by omega)),show zU .i64 (((k+1:O):L) - 1)=(k:L) from by rw[A9 (by omega) (by omega)]; omega]
   rw[A9 (n:=a - 40) (by omega) (by omega),A9 (n:=a - 40+b) (by omega) (by omega),A9 (n:=v+100) (by omega) (by omega),A9 (n:=v+100+d) (by omega) (by omega)]
   obtain⟨s1,s2,s3⟩:=hs
   have hlast:∀j (h:j<(l++ [(⟨v,a - 40,a - 40+b⟩:Xg)]).length),A7j (l++ [(⟨v,a - 40,a - 40+b⟩:Xg)])[j]=T∧(l++ [(⟨v,a - 40,a - 40+b⟩:Xg)])[j].From<v+100+d:=fun j hj=>by
    by_cases hjl:j<l.length
    ·rw[Z hjl]; exact⟨(s1 j hjl).1,by have:=(s1 j hjl).2; omega⟩
    ·have:j=l.length:=by simp at hj; omega
     subst this
     simp only[zG (Nat.le_refl _),Nat.sub_self,zB,A7j,V,decide_eq_true_eq]
     exact⟨⟨⟨by omega,by omega⟩,⟨by omega,by omega⟩,by omega,by omega⟩,by omega⟩
   obtain⟨f,c',g1,g2,g3,g4,g5⟩:=ih (i+1) q c5 (v+100+d) (l++ [⟨v,a - 40,a - 40+b⟩]) (by omega) h5 (by simp; omega) (by omega) (by omega) (by omega) (by omega) (by omega)
    ⟨hlast,fun j hj=>by
     simp only[List.length_append,zK] at hj
     by_cases hjl:j+1<l.length
     ·rw[Z hjl,Z (show j<l.length by omega)]; exact s2 j hjl
     ·have:j+1=l.length:=by omega
      rw[Z (show j<l.length by omega),zG (by omega)]
      simp only[this,Nat.sub_self,zB]
      exact(s1 j (by omega)).2,fun hp=>by
     by_cases hl0:0<l.length
     ·rw[Z hl0]; exact s3 hl0
     ·rw[zG (by omega)]
      have:l.length=0:=by omega
      simp only[Nat.zero_sub,zB]
      exact hz (by omega)⟩
    (fun _ j hj=>(hlast j hj).2) (fun j hj=>(hlast j hj).2)
   exact⟨f,c',g1,g2,g3,by omega,g5⟩
 obtain⟨f,c',e3,h3,b1,b2,w,w1,w2,w3⟩:=key (1+v2).toNat 0 bigN c2 0 [] (by rw[A0d]; omega) h2 rfl (by omega) (by omega) (by omega) (fun _=>rfl) (by omega) ⟨fun j h=>by simp at h,fun j h=>by simp at h,fun h=>by simp at h⟩ (fun h=>by omega) fun j h=>by simp at h
 refine⟨f,c',?_,h3,fun m hm1 hm2=> ?_⟩
 ·unfold A3j
  rw[e1,Q,e2,Q,A9 (by omega) (by omega),show(1:L)+v2=((1+v2).toNat:L) by omega]
  exact e3
 ·simp only[A9d,A9v,V,decide_eq_true_eq,zC,zR,b1]
  have h0:0<f.Surges.length:=by omega
  refine⟨⟨⟨hm1,hm2⟩,l1,px⟩,⟨by omega,by omega⟩,?_,fun j hj=> ?_⟩
  ·simp only[B84,W h0,decide_eq_true_eq]; exact w3 h0
  ·simp only[B75,W hj,V]
   refine⟨(w1 j hj).1,?_⟩
   cases j with
   | zero=>rfl
   | succ j=>
    have:=w2 j hj
    simp only[W (show j<f.Surges.length by omega),Bool.not_eq_true',decide_eq_false_iff_not]
    omega
theorem D3c{c:X1}(hc:CurOk c):∃x c',A5v c=E (x,c')∧CurOk c'∧I4 x=T∧(4≤x.Points.length∧1≤x.Segments.length):=by
 unfold A5v
 obtain⟨w1,c1,e1,h1⟩:=A65 (n:=2) hc (by omega)
 obtain⟨v2,c2,e2,h2,p2,q2,_⟩:=E6 (n:=300) h1 (by omega)
 obtain⟨v3,c3,e3,h3,p3,q3,_⟩:=E6 (n:=40) h2 (by omega)
 obtain⟨v4,c4,e4,h4,p4,q4,_⟩:=E6 (n:=300) h3 (by omega)
 obtain⟨v5,c5,e5,h5,p5,q5,_⟩:=E6 (n:=30) h4 (by omega)
 obtain⟨w6,c6,e6,h6⟩:=A65 (n:=2) h5 (by omega)
 obtain⟨v7,c7,e7,h7,p7,q7,_⟩:=E6 (n:=200) h6 (by omega)
 obtain⟨v8,c8,e8,h8,p8,q8,_⟩:=E6 (n:=20) h7 (by omega)
 obtain⟨w9,c9,e9,h9⟩:=A65 (n:=3) h8 (by omega)
 have q2:=q2 (by omega); have q3:=q3 (by omega); have q4:=q4 (by omega); have q5:=q5 (by omega); have q7:=q7 (by omega); have q8:=q8 (by omega)
 simp only[e1,e2,e3,e4,e5,e6,e7,e8,e9,Q]
 rw[A9 (n:=900+v2) (by omega) (by omega),A9 (n:=10+v3) (by omega) (by omega),A9 (n:=800+v4) (by omega) (by omega),A9 (n:=10+v5) (by omega) (by omega),A9 (n:=900+v7) (by omega) (by omega),A9 (n:=5+v8) (by omega) (by omega)]
 cases w9 with
 | true=>
  obtain⟨v10,c10,e10,h10,p10,q10,_⟩:=E6 (n:=300) h9 (by omega)
  obtain⟨v11,c11,e11,h11,p11,q11,_⟩:=E6 (n:=30) h10 (by omega)
  obtain⟨w12,c12,e12,h12⟩:=A65 (n:=3) h11 (by omega)
  have e12':J1 ⟨c11.b,c11.i,c11.h⟩ 3=E (w12,c12):=e12
  obtain⟨v13,c13,e13,h13,p13,q13,_⟩:=E6 (n:=300) h12 (by omega)
  have q10:=q10 (by omega); have q11:=q11 (by omega); have q13:=q13 (by omega)
  simp only[if_true,e10,e11,Q]
  rw[ifa (by simp) (by omega),A9 (n:=700+v10) (by omega) (by omega),A9 (n:=20+v11) (by omega) (by omega)]
  simp only[A15,e12',Q]
  cases w12 with
  | true=>
   simp only[if_true]
   rw[ifa (by simp) (by omega)]
   simp only[e13,Q]
   rw[ifa (by simp) (by omega),A9 (n:=800+v13) (by omega) (by omega)]
   refine⟨_,_,P,h13,B00 (by cases w1<;>cases w6<;>kernel_rfl) fun s hs=> ?_,by simp⟩
   simp only[zQ,zL,zJ,zD,or_false] at hs
   rcases hs with rfl|rfl|rfl|rfl|rfl<;>exact C6b (by omega) (by omega)
  | false=>
   simp only[U,if_false,Q]
   refine⟨_,_,P,h12,B00 (by cases w1<;>cases w6<;>kernel_rfl) fun s hs=> ?_,by simp⟩
   simp only[zQ,zL,zJ,zD,or_false] at hs
   rcases hs with rfl|rfl|rfl|rfl<;>exact C6b (by omega) (by omega)
 | false=>
  obtain⟨w12,c12,e12,h12⟩:=A65 (n:=3) h9 (by omega)
  have e12':J1 ⟨c9.b,c9.i,c9.h⟩ 3=E (w12,c12):=e12
  obtain⟨v13,c13,e13,h13,p13,q13,_⟩:=E6 (n:=300) h12 (by omega)
  have q13:=q13 (by omega)
  simp only[U,if_false,A15,e12',Q]
  cases w12 with
  | true=>
   simp only[if_true]
   rw[ifa (by simp) (by omega)]
   simp only[e13,Q]
   rw[ifa (by simp) (by omega),A9 (n:=800+v13) (by omega) (by omega)]
   refine⟨_,_,P,h13,B00 (by cases w1<;>cases w6<;>kernel_rfl) fun s hs=> ?_,by simp⟩
   simp only[zQ,zL,zJ,zD,or_false] at hs
   rcases hs with rfl|rfl|rfl|rfl<;>exact C6b (by omega) (by omega)
  | false=>
   simp only[U,if_false,Q]
   refine⟨_,_,P,h12,B00 (by cases w1<;>cases w6<;>kernel_rfl) fun s hs=> ?_,by simp⟩
   simp only[zJ,zD,or_false] at hs
   rcases hs with rfl|rfl|rfl<;>exact C6b (by omega) (by omega)
def nm:O→G UInt8
 | 0=> [115,48]
 | 1=> [115,49]
 | _=> [115,50]
structure DrawnShip (j:O) (x:Xb):Prop where
 n:x.Name=nm j
 a:10≤x.Length∧x.Length≤400
 b:100≤x.Draught∧x.Draught≤2000
 c:0≤x.Line∧x.Line≤3
 d:0≤x.Tugs∧x.Tugs≤4
theorem D18:A6a (nm 0)=T∧A6a (nm 1)=T∧A6a (nm 2)=T:=⟨by kernel_rfl,by kernel_rfl,by kernel_rfl⟩
theorem C7m{j:O}{x:Xb}(h:DrawnShip j x):A2i x=T:=by
 obtain⟨h1,h2,h3,h4,h5⟩:=h
 have hn:A6a (nm j)=T:=by
  match j with
  | 0=>exact D18.1
  | 1=>exact D18.2.1
  | _+2=>exact D18.2.2
 simp only[A2i,h1,hn,V,decide_eq_true_eq]
 exact⟨trivial,h2,h3,h4,h5⟩
def C1r(l:G Xb):Prop:=∀j (h:j<l.length),DrawnShip j l[j]
theorem E0r{l:G Xb}(h:C1r l)(hl:l.length≤3):A7m l=T:=by
 have hs:∀j (h':j<l.length),A6m l l[j].Name=(j:L):=by
  have hn:∀j (h':j<l.length),l[j].Name=nm j:=fun j h'=>(h j h').n
  match l,hl,hn with
  | [],_,_=>intro j h'; simp at h'
  | [a],_,hn=>
   have a0:a.Name=nm 0:=hn 0 (by simp)
   intro j h'
   have:j=0:=by simp at h'; omega
   subst this
   simp only[zB,a0,A6m,B4k,zK,zI,List.foldr,List.getElem?_cons_zero,decide_true,if_true]
  | [a,b],_,hn=>
   have a0:a.Name=nm 0:=hn 0 (by simp)
   have b0:b.Name=nm 1:=hn 1 (by simp)
   intro j h'
   have:j=0∨j=1:=by simp at h'; omega
   rcases this with rfl|rfl
   ·simp[a0,b0,A6m,B4k,zI,nm]
   ·simp[a0,b0,A6m,B4k,zI,nm]
  | [a,b,c],_,hn=>
   have a0:a.Name=nm 0:=hn 0 (by simp)
   have b0:b.Name=nm 1:=hn 1 (by simp)
   have c0:c.Name=nm 2:=hn 2 (by simp)
   intro j h'
   have:j=0∨j=1∨j=2:=by simp at h'; omega
   rcases this with rfl|rfl|rfl
   ·simp[a0,b0,c0,A6m,B4k,zI,nm]
   ·simp[a0,b0,c0,A6m,B4k,zI,nm]
   ·simp[a0,b0,c0,A6m,B4k,zI,nm]
  | _::_::_::_::_,hl,_=>simp at hl
 simp only[A7m,V,decide_eq_true_eq,zC,zR]
 refine⟨by omega,fun j hj=> ?_⟩
 simp only[C66,W hj,V,decide_eq_true_eq]
 exact⟨C7m (h j hj),hs j hj⟩
theorem D61{c:X1}(h:CurOk c){i:O}(hi:i≤2):∃x c',A3c c (i:L)=E (x,c')∧CurOk c'∧DrawnShip i x:=by
 obtain⟨v1,c1,e1,h1,p1,q1,_⟩:=E6 (n:=200) h (by omega)
 obtain⟨v2,c2,e2,h2,p2,q2,_⟩:=E6 (n:=500) h1 (by omega)
 obtain⟨v3,c3,e3,h3,p3,q3,_⟩:=E6 (n:=4) h2 (by omega)
 obtain⟨v4,c4,e4,h4,p4,q4,_⟩:=E6 (n:=3) h3 (by omega)
 obtain⟨v5,c5,e5,h5⟩:=A65 (n:=4) h4 (by omega)
 have q1:=q1 (by omega); have q2:=q2 (by omega); have q3:=q3 (by omega); have q4:=q4 (by omega)
 have f0:∃r,A8a (i:L)=E r∧ [115]++r=nm i∧r.length=1:=by
  have:i=0∨i=1∨i=2:=by omega
  rcases this with rfl|rfl|rfl
  ·exact⟨[48],by kernel_rfl,P,P⟩
  ·exact⟨[49],by kernel_rfl,P,P⟩
  ·exact⟨[50],by kernel_rfl,P,P⟩
 obtain⟨r,f1,f2,f3⟩:=f0
 refine⟨⟨[115]++r,40+v1,600+v2,v3,v4,v5⟩,c5,?_,h5,⟨f2,⟨by simp only; omega,by simp only; omega⟩,⟨by simp only; omega,by simp only; omega⟩,⟨by simp only; omega,by simp only; omega⟩,⟨by simp only; omega,by simp only; omega⟩⟩⟩
 unfold A3c
 simp only[f1,e1,e2,e3,e4,e5,Q]
 rw[if_pos (by rw[f3]; rfl),A9 (n:=40+v1) (by omega) (by omega),A9 (n:=600+v2) (by omega) (by omega)]
theorem D33{c:X1}(h:CurOk c):∃l c',A4z c 3=E (l,c')∧CurOk c'∧C1r l∧1≤l.length∧l.length≤3:=by
 obtain⟨v1,c1,e1,h1,p1,q1,_⟩:=E6 (n:=3) h (by omega)
 have q1:=q1 (by omega)
 have key:∀(k i n:O) (c:X1) (l:G Xb),k<n→CurOk c→l.length=i→i+k≤3→C1r l→∃l' c',W9 n (k:L) c.b c.i c.h l=E (l',c')∧CurOk c'∧C1r l'∧l'.length=i+k:=by
  intro k
  induction k with
  | zero=>
   intro i n c l hn hc hl hi hd
   obtain⟨q,rfl⟩:=sn (n:=n) (by omega)
   exact⟨l,c,by simp[W9],hc,hd,by omega⟩
  | succ k ih=>
   intro i n c l hn hc hl hi hd
   obtain⟨q,rfl⟩:=sn (n:=n) (by omega)
   obtain⟨x,c',e,h',dx⟩:=D61 (i:=l.length) hc (by omega)
   have e':A3c ⟨c.b,c.i,c.h⟩ (l.length:L)=E (x,c'):=e
   have hk:(0:L)<((k+1:O):L):=by omega
   rw[W9]
   simp only[hk,decide_true,if_true,e',Q]
   rw[if_pos (apk (by omega) (by simp) (by omega)),show zU .i64 (((k+1:O):L) - 1)=(k:L) from by rw[A9 (by omega) (by omega)]; omega]
   obtain⟨l',c2,g1,g2,g3,g4⟩:=ih (i+1) q c' (l++ [x]) (by omega) h' (by simp; omega) (by omega) fun j hj=>by
    by_cases hjl:j<l.length
    ·rw[Z hjl]; exact hd j hjl
    ·have:j=l.length:=by simp at hj; omega
     subst this
     simpa using dx
   exact⟨l',c2,g1,g2,g3,by omega⟩
 obtain⟨l,c2,e2,h2,d2,n2⟩:=key (1+v1).toNat 0 bigN c1 [] (by rw[A0d]; omega) h1 rfl (by omega) fun j h=>by simp at h
 refine⟨l,c2,?_,h2,d2,by omega,by omega⟩
 unfold A4z
 rw[e1,Q,A9 (by omega) (by omega),show(1:L)+v1=((1+v1).toNat:L) by omega]
 exact e2
theorem D1n{c:X1}(h:CurOk c):∃l c',A4r c=E (l,c')∧CurOk c'∧l.length=64∧∀x∈l,0≤x∧x≤240:=by
 have e0:A4b=E (zN 64 (0:L)):=by kernel_rfl
 have key:∀(k i n:O) (c:X1) (l:G L),i+k=64→k<n→CurOk c→l.length=64→(∀x∈l,0≤x∧x≤240)→∃l' c',R8 (zN 64 (0:L)) n (i:L) c.b c.i c.h l=E (l',c')∧CurOk c'∧l'.length=64∧∀x∈l',0≤x∧x≤240:=by
  intro k
  induction k with
  | zero=>
   intro i n c l hi hn hc hl hx
   obtain⟨q,rfl⟩:=sn (n:=n) (by omega)
   have:i=64:=by omega
   subst this
   exact⟨l,c,by simp[R8],hc,hl,hx⟩
  | succ k ih=>
   intro i n c l hi hn hc hl hx
   obtain⟨q,rfl⟩:=sn (n:=n) (by omega)
   obtain⟨v,c',e,h',p,qv,_⟩:=E6 (n:=5) hc (by omega)
   have qv:=qv (by omega)
   have e':A4 ⟨c.b,c.i,c.h⟩ 5=E (v,c'):=e
   have hlt:(i:L)<((zN 64 (0:L)).length:L):=by simp; omega
   have hw:zU .i64 ((i:L)+1)=((i+1:O):L):=by rw[A9 (by omega) (by omega)]; rfl
   rw[R8]
   simp only[hlt,decide_true,if_true,hw,e',Q,D9 (show i<l.length by omega)]
   split
   ·rw[A9 (n:=5*v) (by omega) (by omega)]
    refine ih (i+1) q c' _ (by omega) (by omega) h' (by simpa using hl) fun x hx'=> ?_
    rcases List.mem_or_eq_of_mem_set hx' with hx' | hx'
    ·exact hx x hx'
    ·subst hx'; omega
   ·exact ih (i+1) q c l (by omega) (by omega) hc hl hx
 obtain⟨l,c',e1,h1,h2,h3⟩:=key 64 0 bigN c (zN 64 0) rfl (by rw[A0d]; omega) h (by simp) fun x hx=>by
  have:=List.eq_of_mem_replicate hx
  omega
 exact⟨l,c',by unfold A4r; rw[e0,Q]; exact e1,h1,h2,h3⟩
theorem D8d{c:X1}(h:CurOk c):∃w c',A5n c=E (w,c')∧CurOk c'∧B6k w=T∧w.Moves.length≤maxLen:=by
 obtain⟨v1,c1,e1,h1,p1,q1,_⟩:=E6 (n:=4) h (by omega)
 obtain⟨v2,c2,e2,h2,p2,q2,_⟩:=E6 (n:=3) h1 (by omega)
 obtain⟨v3,c3,e3,h3,p3,q3,_⟩:=E6 (n:=60) h2 (by omega)
 obtain⟨l,c4,e4,h4,l1,l2⟩:=D1n h3
 have q1:=q1 (by omega); have q2:=q2 (by omega); have q3:=q3 (by omega)
 refine⟨⟨1+v1,1+v2,v3,l⟩,c4,?_,h4,?_,smx (by simp only; omega)⟩
 ·unfold A5n
  simp only[e1,e2,e3,e4,Q]
  rw[A9 (n:=1+v1) (by omega) (by omega),A9 (n:=1+v2) (by omega) (by omega)]
 ·simp only[B6k,A6y,V,decide_eq_true_eq,zC]
  exact⟨⟨by omega,by omega⟩,⟨by omega,by omega⟩,⟨by omega,by omega⟩,l1,l2⟩
theorem C7p{c:X1}(h:CurOk c):∃x c',A2y c=E (x,c')∧CurOk c'∧HSmall x∧O3 x=T∧1≤x.Fleet.length∧(4≤x.Chart.Points.length∧1≤x.Chart.Segments.length)∧x.Fleet.length≤3:=by
 unfold A2y
 obtain⟨f,c1,e1,h1,f1⟩:=C4l h
 obtain⟨ch,c2,e2,h2,g1,g2⟩:=D3c h1
 obtain⟨fl,c3,e3,h3,d1,d2,d3⟩:=D33 h2
 obtain⟨v4,c4,e4,h4,p4,q4,_⟩:=E6 (n:=30) h3 (by omega)
 obtain⟨v5,c5,e5,h5⟩:=A65 (n:=4) h4 (by omega)
 have q4:=q4 (by omega)
 obtain⟨w,c6,e6,h6,w1,w2⟩:=D8d h5
 have er:A38 c3=E (⟨v4,v5⟩,c5):=by simp only[A38,e4,e5,Q]
 have hm: -1000≤zU .i64 (f.Tide.Mean+150)∧zU .i64 (f.Tide.Mean+150)≤1000:=by
  have e1':=e1
  obtain⟨t,ct,et,ht,m1,m2,_⟩:=D00 h
  have:f.Tide=t:=by
   unfold A3j at e1'
   rw[et,Q] at e1'
   obtain⟨b,cb,eb,_⟩:=E6 (n:=3) ht (by omega)
   rw[eb,Q] at e1'
   have gen:∀(n:O) (a b:L) (x:G L) (y z:L) (l:G Xg),Q3 (t,ct) n a b x y z l=E (f,c1)→f.Tide=t:=by
    intro n
    induction n with
    | zero=>intro a b x y z l he; cases he
    | succ n ih=>
     intro a b x y z l he
     rw[Q3] at he
     by_cases hb:(decide ((0:L)<b))=T
     ·rw[if_pos hb] at he
      obtain⟨r1,_,he⟩:=zH.1 he
      obtain⟨r2,_,he⟩:=zH.1 he
      split at he
      ·obtain⟨r3,_,he⟩:=zH.1 he
       exact ih _ _ _ _ _ _ he
      ·cases he
     ·rw[if_neg hb] at he
      cases he
      rfl
   exact gen _ _ _ _ _ _ _ e1'
  rw[this,A9 (by omega) (by omega)]
  omega
 simp only[e1,e2,e3,er,e6,Q]
 have key:∀(k i n:O) (l:G Xb),i+k=fl.length→k<n→l.length=fl.length→C1r l→
   ∃x c',S7 (fl,c3) (w,c6) (f,c1) (ch,c2) (⟨v4,v5⟩,c5) (zU .i64 (f.Tide.Mean+150)) n (i:L) l=E (x,c')∧CurOk c'∧HSmall x∧O3 x=T∧1≤x.Fleet.length∧(4≤x.Chart.Points.length∧1≤x.Chart.Segments.length)∧x.Fleet.length≤3:=by
  intro k
  induction k with
  | zero=>
   intro i n l hi hn hl hd
   obtain⟨q,rfl⟩:=sn (n:=n) (by omega)
   have:i=fl.length:=by omega
   subst this
   have hfl:=E0r hd (by omega)
   refine⟨⟨⟨⟨zU .i64 (f.Tide.Mean+150),f.Tide.Parts⟩,f.Surges⟩,ch,l,⟨v4,v5⟩,w⟩,c6,by simp[S7],h6,⟨(A3m g1).2.2.1,fun x hx=>A93 ((B3e hfl).2 x hx),w2⟩,?_,by simp only; omega,g2,by simp only; omega⟩
   simp only[O3,f1 _ hm.1 hm.2,g1,hfl,w1,D4v,V,decide_eq_true_eq]
   exact⟨trivial,trivial,trivial,⟨by omega,by omega⟩,⟨⟩⟩
  | succ k ih=>
   intro i n l hi hn hl hd
   obtain⟨q,rfl⟩:=sn (n:=n) (by omega)
   have hlt:i<fl.length:=by omega
   have hll:i<l.length:=by omega
   rw[S7]
   simp only[C6,hlt,decide_true,if_true,D9 hll,Q,E9 hlt (smx (by omega)),zP]
   refine ih (i+1) q _ (by omega) (by omega) (by simpa using hl) fun j hj=> ?_
   have hj':j<l.length:=by simpa using hj
   have hdj:=hd j hj'
   rw[List.getElem_set]
   split
   ·rename_i hij
    subst hij
    refine⟨hdj.n,hdj.a,hdj.b,hdj.c,?_⟩
    simp only
    have:=hdj.d
    split<;>omega
   ·exact hdj
 exact key fl.length 0 bigN fl (by omega) (D4 (smx (by omega))) P d1
theorem D63{c:X1}(h:CurOk c){x:X6}{s:L}(hs:idx s x.Fleet.length=T)(h4:4≤x.Chart.Points.length):∃a c',A3f c s=E (a,c')∧CurOk c'∧A6j x a=T∧a.Ship=s∧a.Due≤1000:=by
 obtain⟨v1,c1,e1,h1,p1,q1,_⟩:=E6 (n:=30) h (by omega)
 obtain⟨v2,c2,e2,h2⟩:=A65 (n:=3) h1 (by omega)
 obtain⟨v3,c3,e3,h3,p3,q3,_⟩:=E6 (n:=400) h2 (by omega)
 have q1:=q1 (by omega); have q3:=q3 (by omega)
 have i0:idx 0 x.Chart.Points.length=T:=A67.2 ⟨by omega,by omega⟩
 have i3:idx 3 x.Chart.Points.length=T:=A67.2 ⟨by omega,by omega⟩
 unfold A3f
 simp only[e1,e2,Q,A32,e3]
 rw[A9 (n:=15*v1) (by omega) (by omega),A9 (n:=15*v1+60) (by omega) (by omega),A9 (n:=15*v1+60+v3) (by omega) (by omega)]
 have good:∀p q:L,idx p x.Chart.Points.length=T→idx q x.Chart.Points.length=T→p≠q→A6j x ⟨s,p,q,15*v1,15*v1+60+v3⟩=T:=fun p q hp hq hne=>by
  simp only[A6j,hs,hp,hq,A6y,V,decide_eq_true_eq]
  exact⟨trivial,trivial,trivial,hne,⟨by omega,by omega⟩,by omega,by omega⟩
 cases v2 with
 | true=>exact⟨_,c3,rfl,h3,good 3 0 i3 i0 (by omega),rfl,by simp only; omega⟩
 | false=>exact⟨_,c3,rfl,h3,good 0 3 i0 i3 (by omega),rfl,by simp only; omega⟩
end Go.Vi
