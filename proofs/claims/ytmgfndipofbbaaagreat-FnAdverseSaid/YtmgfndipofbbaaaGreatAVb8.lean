/-
Plain laws. No condition.
-/
import Derived.Test.YtmgfndipofbbaaaGreatAVa8
import Derived.KernelRfl
namespace Go.Vi
set_option linter.all false
open Option renaming bind_some → G, bind_eq_some_iff → C, some → E
open Bool renaming false_eq_true → H, and_eq_true → L, true → T, false → F
open List renaming getElem?_eq_getElem → N, getElem_mem → O, mem_singleton → P, getElem_append_left → Q, mem_append → U, getElem_cons_zero → V, all_eq_true → W, not_mem_nil → X, getElem?_append_left → Y, getElem_append_right → Z, range' → I, mem_cons → zA, length_singleton → zB, nil_append → zC, getElem_of_mem → zD, length_pos_iff → zE, replicate → zF, cons_append → zJ, mem_range → zK
open Int renaming tdiv_eq_ediv_of_nonneg → zG, toNat_natCast → zH, tdiv → zI
open IntKind renaming wrap → zL
theorem B8e{t:XTide}{m:Int}(ht:A8y t=T)(h0:0≤m)(h1:m≤2880):∃r,A16 t m=E r∧ -1000000000000≤r∧r≤1000000000000:=by
 have ht':=ht
 simp only[A8y,L,decide_eq_true_eq,W] at ht
 obtain⟨hmean,hl,hp⟩:=ht
 have hlm:t.Parts.length≤maxLen:=by rw[F8]; omega
 have key:∀(k i n:Nat) (v:Int),i+k=t.Parts.length→k<n→ -(1000+20000000000*(i:Int))≤v→v≤1000+20000000000*(i:Int)→∃r,Q9 m t n v (i:Int)=E r∧ -(1000+20000000000*(t.Parts.length:Int))≤r∧r≤1000+20000000000*(t.Parts.length:Int):=by
  intro k
  induction k with
  | zero=>
   intro i n v hi hn v1 v2
   obtain⟨q,rfl⟩:=sn (n:=n) (by omega)
   have:i=t.Parts.length:=by omega
   subst this
   exact⟨v,by simp[Q9],v1,v2⟩
  | succ k ih=>
   intro i n v hi hn v1 v2
   obtain⟨q,rfl⟩:=sn (n:=n) (by omega)
   have hlt:i<t.Parts.length:=by omega
   have hx:=hp _ (O hlt)
   simp only[A6s,L,decide_eq_true_eq] at hx
   obtain⟨⟨am1,am2⟩,hx1,hx2,hx3⟩:=hx
   obtain⟨p1,p2,_⟩:=C1n hx1
   rw[B1 (by omega) (by omega)] at hx3
   have hw:=B1 (n:=m+t.Parts[i].Phase) (by omega) (by omega)
   have hnn:0≤m+t.Parts[i].Phase:=by omega
   have hmm:Int.tmod (m+t.Parts[i].Phase) t.Parts[i].Period=(m+t.Parts[i].Phase) % t.Parts[i].Period:=Int.tmod_eq_emod_of_nonneg hnn
   have w:=C9a (x:=(m+t.Parts[i].Phase) % t.Parts[i].Period) (p:=t.Parts[i].Period) (Int.emod_nonneg _ (by omega)) (Int.emod_lt_of_pos _ (by omega)) p1 p2
   rw[← hmm] at w
   generalize hwv:B49 (Int.tmod (m+t.Parts[i].Phase) t.Parts[i].Period) t.Parts[i].Period=wv at w
   have mm:=A8o (a:=t.Parts[i].Amp) (b:=wv) (A:=1000) (B:=200000000000) (by omega) (by omega) (by omega) (by omega)
   have hd: -20000000000≤zI (t.Parts[i].Amp*wv) 10000∧zI (t.Parts[i].Amp*wv) 10000≤20000000000:=by
    generalize t.Parts[i].Amp*wv=z at mm
    by_cases ha:0≤z
    ·rw[zG ha]; omega
    ·obtain⟨c,rfl⟩:∃c,z= -c:=⟨-z,by omega⟩
     rw[Int.neg_tdiv,zG (by omega)]; omega
   obtain⟨r,e1,e2,e3⟩:=ih (i+1) q (zL .i64 (v+zL .i64 (zI (zL .i64 (t.Parts[i].Amp*wv)) 10000))) (by omega) (by omega)
    (by rw[B1 (n:=t.Parts[i].Amp*wv) (by omega) (by omega),B1 (n:=zI _ _) (by omega) (by omega),B1 (by omega) (by omega)]; omega)
    (by rw[B1 (n:=t.Parts[i].Amp*wv) (by omega) (by omega),B1 (n:=zI _ _) (by omega) (by omega),B1 (by omega) (by omega)]; omega)
   rw[← H8 hlt hlm] at e1
   refine⟨r,?_,e2,e3⟩
   simp only[Q9,Z1,N hlt,G,E1,hlt,decide_true,if_true,hw,C56 hx1 (show 0≤m+t.Parts[i].Phase by omega) (by omega),hwv]
   exact e1
 obtain⟨r,e1,e2,e3⟩:=key t.Parts.length 0 bigN t.Mean (by omega) (E9 hlm) (by omega) (by omega)
 exact⟨r,e1,by omega,by omega⟩
theorem B89{f:XForecast}{m:Int}(h0:0<f.Surges.length)(h6:f.Surges.length≤6):∃(a:Nat) (ha:a<f.Surges.length),Y7 f m=E (a:Int):=by
 have hl:f.Surges.length≤maxLen:=by rw[F8]; omega
 have key:∀(k i n a:Nat) (ha:a<f.Surges.length),i+k=f.Surges.length→k<n→∃(a':Nat) (ha':a'<f.Surges.length),I6 m f n (a:Int) (i:Int)=E (a':Int):=by
  intro k
  induction k with
  | zero=>
   intro i n a ha hi hn
   obtain⟨q,rfl⟩:=sn (n:=n) (by omega)
   have:i=f.Surges.length:=by omega
   subst this
   exact⟨a,ha,by simp[I6]⟩
  | succ k ih=>
   intro i n a ha hi hn
   obtain⟨q,rfl⟩:=sn (n:=n) (by omega)
   have hlt:i<f.Surges.length:=by omega
   by_cases hm:f.Surges[i].From≤m
   ·obtain⟨a',ha',e1⟩:=ih (i+1) q i hlt (by omega) (by omega)
    rw[← H8 hlt hl] at e1
    refine⟨a',ha',?_⟩
    simp only[I6,Z1,N hlt,G,E1,hlt,decide_true,if_true,hm]
    exact e1
   ·obtain⟨a',ha',e1⟩:=ih (i+1) q a ha (by omega) (by omega)
    rw[← H8 hlt hl] at e1
    refine⟨a',ha',?_⟩
    simp only[I6,Z1,N hlt,G,E1,hlt,decide_true,if_true,hm,decide_false,H,if_false]
    exact e1
 obtain⟨a,ha,e1⟩:=key f.Surges.length 0 bigN 0 h0 (by omega) (E9 hl)
 exact⟨a,ha,e1⟩
theorem E5y{f:XForecast}{m:Int}(hf:A7a f=T)(h0:0≤m)(h1:m≤2880):∃r,H5 f m=E r∧L4 f [0] m=E r∧ -2000000000000≤r∧r≤2000000000000:=by
 obtain⟨ht,s0,s6⟩:=C5j hf
 obtain⟨t,e1,b1,b2⟩:=B8e ht h0 h1
 obtain⟨a,ha,e2⟩:=B89 (m:=m) s0 s6
 have hs:=B6f hf a ha
 have w:=B1 (n:=t+f.Surges[a].Low) (by omega) (by omega)
 have e3:H5 f m=E (t+f.Surges[a].Low):=by
  unfold H5
  rw[e1,G,e2,G,F2 ha,G,w]
 refine⟨t+f.Surges[a].Low,e3,?_,by omega,by omega⟩
 unfold L4 P6
 have e4:P3 f m=E (t+f.Surges[a].High):=by
  unfold P3
  rw[e1,G,e2,G,F2 ha,G,B1 (by omega) (by omega)]
 rw[e3,G,e4,G]
 obtain⟨x,hx⟩:=C76 (xs:= [0]) (m:=m) (by decide) (by decide) h0 h1
 have hx0:x=0:=by
  unfold ix at hx
  split at hx
  ·have:=List.mem_of_getElem? hx; simpa using this
  ·cases hx
 unfold B85 at hx
 rw[hx]
 simp only[G,hx0,Int.mul_zero]
 rw[show zL .i64 0=0 from rfl,show zI 0 1000=0 from rfl,show zL .i64 0=0 from rfl,Int.add_zero,w]
def A87(f:XForecast)(m:Int):Int:=(H5 f m).getD 0
theorem B5f{f:XForecast}{m:Int}(hf:A7a f=T)(h0:0≤m)(h1:m≤2880):H5 f m=E (A87 f m)∧L4 f [0] m=E (A87 f m)∧ -2000000000000≤A87 f m∧A87 f m≤2000000000000:=by
 obtain⟨r,e1,e2,b1,b2⟩:=E5y hf h0 h1
 have:A87 f m=r:=by simp[A87,e1]
 rw[this]
 exact⟨e1,e2,b1,b2⟩
theorem apk{n k b:Nat}(h:n≤100000000)(hk:k≤1000)(hb:b≤1000):D4 n k b=T:=by
 have:(n+k)*b≤100001000*1000:=Nat.mul_le_mul (by omega) hb
 simp only[D4,decide_eq_true_eq]
 omega
def WinIn(p:Int→Bool)(m:Int)(l:List XWindow):Prop:=∀w∈l,0≤w.From∧w.From≤w.To∧w.To<m∧∀k,w.From≤k→k≤w.To→p k=T
theorem WinIn.more{p:Int→Bool}{m:Int}{l:List XWindow}(h:WinIn p m l):WinIn p (m+1) l:=fun w hw=>by
 obtain⟨a,b,c,d⟩:=h w hw
 exact⟨a,b,by omega,d⟩
theorem WinIn.app{p:Int→Bool}{m:Int}{l:List XWindow}{x:XWindow}(h:WinIn p m l)(hx:WinIn p m [x]):WinIn p m (l++ [x]):=fun w hw=>by
 rcases U.1 hw with hw|hw
 ·exact h w hw
 ·exact hx w hw
theorem C5x{α:Type}(l:List α)(x y:α):(l++ [x]).set l.length y=l++ [y]:=by simp
theorem D1z{f:Int→Option Bool}{p:Int→Bool}(hf:∀m,0≤m→m≤2880→f m=E (p m)):∃l,A4p f=E l∧WinIn p 2881 l∧l.length≤2881:=by
 have key:∀(k n:Nat) (b:Bool) (m:Int) (l:List XWindow),m+(k:Int)=2881→k<n→0≤m→(l.length:Int)≤m→(b=F→WinIn p m l)→
   (b=T→∃l0 x,l=l0++ [x]∧WinIn p m l0∧0≤x.From∧x.From<m∧x.To=m - 1∧∀k,x.From≤k→k<m→p k=T)→∃r,I0 f n b m l=E r∧WinIn p 2881 r∧r.length≤2881:=by
  intro k
  induction k with
  | zero=>
   intro n b m l hk hn hm hl hF hT
   obtain⟨q,rfl⟩:=sn (n:=n) (by omega)
   have:¬m≤2880:=by omega
   refine⟨l,by rw[I0]; simp only[this,decide_false,H,if_false],?_,by omega⟩
   have hm':m=2881:=by omega
   subst hm'
   cases b with
   | false=>exact hF rfl
   | true=>
    obtain⟨l0,x,rfl,h0,a1,a2,a3,a4⟩:=hT rfl
    refine h0.app fun w hw=> ?_
    simp only[P] at hw
    subst hw
    exact⟨a1,by omega,by omega,fun k h1 h2=>a4 k h1 (by omega)⟩
  | succ k ih=>
   intro n b m l hk hn hm hl hF hT
   obtain⟨q,rfl⟩:=sn (n:=n) (by omega)
   have hle:m≤2880:=by omega
   rw[I0]
   simp only[hle,decide_true,if_true,hf m hm hle,G]
   have w1:zL .i64 (m+1)=m+1:=B1 (by omega) (by omega)
   have last:∀(l0:List XWindow) (x:XWindow),zL .i64 (((l0++ [x]).length:Int) - 1)=(l0.length:Int)∨3000<l0.length:=fun l0 x=>by
    by_cases hb:l0.length≤3000
    ·left; rw[B1 (by simp<;>omega) (by simp<;>omega)]; simp
    ·right; omega
   cases hp:p m with
   | false=>
    simp only[H,if_false,T4,w1]
    refine ih q F (m+1) l (by omega) (by omega) (by omega) (by omega) (fun _=> ?_) (fun h=>by cases h)
    cases b with
    | false=>exact(hF rfl).more
    | true=>
     obtain⟨l0,x,rfl,h0,a1,a2,a3,a4⟩:=hT rfl
     refine h0.more.app fun w hw=> ?_
     simp only[P] at hw
     subst hw
     exact⟨a1,by omega,by omega,fun k h1 h2=>a4 k h1 (by omega)⟩
   | true=>
    simp only[if_true]
    cases b with
    | true=>
     obtain⟨l0,x,rfl,h0,a1,a2,a3,a4⟩:=hT rfl
     simp only[List.length_append,zB] at hl
     simp only[if_true,Y5,T4,w1]
     have e:=(last l0 x).resolve_right (by omega)
     have e2:ix (l0++ [x]) (l0.length:Int)=E x:=by rw[Z1]; simp
     rw[e,e2,G,zH,C5x]
     refine ih q T (m+1) _ (by omega) (by omega) (by omega) (by simp; omega) (fun h=>by cases h) (fun _=>⟨l0,_,rfl,h0.more,a1,by simp; omega,by simp,fun k h1 h2=> ?_⟩)
     simp only at h1
     by_cases hk:k=m
     ·exact hk▸hp
     ·exact a4 k h1 (by omega)
    | false=>
     simp only[H,if_false]
     rw[if_pos (apk (by omega) (by simp) (by omega))]
     simp only[Y5,T4,w1]
     have e:=(last l ⟨m,0⟩).resolve_right (by omega)
     have e2:ix (l++ [(⟨m,0⟩:XWindow)]) (l.length:Int)=E ⟨m,0⟩:=by rw[Z1]; simp
     rw[e,e2,G,zH,C5x]
     refine ih q T (m+1) _ (by omega) (by omega) (by omega) (by simp; omega) (fun h=>by cases h) (fun _=>⟨l,_,rfl,(hF rfl).more,hm,by simp; omega,by simp,fun k h1 h2=> ?_⟩)
     simp only at h1
     have:k=m:=by omega
     exact this▸hp
 exact key 2881 bigN F 0 [] (by omega) (by rw[T8]; omega) (by omega) (by simp) (fun _ w hw=>by cases hw) (fun h=>by cases h)
theorem C5m(l:List XWindow)(hl:l.length≤100000)(hb:∀w∈l,0≤w.From∧w.To≤2880):∃b,A2z l=E b:=by
 have key:∀(k i n:Nat),i+k=l.length→k<n→∃b,O6 l n (i:Int)=E b:=by
  intro k
  induction k with
  | zero=>
   intro i n hi hn
   obtain⟨q,rfl⟩:=sn (n:=n) (by omega)
   have:i=l.length:=by omega
   subst this
   exact⟨T,by simp[O6]⟩
  | succ k ih=>
   intro i n hi hn
   obtain⟨q,rfl⟩:=sn (n:=n) (by omega)
   have hlt:i<l.length:=by omega
   obtain⟨b,e⟩:=ih (i+1) q (by omega) (by omega)
   rw[← H8 hlt (by rw[F8]; omega)] at e
   rw[O6]
   simp only[E1,hlt,decide_true,if_true,F2 hlt,G]
   by_cases c1:l[i].From<0
   ·exact⟨F,by simp only[c1,decide_true,if_true]⟩
   by_cases c2:l[i].To<l[i].From
   ·exact⟨F,by simp only[c1,c2,decide_true,decide_false,H,if_false,if_true]⟩
   by_cases c3:2880<l[i].To
   ·exact⟨F,by simp only[c1,c2,c3,decide_true,decide_false,H,if_false,if_true]⟩
   simp only[c1,c2,c3,decide_false,H,if_false]
   by_cases c4:(0:Int)<(i:Int)
   ·have e4:zL .i64 ((i:Int) - 1)=((i - 1:Nat):Int):=by rw[B1 (by omega) (by omega)]; omega
    simp only[c4,decide_true,if_true,e4,F2 (show i - 1<l.length by omega),G]
    by_cases c5:l[i].From≤zL .i64 (l[i - 1].To+1)
    ·exact⟨F,by simp only[c5,decide_true,if_true]⟩
    ·exact⟨b,by simp only[c5,decide_false,H,if_false]; exact e⟩
   ·exact⟨b,by simp only[c4,decide_false,H,if_false]; exact e⟩
 exact key l.length 0 bigN (by omega) (E9 (by rw[F8]; omega))
def A7g(p:Int→Bool)(a:Int)(l:List XWindow):Prop:=∀w∈l,0≤w.From∧w.From≤w.To∧w.To≤2880∧∀k,w.From≤k→k≤w.To→k+a≤2880∧∀m,k≤m→m≤k+a→p m=T
theorem D3k{p:Int→Bool}{l:List XWindow}{a:Int}(hl:l.length≤3000)(h:WinIn p 2881 l):∃r,A0f l a=E r∧A7g p a r∧r.length≤3000:=by
 unfold A0f
 obtain⟨b,e⟩:=C5m l (by omega) fun w hw=>⟨(h w hw).1,by have:=(h w hw).2.2.1; omega⟩
 rw[e,G,Z4]
 have hnil:∃r,E ([]:List XWindow)=E r∧A7g p a r∧r.length≤3000:=⟨[],rfl,(fun w hw=>by cases hw),by simp⟩
 cases b with
 | false=>simpa using hnil
 | true=>
  simp only[if_true,G]
  cases ha:(decide (0≤a)&&decide (a≤2880)) with
  | false=>simpa using hnil
  | true=>
   simp only[L,decide_eq_true_eq] at ha
   simp only[if_true]
   have key:∀(k i n:Nat) (acc:List XWindow),i+k=l.length→k<n→acc.length≤i→A7g p a acc→∃r,K9 a l n (i:Int) acc=E r∧A7g p a r∧r.length≤3000:=by
    intro k
    induction k with
    | zero=>
     intro i n acc hi hn hc hs
     obtain⟨q,rfl⟩:=sn (n:=n) (by omega)
     have:i=l.length:=by omega
     subst this
     exact⟨acc,by simp[K9],hs,by omega⟩
    | succ k ih=>
     intro i n acc hi hn hc hs
     obtain⟨q,rfl⟩:=sn (n:=n) (by omega)
     have hlt:i<l.length:=by omega
     obtain⟨a1,a2,a3,a4⟩:=h _ (O hlt)
     rw[K9]
     simp only[E1,hlt,decide_true,if_true,F2 hlt,G,H8 hlt (show l.length≤maxLen by rw[F8]; omega)]
     rw[B1 (n:=l[i].To - l[i].From) (by omega) (by omega),B1 (n:=l[i].To - a) (by omega) (by omega)]
     by_cases c:a≤l[i].To - l[i].From
     ·simp only[c,decide_true,if_true]
      rw[if_pos (apk (by omega) (by simp) (by omega))]
      refine ih (i+1) q _ (by omega) (by omega) (by simp; omega) fun w hw=> ?_
      rcases U.1 hw with hw|hw
      ·exact hs w hw
      ·simp only[P] at hw
       subst hw
       refine⟨a1,by simp only; omega,by simp only; omega,fun k h1 h2=> ?_⟩
       simp only at h1 h2
       exact⟨by omega,fun m h3 h4=>a4 m (by omega) (by omega)⟩
     ·simp only[c,decide_false,H,if_false]
      exact ih (i+1) q acc (by omega) (by omega) (by omega) hs
   exact key l.length 0 bigN [] (by omega) (E9 (by rw[F8]; omega)) (by simp) fun w hw=>by cases hw
theorem E55{l:List XWindow}{a:Int}(hl:l.length≤100000):∃b,A4w l a=E b∧(b=T→∃w∈l,w.From≤a∧a≤w.To):=by
 have key:∀(k i n:Nat),i+k=l.length→k<n→∃b,T7 a l n (i:Int)=E b∧(b=T→∃w∈l,w.From≤a∧a≤w.To):=by
  intro k
  induction k with
  | zero=>
   intro i n hi hn
   obtain⟨q,rfl⟩:=sn (n:=n) (by omega)
   have:i=l.length:=by omega
   subst this
   exact⟨F,by simp[T7],fun h=>by cases h⟩
  | succ k ih=>
   intro i n hi hn
   obtain⟨q,rfl⟩:=sn (n:=n) (by omega)
   have hlt:i<l.length:=by omega
   rw[T7]
   simp only[E1,hlt,decide_true,if_true,F2 hlt,G,T6,H8 hlt (show l.length≤maxLen by rw[F8]; omega)]
   cases c:(decide (l[i].From≤a)&&decide (a≤l[i].To)) with
   | true=>
    simp only[L,decide_eq_true_eq] at c
    exact⟨T,by simp only[if_true],fun _=>⟨_,O hlt,c⟩⟩
   | false=>
    simp only[H,if_false]
    exact ih (i+1) q (by omega) (by omega)
 exact key l.length 0 bigN (by omega) (E9 (by rw[F8]; omega))
theorem E2p{l:List XWindow}{a:Int}(hl:l.length≤100000)(hb:∀w∈l,0≤w.From∧w.From≤w.To∧w.To≤2880):∃r,A13 l a=E r∧(r= -1∨(a≤r∧∃w∈l,w.From≤r∧r≤w.To)):=by
 unfold A13
 obtain⟨b,e⟩:=C5m l hl fun w hw=>⟨(hb w hw).1,(hb w hw).2.2⟩
 rw[e,G]
 cases b with
 | false=>exact⟨-1,by simp,Or.inl rfl⟩
 | true=>
  simp only[if_true]
  have key:∀(k i n:Nat),i+k=l.length→k<n→∃r,R4 a l n (i:Int)=E r∧(r= -1∨(a≤r∧∃w∈l,w.From≤r∧r≤w.To)):=by
   intro k
   induction k with
   | zero=>
    intro i n hi hn
    obtain⟨q,rfl⟩:=sn (n:=n) (by omega)
    have:i=l.length:=by omega
    subst this
    exact⟨-1,by simp[R4],Or.inl rfl⟩
   | succ k ih=>
    intro i n hi hn
    obtain⟨q,rfl⟩:=sn (n:=n) (by omega)
    have hlt:i<l.length:=by omega
    rw[R4]
    simp only[E1,hlt,decide_true,if_true,F2 hlt,G,H8 hlt (show l.length≤maxLen by rw[F8]; omega)]
    by_cases c:a≤l[i].To
    ·simp only[c,decide_true,if_true]
     by_cases d:l[i].From<a
     ·exact⟨a,by simp only[d,if_true],Or.inr ⟨Int.le_refl a,_,O hlt,by omega,c⟩⟩
     ·exact⟨l[i].From,by simp only[d,if_false],Or.inr ⟨by omega,_,O hlt,Int.le_refl _,(hb _ (O hlt)).2.1⟩⟩
    ·simp only[c,decide_false,H,if_false]
     exact ih (i+1) q (by omega) (by omega)
  exact key l.length 0 bigN (by omega) (E9 (by rw[F8]; omega))
def A80(f:XForecast)(c:XChart)(i:Int)(s:XShip)(m:Int):Bool:=decide (A62 c i s≤A87 f m)
theorem smx{n:Nat}(h:n≤1000000):n≤maxLen:=by rw[F8]; omega
theorem A4z{c:XChart}(h:J3 c=T):c.Points.length≤8∧c.Segments.length≤10∧(∀x∈c.Points,x.Name.length≤maxLen)∧∀x∈c.Segments,idx x.A c.Points.length=T∧idx x.B c.Points.length=T:=by
 simp only[J3,L,decide_eq_true_eq,W,zK] at h
 obtain⟨h1,h2,h3,h4⟩:=h
 refine⟨h1,h2,fun x hx=> ?_,fun x hx=> ?_⟩
 ·obtain⟨i,hi,rfl⟩:=zD hx
  have:=h3 i hi
  simp only[C5a,N hi,L] at this
  exact smx (by have:=(C6p this.1).2; omega)
 ·obtain⟨i,hi,rfl⟩:=zD hx
  have:=h4 i hi
  simp only[A8j,N hi,L,decide_eq_true_eq] at this
  exact⟨this.1,this.2.1⟩
theorem A7d{s:XShip}(h:Z8 s=T):s.Name.length≤maxLen:=smx (by have:=(C6p (D0z h).1).2; omega)
theorem B93{c:XChart}{s:XShip}{i:Int}(hc:J3 c=T)(hi:idx i c.Segments.length=T):1≤V2 (W2 c i) s∧V2 (W2 c i) s≤480:=by
 obtain⟨_,_,a,b⟩:=(B4n hc).2.2 _ (A3v hi).2
 unfold V2
 split
 ·rw[B1 (n:=2*_) (by omega) (by omega)]; omega
 ·omega
theorem E1i{f:XForecast}{c:XChart}{s:XShip}{i:Int}(hf:A7a f=T)(hc:J3 c=T)(hs:Z8 s=T)(hi:idx i c.Segments.length=T) :
  ∃l,A18 f c i s=E l∧A7g (A80 f c i s) (V2 (W2 c i) s) l∧l.length≤3000:=by
 have hn:=(A4z hc).2.2.1
 have hm:=A7d hs
 obtain⟨ws,e1,e2,e3⟩:=D1z (f:=fun z0=>A00 z0 f (A62 c i s)) (p:=A80 f c i s) fun m h0 h1=>by
  simp only[A00,(B5f hf h0 h1).1,G,A80]
 obtain⟨r,e4,e5,e6⟩:=D3k (a:=V2 (W2 c i) s) (by omega) e2
 refine⟨r,?_,e5,e6⟩
 unfold A18 A1c A33 A4u
 simp only[A1n,O3 hn,A2k hm,hf,hc,hs,hi,G,if_true,A28,B0s hn hm hc hs hi,e1,(A3v hi).1,A3r,e4]
def A99(x:XSegment)(a:Int):Int:=if a=x.A then x.B else if a=x.B then x.A else -1
theorem E54(x:XSegment)(a:Int):Y2 x a=E (A99 x a):=by
 unfold Y2 A99
 by_cases h1:a=x.A
 ·rw[if_pos (by simpa using h1),if_pos h1]
 ·rw[if_neg (by simpa using h1),if_neg h1]
  by_cases h2:a=x.B
  ·rw[if_pos (by simpa using h2),if_pos h2]
  ·rw[if_neg (by simpa using h2),if_neg h2]
theorem C73{c:XChart}(hc:J3 c=T){x:XSegment}(hx:x∈c.Segments)(a:Int):A99 x a= -1∨idx (A99 x a) c.Points.length=T:=by
 obtain⟨h1,h2⟩:=(A4z hc).2.2.2 x hx
 unfold A99
 split
 ·exact Or.inr h2
 ·split
  ·exact Or.inr h1
  ·exact Or.inl rfl
theorem A7i{i:Int}{n:Nat}:idx i n=T↔0≤i∧i<(n:Int):=by simp[idx]
theorem ix8(y:X_8_bool){i:Int}(h0:0≤i)(h1:i<8):∃b,ix ([y.i0,y.i1,y.i2,y.i3,y.i4,y.i5,y.i6,y.i7]:List Bool) i=E b:=by
 obtain⟨n,rfl⟩:∃n:Nat,i=(n:Int):=⟨i.toNat,by omega⟩
 exact⟨_,F2 (show n<([y.i0,y.i1,y.i2,y.i3,y.i4,y.i5,y.i6,y.i7]:List Bool).length by simp; omega)⟩
theorem C1v{c:XChart}(hc:J3 c=T)(rt:List Int)(a:Int)(hl:rt.length≤1000):∃l b,S3 c a rt=E (l,b)∧l.length≤rt.length+1∧(∀x∈l,idx x c.Points.length=T)∧
  (b=T→l.length=rt.length+1∧∀x∈rt,idx x c.Segments.length=T):=by
 obtain⟨hp8,hs10,_,_⟩:=A4z hc
 have none_:∃l b,(E (([]:List Int),F):Option (List Int × Bool))=E (l,b)∧l.length≤rt.length+1∧(∀x∈l,idx x c.Points.length=T)∧(b=T→l.length=rt.length+1∧∀x∈rt,idx x c.Segments.length=T):=
  ⟨[],F,rfl,by simp,(fun x hx=>by cases hx),fun h=>by cases h⟩
 have key:∀(k i n:Nat) (v5:Int) (v7:X_8_bool) (v8:List Int),i+k=rt.length→k<n→v8.length=i+1→(∀x∈v8,idx x c.Points.length=T)→(∀j (h:j<rt.length),j<i→idx rt[j] c.Segments.length=T)→
   ∃l b,I2 rt c n v5 (i:Int) v7 v8=E (l,b)∧l.length≤rt.length+1∧(∀x∈l,idx x c.Points.length=T)∧(b=T→l.length=rt.length+1∧∀x∈rt,idx x c.Segments.length=T):=by
  intro k
  induction k with
  | zero=>
   intro i n v5 v7 v8 hi hn h8 h9 hj
   obtain⟨q,rfl⟩:=sn (n:=n) (by omega)
   have:i=rt.length:=by omega
   subst this
   refine⟨v8,T,by simp[I2],by omega,h9,fun _=>⟨h8,fun x hx=> ?_⟩⟩
   obtain⟨j,hj',rfl⟩:=zD hx
   exact hj j hj' hj'
  | succ k ih=>
   intro i n v5 v7 v8 hi hn h8 h9 hj
   obtain⟨q,rfl⟩:=sn (n:=n) (by omega)
   have hlt:i<rt.length:=by omega
   rw[I2]
   simp only[E1,hlt,decide_true,if_true,F2 hlt,G,A28]
   cases hx:idx rt[i] c.Segments.length with
   | false=>simpa using none_
   | true=>
    simp only[if_true,(A3v hx).1,G,E54]
    have he:=C73 hc (A3v hx).2 v5
    generalize A99 (W2 c rt[i]) v5=r at he
    by_cases h0:r<0
    ·simp only[h0,decide_true,if_true,N9]
     exact none_
    ·have hr:=he.resolve_left (by omega)
     have hr':=A7i.1 hr
     have hd:(decide (0≤r)&&decide (r<8))=T:=by simp; omega
     simp only[h0,decide_false,H,if_false,hd,if_true]
     obtain⟨b,e⟩:=ix8 v7 hr'.1 (by omega)
     rw[e,G]
     cases b with
     | true=>simp only[N9,if_true]; exact none_
     | false=>
      simp only[N9,H,if_false,hd,if_true]
      rw[if_pos (apk (by omega) (by simp) (by omega)),H8 hlt (smx (by omega))]
      refine ih (i+1) q _ _ _ (by omega) (by omega) (by simp; omega) (fun x hx=> ?_) fun j h1 h2=> ?_
      ·rcases U.1 hx with hx|hx
       ·exact h9 x hx
       ·simp only[P] at hx; exact hx▸hr
      ·by_cases hji:j=i
       ·subst hji; exact hx
       ·exact hj j h1 (by omega)
 unfold S3
 rw[A28,G]
 cases ha:idx a c.Points.length with
 | false=>simpa using none_
 | true=>
  have ha':=A7i.1 ha
  have hd:(decide (0≤a)&&decide (a<8))=T:=by simp; omega
  simp only[if_true,hd]
  exact key rt.length 0 bigN _ _ _ (by omega) (E9 (smx (by omega))) (by simp) (by simpa using ha) fun j h1 h2=>by omega
theorem B1o{c:XChart}(hc:J3 c=T)(rt:List Int)(hl:rt.length≤1000):∃r,S2 c rt=E r:=by
 unfold S2
 rw[O3 (A4z hc).2.2.1,hc,G,if_pos rfl]
 have key:∀(k i n:Nat) (v:Int),i+k=rt.length→k<n→∃r,O1 rt c n v (i:Int)=E r:=by
  intro k
  induction k with
  | zero=>
   intro i n v hi hn
   obtain⟨q,rfl⟩:=sn (n:=n) (by omega)
   have:i=rt.length:=by omega
   subst this
   exact⟨v,by simp[O1]⟩
  | succ k ih=>
   intro i n v hi hn
   obtain⟨q,rfl⟩:=sn (n:=n) (by omega)
   have hlt:i<rt.length:=by omega
   rw[O1]
   simp only[E1,hlt,decide_true,if_true,F2 hlt,G,A28,H8 hlt (smx (by omega))]
   cases hx:idx rt[i] c.Segments.length with
   | false=>exact⟨-1,by simp⟩
   | true=>
    simp only[if_true,(A3v hx).1,G]
    exact ih (i+1) q _ (by omega) (by omega)
 exact key rt.length 0 bigN 0 (by omega) (E9 (smx (by omega)))
structure VoyOk (f:XForecast) (c:XChart) (s:XShip) (a:Int) (rt:List Int) (v:Xvoyage):Prop where
 ne:rt≠ []
 w:v.waits.length=rt.length
 m:v.minutes.length=rt.length
 u:v.sure.length=rt.length
 seg:∀x∈rt,idx x c.Segments.length=T
 mins:∀i (h:i<rt.length),v.minutes[i]?=E (V2 (W2 c rt[i]) s)
 sure:∀i (h:i<rt.length),∃l,v.sure[i]?=E l∧A7g (A80 f c rt[i] s) (V2 (W2 c rt[i]) s) l∧l.length≤3000
 rok:∃pts,S3 c a rt=E (pts,T)∧pts.length=rt.length+1
theorem D3j{f:XForecast}{c:XChart}{s:XShip}(hf:A7a f=T)(hc:J3 c=T)(hs:Z8 s=T)(rt:List Int)(a:Int)(hl:rt.length≤1000) :
  ∃v b,A3u f c s a rt=E (v,b)∧(b=T→VoyOk f c s a rt v):=by
 have hn:=(A4z hc).2.2.1
 obtain⟨pts,b,e1,e2,e3,e4⟩:=C1v hc rt a hl
 have eo:A09 c a rt=E b:=by simp only[A09,O3 hn,hc,G,if_true,e1]
 have er:N1 c a rt=E pts:=by simp only[N1,O3 hn,hc,G,if_true,e1]
 have none_:∃v b',(E ((⟨[],[],[]⟩:Xvoyage),F):Option (Xvoyage × Bool))=E (v,b')∧(b'=T→VoyOk f c s a rt v):=⟨_,F,rfl,fun h=>by cases h⟩
 unfold A3u
 simp only[A1n,A2k (A7d hs),hf,hs,eo,G,if_true,V3]
 cases b with
 | false=>simpa using none_
 | true=>
  obtain⟨e5,e6⟩:=e4 rfl
  simp only[if_true]
  cases rt with
  | nil=>simpa using none_
  | cons r0 rs=>
   have hnz:(((r0::rs).length:Int)==(0:Int))=F:=by simp; omega
   simp only[hnz,H,if_false,er,G]
   generalize hrt:r0::rs=rt at *
   rw[A5x (by omega),G]
   simp only[List.drop_zero,Nat.sub_zero]
   have hlen:(pts.take rt.length).length=rt.length:=by simp; omega
   have key:∀(k i n:Nat) (ws:List Bool) (ms:List Int) (us:List (List XWindow)),i+k=rt.length→k<n→ws.length=i→ms.length=i→us.length=i→
     (∀j (h:j<rt.length),j<i→ms[j]?=E (V2 (W2 c rt[j]) s))→(∀j (h:j<rt.length),j<i→∃l,us[j]?=E l∧A7g (A80 f c rt[j] s) (V2 (W2 c rt[j]) s) l∧l.length≤3000)→
     ∃v b,V8 rt f c s (pts.take rt.length) ((pts.take rt.length).length:Int) n (i:Int) ws ms us=E (v,b)∧(b=T→VoyOk f c s a rt v):=by
    intro k
    induction k with
    | zero=>
     intro i n ws ms us hi hn h1 h2 h3 h4 h5
     obtain⟨q,rfl⟩:=sn (n:=n) (by omega)
     have:i=rt.length:=by omega
     subst this
     refine⟨⟨ws,ms,us⟩,T,by rw[hlen]; simp[V8],fun _=>⟨by rw[← hrt]; simp,h1,h2,h3,e6,fun j h=>h4 j h h,fun j h=>h5 j h h,pts,e1,e5⟩⟩
    | succ k ih=>
     intro i n ws ms us hi hn h1 h2 h3 h4 h5
     obtain⟨q,rfl⟩:=sn (n:=n) (by omega)
     have hlt:i<rt.length:=by omega
     have hlt':i<(pts.take rt.length).length:=by omega
     have hx:=e6 _ (O hlt)
     have hpt:=e3 _ (List.mem_of_mem_take (O hlt'))
     obtain⟨l,g1,g2,g3⟩:=E1i hf hc hs hx
     rw[V8]
     simp only[E1,hlt',decide_true,if_true,F2 hlt',F2 hlt,G,(C44 (⟨[],F⟩:XPoint) hpt).1,(A3v hx).1,A3r,g1]
     rw[if_pos (apk (by omega) (by simp) (by omega)),if_pos (apk (by omega) (by simp) (by omega)),if_pos (apk (by omega) (by simp) (by omega)),H8 hlt (smx (by omega))]
     refine ih (i+1) q _ _ _ (by omega) (by omega) (by simp; omega) (by simp; omega) (by simp; omega) (fun j hj1 hj2=> ?_) fun j hj1 hj2=> ?_
     ·by_cases hji:j=i
      ·subst hji; subst h2; simp
      ·rw[Y (by omega)]; exact h4 j hj1 (by omega)
     ·by_cases hji:j=i
      ·subst hji; subst h3; exact⟨l,by simp,g2,g3⟩
      ·rw[Y (by omega)]; exact h5 j hj1 (by omega)
   exact key rt.length 0 bigN [] [] [] (by omega) (E9 (smx (by omega))) rfl rfl rfl (fun j _ h=>by omega) fun j _ h=>by omega
def B6r(y:X_8_bool):List Bool:= [y.i0,y.i1,y.i2,y.i3,y.i4,y.i5,y.i6,y.i7]
def C8w(y:X_8_bool):Nat:=(B6r y).countP fun b=> !b
theorem F5f(y:X_8_bool){n:Nat}(hn:n<8):B6r (X_8_bool.set y n T)=(B6r y).set n T:=by
 have:n=0∨n=1∨n=2∨n=3∨n=4∨n=5∨n=6∨n=7:=by omega
 rcases this with rfl|rfl|rfl|rfl|rfl|rfl|rfl|rfl<;>rfl
theorem D0x{l:List Bool}:∀{n:Nat},l[n]?=E F→((l.set n T).countP fun b=> !b)+1=l.countP fun b=> !b:=by
 induction l with
 | nil=>intro n h; simp at h
 | cons a l ih=>
  intro n h
  cases n with
  | zero=>simp only[List.getElem?_cons_zero,Option.some.injEq] at h; subst h; simp
  | succ n=>
   simp only[List.getElem?_cons_succ] at h
   have:=ih h
   simp only[List.set_cons_succ,List.countP_cons]
   omega
theorem C7p{y:X_8_bool}{a:Int}(h:ix (B6r y) a=E F):C8w (X_8_bool.set y (Int.toNat a) T)+1=C8w y∧0≤a∧a<8:=by
 have hg:=P7 h
 have hl:(B6r y).length=8:=rfl
 have ha:0≤a:=by
  unfold ix at h
  split at h
  ·rename_i h1; exact h1
  ·cases h
 have hn:a.toNat<8:=by
  have:=(List.getElem?_eq_some_iff.1 hg).1
  omega
 refine⟨?_,ha,by omega⟩
 unfold C8w
 rw[F5f y hn]
 exact D0x hg
theorem C4x{l:List Int}(h:l.length≤1000):D5 l=E l:=by
 unfold D5 mkS
 rw[if_pos ⟨by omega,by omega,by omega,by omega⟩]
 simp only[G,Int.toNat_zero,List.replicate_zero,zC]
 rw[if_pos (by simp only[D4,List.length_nil,decide_eq_true_eq]; omega)]
theorem D2y{c:XChart}(hc:J3 c=T):∀(u n:Nat) (a b:Int) (rt:List Int) (y:X_8_bool) (out:List (List Int)),u<n→C8w y≤u→ix (B6r y) a=E F→rt.length+u≤100→out.length+10 ^ u≤100000000→
  ∃r,H2 n c a b rt y out=E r∧r.length≤out.length+10 ^ u∧∀x∈r,x∈out∨x.length≤100:=by
 obtain⟨_,hs10,_,_⟩:=A4z hc
 intro u
 induction u with
 | zero=>
  intro n a b rt y out hn hu hi
  have:=(C7p hi).1
  omega
 | succ u ih=>
  intro n a b rt y out hn hu hi hr ho
  obtain⟨q,rfl⟩:=sn (n:=n) (by omega)
  obtain⟨hc1,ha0,ha8⟩:=C7p hi
  have hp:10 ^ (u+1)=10*10 ^ u:=by rw[Nat.pow_succ]; omega
  have hp1:0<10 ^ u:=Nat.pow_pos (by omega)
  rw[H2,Z2]
  by_cases hab:(a==b)=T
  ·rw[if_pos hab,C4x (by omega),G,if_pos (apk (by omega) (by simp) (by omega))]
   refine⟨_,rfl,by simp; omega,fun x hx=> ?_⟩
   rcases U.1 hx with hx|hx
   ·exact Or.inl hx
   ·simp only[P] at hx; subst hx; exact Or.inr (by omega)
  ·rw[if_neg hab,if_pos (by simp; omega)]
   generalize hy:X_8_bool.set y (Int.toNat a) T=y'
   have hy':(⟨y'.i0,y'.i1,y'.i2,y'.i3,y'.i4,y'.i5,y'.i6,y'.i7⟩:X_8_bool)=y':=rfl
   rw[hy']
   rw[hy] at hc1
   have key:∀(k i m:Nat) (o:List (List Int)),i+k=c.Segments.length→k<m→o.length≤out.length+i*10 ^ u→(∀x∈o,x∈out∨x.length≤100)→
     ∃r,F0 (H2 q) a b rt c y' m (i:Int) o=E r∧r.length≤out.length+c.Segments.length*10 ^ u∧∀x∈r,x∈out∨x.length≤100:=by
    intro k
    induction k with
    | zero=>
     intro i m o hi hm hl hx
     obtain⟨p,rfl⟩:=sn (n:=m) (by omega)
     have:i=c.Segments.length:=by omega
     subst this
     exact⟨o,by simp[F0],hl,hx⟩
    | succ k ihk=>
     intro i m o hi hm hl hx
     obtain⟨p,rfl⟩:=sn (n:=m) (by omega)
     have hlt:i<c.Segments.length:=by omega
     have hsucc:(i+1)*10 ^ u=i*10 ^ u+10 ^ u:=Nat.succ_mul i _
     have hle:i*10 ^ u≤9*10 ^ u:=Nat.mul_le_mul_right _ (by omega)
     have go:∀o',o'.length≤out.length+(i+1)*10 ^ u→(∀x∈o',x∈out∨x.length≤100)→∃r,F0 (H2 q) a b rt c y' p (zL .i64 ((i:Int)+1)) o'=E r∧r.length≤out.length+c.Segments.length*10 ^ u∧∀x∈r,x∈out∨x.length≤100:=fun o' h1 h2=>by
      rw[H8 hlt (smx (by omega))]
      exact ihk (i+1) p o' (by omega) (by omega) h1 h2
     rw[F0]
     simp only[E1,hlt,decide_true,if_true,F2 hlt,G,E54]
     have he:=C73 hc (O hlt) a
     generalize A99 c.Segments[i] a=e at he
     by_cases h0:0≤e
     ·have he':=A7i.1 (he.resolve_left (by omega))
      have hp8:=(A4z hc).1
      have hd:(decide (0≤e)&&decide (e<8))=T:=by simp; omega
      simp only[h0,decide_true,if_true,hd,Bool.true_and]
      rw[if_pos (by simp; omega)]
      obtain⟨bb,eb⟩:=ix8 y' h0 (by omega)
      rw[eb,G]
      cases bb with
      | true=>
       simp only[K2,Bool.not_true,H,if_false]
       exact go o (by omega) hx
      | false=>
       simp only[K2,Bool.not_false,if_true]
       rw[C4x (by omega),G,if_pos (apk (by omega) (by simp) (by omega))]
       obtain⟨r,e1,e2,e3⟩:=ih q e b (rt++ [(i:Int)]) y' o (by omega) (by omega) eb (by simp; omega) (by omega)
       rw[e1,G]
       exact go r (by omega) fun x h=>by
        rcases e3 x h with h|h
        ·exact hx x h
        ·exact Or.inr h
     ·simp only[h0,decide_false,H,if_false,K2]
      exact go o (by omega) hx
   obtain⟨r,e1,e2,e3⟩:=key c.Segments.length 0 bigN out (by omega) (E9 (smx (by omega))) (by omega) fun x hx=>Or.inl hx
   have hle:c.Segments.length*10 ^ u≤10*10 ^ u:=Nat.mul_le_mul_right _ hs10
   exact⟨r,e1,by omega,e3⟩
theorem D04{c:XChart}(hc:J3 c=T)(a b:Int):∃r,A0b c a b=E r∧r.length≤100000000∧∀x∈r,x.length≤100:=by
 have hp8:=(A4z hc).1
 have nil_:∃r,E ([]:List (List Int))=E r∧r.length≤100000000∧∀x∈r,x.length≤100:=⟨[],rfl,by simp,fun x h=>by cases h⟩
 unfold A0b A3c
 rw[O3 (A4z hc).2.2.1,hc,G,if_pos rfl,A28,G,A28]
 cases ha:idx a c.Points.length with
 | false=>simpa using nil_
 | true=>
  simp only[if_true,G]
  cases hb:idx b c.Points.length with
  | false=>simpa using nil_
  | true=>
   simp only[if_true]
   have ha':=A7i.1 ha
   have hi:ix (B6r ⟨F,F,F,F,F,F,F,F⟩) a=E F:=by
    obtain⟨n,rfl⟩:∃n:Nat,a=(n:Int):=⟨a.toNat,by omega⟩
    have:n=0∨n=1∨n=2∨n=3∨n=4∨n=5∨n=6∨n=7:=by omega
    rcases this with rfl|rfl|rfl|rfl|rfl|rfl|rfl|rfl<;>rfl
   obtain⟨r,e1,e2,e3⟩:=D2y hc 8 bigN a b [] ⟨F,F,F,F,F,F,F,F⟩ [] (by rw[T8]; omega) (by decide) hi (by simp) (by simp)
   rw[e1,G]
   exact⟨r,rfl,by simpa using e2,fun x hx=>(e3 x hx).resolve_left (by simp)⟩
theorem E0f{c:XChart}(hc:J3 c=T)(a b:Int):∃rt q,A26 c a b=E (rt,q)∧rt.length≤100:=by
 obtain⟨r,e,hl,hx⟩:=D04 hc a b
 unfold A26
 rw[e,G]
 cases r with
 | nil=>exact⟨[],F,by simp,by simp⟩
 | cons r0 rs=>
  have hnz:(((r0::rs).length:Int)==(0:Int))=F:=by simp; omega
  have hml:(r0::rs).length≤maxLen:=by rw[F8]; omega
  rw[hnz,if_neg (by simp),show ix (r0::rs) 0=E r0 from rfl,G]
  have h0:r0.length≤100:=hx r0 (by simp)
  generalize r0::rs=l at hl hx hml
  have key:∀(k i n:Nat) (v:List Int),i+k=l.length→k<n→v.length≤100→∃rt q,O7 l c n v (i:Int)=E (rt,q)∧rt.length≤100:=by
   intro k
   induction k with
   | zero=>
    intro i n v hi hn hv
    obtain⟨q,rfl⟩:=sn (n:=n) (by omega)
    have:i=l.length:=by omega
    subst this
    exact⟨v,T,by simp[O7],hv⟩
   | succ k ih=>
    intro i n v hi hn hv
    obtain⟨q,rfl⟩:=sn (n:=n) (by omega)
    have hlt:i<l.length:=by omega
    have hli:=hx _ (O hlt)
    obtain⟨m1,e1⟩:=B1o hc l[i] (by omega)
    obtain⟨m2,e2⟩:=B1o hc v (by omega)
    rw[O7]
    simp only[E1,hlt,decide_true,if_true,F2 hlt,G,e1,e2,H8 hlt hml]
    by_cases hm:m1<m2
    ·simp only[hm,decide_true,if_true]
     exact ih (i+1) q _ (by omega) (by omega) hli
    ·simp only[hm,decide_false,H,if_false]
     exact ih (i+1) q _ (by omega) (by omega) hv
  exact key l.length 0 bigN r0 (by omega) (E9 hml) h0
def A5q(f:XForecast)(c:XChart)(s:XShip)(i x:Int):Prop:=0≤x∧x+V2 (W2 c i) s≤2880∧∀m,x≤m→m≤x+V2 (W2 c i) s→A80 f c i s m=T
theorem C1y{f:XForecast}{c:XChart}{s:XShip}{i x:Int}{l:List XWindow}(h:A7g (A80 f c i s) (V2 (W2 c i) s) l)(hw:∃w∈l,w.From≤x∧x≤w.To):A5q f c s i x:=by
 obtain⟨w,hm,h1,h2⟩:=hw
 obtain⟨a1,_,_,a4⟩:=h w hm
 obtain⟨b1,b2⟩:=a4 x h1 h2
 exact⟨by omega,b1,b2⟩
theorem E2u{f:XForecast}{c:XChart}{s:XShip}{a:Int}{rt:List Int}{v:Xvoyage}(hc:J3 c=T)(hv:VoyOk f c s a rt v)(hl:rt.length≤1000)(start:Int) :
  ∃l b,A1h v start=E (l,b)∧(b=T→l.length=rt.length∧∀i (h:i<rt.length),∃x,l[i]?=E x∧A5q f c s rt[i] x):=by
 have none_:∃l b,(E (([]:List Int),F):Option (List Int × Bool))=E (l,b)∧(b=T→l.length=rt.length∧∀i (h:i<rt.length),∃x,l[i]?=E x∧A5q f c s rt[i] x):=⟨[],F,rfl,fun h=>by cases h⟩
 have h0:0<rt.length:=zE.2 hv.ne
 obtain⟨l0,g1,g2,g3⟩:=hv.sure 0 h0
 unfold A1h
 have e0:ix v.sure 0=E l0:=by rw[show(0:Int)=((0:Nat):Int) from rfl,Z1,g1]
 obtain⟨b,e1,e2⟩:=E55 (l:=l0) (a:=start) (by omega)
 rw[e0,G,e1,G]
 cases b with
 | false=>simpa using none_
 | true=>
  simp only[if_true]
  have hs0:=C1y g2 (e2 rfl)
  have key:∀(k i n:Nat) (acc:List Int),i+1+k=rt.length→k<n→acc.length=i+1→(∀j (h:j<rt.length),j≤i→∃x,acc[j]?=E x∧A5q f c s rt[j] x)→
    ∃l b,F7 v n ((i+1:Nat):Int) acc=E (l,b)∧(b=T→l.length=rt.length∧∀i (h:i<rt.length),∃x,l[i]?=E x∧A5q f c s rt[i] x):=by
   intro k
   induction k with
   | zero=>
    intro i n acc hi hn ha hj
    obtain⟨q,rfl⟩:=sn (n:=n) (by omega)
    have hu:¬(i+1<v.sure.length):=by rw[hv.u]; omega
    exact⟨acc,T,by simp only[F7,E1,hu,decide_false,H,if_false],fun _=>⟨by omega,fun j h=>hj j h (by omega)⟩⟩
   | succ k ih=>
    intro i n acc hi hn ha hj
    obtain⟨q,rfl⟩:=sn (n:=n) (by omega)
    have hu:i+1<v.sure.length:=by rw[hv.u]; omega
    have hlt:i+1<rt.length:=by omega
    obtain⟨x,f1,f2,f3,f4⟩:=hj i (by omega) (Nat.le_refl i)
    have hm:=hv.mins i (by omega)
    obtain⟨mb1,mb2⟩:=B93 (s:=s) hc (hv.seg _ (O (show i<rt.length by omega)))
    obtain⟨l,w1,w2,w3⟩:=hv.sure (i+1) hlt
    have ep:zL .i64 (((i+1:Nat):Int) - 1)=(i:Int):=by rw[B1 (by omega) (by omega)]; omega
    obtain⟨r,n1,n2⟩:=E2p (l:=l) (a:=zL .i64 (x+V2 (W2 c rt[i]) s)) (by omega) fun w hw=>⟨(w2 w hw).1,(w2 w hw).2.1,(w2 w hw).2.2.1⟩
    rw[F7]
    simp only[E1,hu,decide_true,if_true,ep,Z1,f1,hm,w1,G,n1]
    by_cases hr:r<0
    ·simp only[hr,decide_true,if_true,K1]
     exact none_
    ·simp only[hr,decide_false,H,if_false]
     have hsa:=C1y w2 (n2.resolve_left (by omega)).2
     have go:∀bb,∃l b,K1 ((i+1:Nat):Int) r v acc (F7 v q) bb=E (l,b)∧(b=T→l.length=rt.length∧∀i (h:i<rt.length),∃x,l[i]?=E x∧A5q f c s rt[i] x):=by
      intro bb
      cases bb with
      | true=>simp only[K1,if_true]; exact none_
      | false=>
       simp only[K1,H,if_false]
       rw[if_pos (apk (by omega) (by simp) (by omega)),H8 hlt (smx (by omega))]
       refine ih (i+1) q _ (by omega) (by omega) (by simp; omega) fun j h1 h2=> ?_
       by_cases hji:j=i+1
       ·subst hji
        exact⟨r,by rw[← ha]; simp,hsa⟩
       ·obtain⟨y,y1,y2⟩:=hj j h1 (by omega)
        exact⟨y,by rw[Y (by omega)]; exact y1,y2⟩
     by_cases hlt2:zL .i64 (x+V2 (W2 c rt[i]) s)<r
     ·simp only[hlt2,decide_true,if_true]
      have hwt:i+1<v.waits.length:=by rw[hv.w]; omega
      rw[N hwt,G]
      exact go _
     ·simp only[hlt2,decide_false,H,if_false]
      exact go _
  exact key (rt.length - 1) 0 bigN [start] (by omega) (E9 (smx (by omega))) rfl fun j h1 h2=>by
   have:j=0:=by omega
   subst this
   exact⟨start,rfl,hs0⟩
theorem C6u{f:XForecast}{c:XChart}{s:XShip}{a sh:Int}{rt st:List Int}{v:Xvoyage}(hc:J3 c=T)(hs:Z8 s=T)(hv:VoyOk f c s a rt v)(hl:rt.length≤1000)
  (h1:st.length=rt.length) (h2:∀i (h:i<rt.length),∃x,st[i]?=E x∧A5q f c s rt[i] x) :
  ∃ps,A12 c sh s a rt st=E ps∧ps.length=rt.length∧∀p∈ps,p.Ship=sh∧idx p.Segment c.Segments.length=T∧p.End=p.Start+V2 (W2 c p.Segment) s∧A5q f c s p.Segment p.Start:=by
 obtain⟨pts,r1,r2⟩:=hv.rok
 have hn:=(A4z hc).2.2.1
 unfold A12 A09 N1
 simp only[O3 hn,A2k (A7d hs),hc,hs,G,if_true,r1,h1]
 rw[if_neg (by simp)]
 have key:∀(k i n:Nat) (acc:List XPassage),i+k=rt.length→k<n→acc.length=i→(∀p∈acc,p.Ship=sh∧idx p.Segment c.Segments.length=T∧p.End=p.Start+V2 (W2 c p.Segment) s∧A5q f c s p.Segment p.Start)→
   ∃ps,S0 sh st rt c s pts n (i:Int) acc=E ps∧ps.length=rt.length∧∀p∈ps,p.Ship=sh∧idx p.Segment c.Segments.length=T∧p.End=p.Start+V2 (W2 c p.Segment) s∧A5q f c s p.Segment p.Start:=by
  intro k
  induction k with
  | zero=>
   intro i n acc hi hn ha hp
   obtain⟨q,rfl⟩:=sn (n:=n) (by omega)
   have:i=rt.length:=by omega
   subst this
   exact⟨acc,by simp[S0],ha,hp⟩
  | succ k ih=>
   intro i n acc hi hn ha hp
   obtain⟨q,rfl⟩:=sn (n:=n) (by omega)
   have hlt:i<rt.length:=by omega
   obtain⟨x,x1,x2⟩:=h2 i hlt
   have hseg:=hv.seg _ (O hlt)
   obtain⟨mb1,mb2⟩:=B93 (s:=s) hc hseg
   have x2':=x2
   obtain⟨y1,y2,y3⟩:=x2'
   have hpt:i<pts.length:=by omega
   have hmi:(decide (0≤x)&&decide (x≤2880))=T:=by simp; omega
   rw[S0]
   simp only[E1,hlt,decide_true,if_true,F2 hlt,Z1 st,x1,G,Z4,hmi,(A3v hseg).1,F2 hpt,A3r]
   rw[if_pos (apk (by omega) (by simp) (by omega)),H8 hlt (smx (by omega)),B1 (n:=x+_) (by omega) (by omega)]
   refine ih (i+1) q _ (by omega) (by omega) (by simp; omega) fun p hpm=> ?_
   rcases U.1 hpm with hpm|hpm
   ·exact hp p hpm
   ·simp only[P] at hpm
    subst hpm
    exact⟨rfl,hseg,rfl,x2⟩
 exact key rt.length 0 bigN [] (by omega) (E9 (smx (by omega))) rfl fun p hp=>by cases hp
theorem C91{f:XForecast}{c:XChart}{s:XShip}{a:Int}{rt st:List Int}{v:Xvoyage}(hc:J3 c=T)(hs:Z8 s=T)(hv:VoyOk f c s a rt v)(hl:rt.length≤1000)(h1:st.length=rt.length):∃r,A27 c s rt st=E r:=by
 obtain⟨r0,e0⟩:=B1o hc rt hl
 have hpos:0<rt.length:=zE.2 hv.ne
 unfold A27
 simp only[e0,G,A2k (A7d hs),hs,if_true,h1]
 by_cases hr:r0<0
 ·exact⟨-1,by simp[hr]⟩
 ·simp only[hr,decide_false,H,if_false]
  rw[if_neg (by simpa using hv.ne),if_neg (by simp)]
  have ep:zL .i64 ((rt.length:Int) - 1)=((rt.length - 1:Nat):Int):=by rw[B1 (by omega) (by omega)]; omega
  rw[ep,F2 (show rt.length - 1<st.length by omega),G,Z4,G]
  have hseg:=hv.seg _ (O (show rt.length - 1<rt.length by omega))
  split
  ·rw[F2 (show rt.length - 1<rt.length by omega),G,(A3v hseg).1,G,A3r,G]
   exact⟨_,rfl⟩
  ·exact⟨_,rfl⟩
structure OptOk (h:XHarbour) (a:XCall) (o:XOption):Prop where
 pos:0<o.Passages.length
 len:o.Passages.length≤100
 pass:∀p∈o.Passages,p.Ship=a.Ship∧A6p h.Chart h.Fleet p=T∧A5q h.Forecast h.Chart (Y9 h.Fleet a.Ship) p.Segment p.Start∧p.End=p.Start+V2 (W2 h.Chart p.Segment) (Y9 h.Fleet a.Ship)
theorem D3a{h:XHarbour}{a:XCall}{rt:List Int}{v:Xvoyage}(hc:J3 h.Chart=T)(hsh:idx a.Ship h.Fleet.length=T)(hs:Z8 (Y9 h.Fleet a.Ship)=T)
  (hv:VoyOk h.Forecast h.Chart (Y9 h.Fleet a.Ship) a.From rt v) (hl:rt.length≤100) (start:Int):∃o b,A45 h a v rt start=E (o,b)∧(b=T→OptOk h a o):=by
 obtain⟨st,b,e1,e2⟩:=E2u hc hv (by omega) start
 unfold A45
 rw[e1,G]
 cases b with
 | false=>exact⟨_,F,by simp; rfl,fun h=>by cases h⟩
 | true=>
  obtain⟨s1,s2⟩:=e2 rfl
  obtain⟨ps,p1,p2,p3⟩:=C6u (sh:=a.Ship) hc hs hv (by omega) s1 s2
  obtain⟨r,r1⟩:=C91 hc hs hv (by omega) s1
  simp only[if_true,(A9x hsh).1,G,p1,r1]
  have hok:∀cost,OptOk h a ⟨start,r,cost,ps⟩:=fun cost=>by
   refine⟨by rw[p2]; exact zE.2 hv.ne,by simp only; omega,fun p hp=> ?_⟩
   obtain⟨q1,q2,q3,q4⟩:=p3 p hp
   refine⟨q1,?_,q4,q3⟩
   obtain⟨q5,q6,_⟩:=q4
   obtain⟨mb1,mb2⟩:=B93 (s:=Y9 h.Fleet a.Ship) hc q2
   simp only[A6p,A5m,L,decide_eq_true_eq,q1]
   exact⟨hsh,q2,⟨by omega,by omega⟩,by omega,by rw[B1 (by omega) (by omega)]; exact q3⟩
  have key:∀(k i n:Nat) (cost:Int),i+k=v.minutes.length→k<n→∃o b,A0k v start r ps n (i:Int) cost=E (o,b)∧(b=T→OptOk h a o):=by
   intro k
   induction k with
   | zero=>
    intro i n cost hi hn
    obtain⟨q,rfl⟩:=sn (n:=n) (by omega)
    have:i=v.minutes.length:=by omega
    subst this
    exact⟨⟨start,r,cost,ps⟩,decide (r≤2880),by simp[A0k],fun _=>hok cost⟩
   | succ k ih=>
    intro i n cost hi hn
    obtain⟨q,rfl⟩:=sn (n:=n) (by omega)
    have hlt:i<v.minutes.length:=by omega
    rw[A0k]
    simp only[E1,hlt,decide_true,if_true,F2 hlt,G,H8 hlt (smx (by rw[hv.m]; omega))]
    exact ih (i+1) q _ (by omega) (by omega)
  exact key v.minutes.length 0 bigN _ (by omega) (E9 (smx (by rw[hv.m]; omega)))
def A6n(h:XHarbour)(a:XCall):Bool:=idx a.Ship h.Fleet.length&&(idx a.From h.Chart.Points.length&&(idx a.To h.Chart.Points.length&&(decide (a.From≠a.To)&&(A5m a.Ready&&(decide (a.Ready≤a.Due)&&decide (a.Due≤2880))))))
theorem B2b(h:XHarbour)(a:XCall):A3f h a=E (A6n h a):=by
 unfold A3f A6n
 simp only[A28,G,Z4,T6,C7x,A5m,C75]
 cases idx a.Ship h.Fleet.length<;>cases idx a.From h.Chart.Points.length<;>cases idx a.To h.Chart.Points.length<;>simp[bne_iff_ne]
theorem C0n{h:XHarbour}(s:HSmall h)(a:XCall):A4x h a=E (U9 h&&A6n h a):=by
 unfold A4x
 rw[A6j s,G,B2b]
 cases U9 h<;>rfl
theorem D2b{h:XHarbour}{a:XCall}(s:HSmall h)(hh:U9 h=T)(ha:A6n h a=T):∃l,U1 h a=E l∧l.length≤8∧∀o∈l,OptOk h a o:=by
 have hh':=hh
 simp only[U9,L] at hh'
 obtain⟨hf,hc,hfl,_,_⟩:=hh'
 have ha':=ha
 simp only[A6n,L,A5m,decide_eq_true_eq] at ha'
 obtain⟨i1,i2,i3,_,⟨m1,m2⟩,d1,d2⟩:=ha'
 have hs:=(A8i hfl).2 _ (A9x i1).2
 obtain⟨rt,q,b1,b2⟩:=E0f hc a.From a.To
 obtain⟨v,b,v1,v2⟩:=D3j hf hc hs rt a.From (by omega)
 obtain⟨pts,pb,t1,_⟩:=C1v hc rt a.From (by omega)
 have hcv:∃v' b',A1z h a rt=E (v',b')∧(b'=T→VoyOk h.Forecast h.Chart (Y9 h.Fleet a.Ship) a.From rt v'):=by
  unfold A1z N1
  simp only[O3 (A4z hc).2.2.1,hc,G,if_true,t1]
  have go:∀bb,∃v' b',W5 rt h a bb=E (v',b')∧(b'=T→VoyOk h.Forecast h.Chart (Y9 h.Fleet a.Ship) a.From rt v'):=fun bb=>by
   cases bb with
   | true=>exact⟨_,F,rfl,fun h=>by cases h⟩
   | false=>
    simp only[W5,H,if_false,(A9x i1).1,G,v1]
    exact⟨v,b,rfl,v2⟩
  cases pts with
  | nil=>exact go T
  | cons p0 pr=>
   rw[if_neg (by simp; omega)]
   have hlen:(p0::pr).length≤1000:=by omega
   have ep:zL .i64 (((p0::pr).length:Int) - 1)=(((p0::pr).length - 1:Nat):Int):=by rw[B1 (by omega) (by omega)]; simp
   rw[ep,F2 (show(p0::pr).length - 1<(p0::pr).length by simp),G]
   exact go _
 obtain⟨v',b',w1,w2⟩:=hcv
 have nil_:∃l,E ([]:List XOption)=E l∧l.length≤8∧∀o∈l,OptOk h a o:=⟨[],rfl,by simp,fun o ho=>by cases ho⟩
 unfold U1
 rw[C0n s,hh,ha,G]
 simp only[Bool.and_self,if_true,b1,G,w1]
 cases q with
 | false=>simpa using nil_
 | true=>
  simp only[if_true]
  cases b' with
  | false=>simpa using nil_
  | true=>
   simp only[if_true]
   have hv:=w2 rfl
   have key:∀(k n:Nat) (m:Int) (l:List XOption),2881 - m≤(k:Int)→k<n→0≤m→l.length≤8→(∀o∈l,OptOk h a o)→∃l',L0 (rt,T) h a (v',T) n m l=E l'∧l'.length≤8∧∀o∈l',OptOk h a o:=by
    intro k
    induction k with
    | zero=>
     intro n m l hk hn hm hl ho
     obtain⟨q,rfl⟩:=sn (n:=n) (by omega)
     have:¬m≤a.Due:=by omega
     exact⟨l,by simp only[L0,this,decide_false,H,if_false],hl,ho⟩
    | succ k ih=>
     intro n m l hk hn hm hl ho
     obtain⟨q,rfl⟩:=sn (n:=n) (by omega)
     rw[L0]
     by_cases hd:m≤a.Due
     ·simp only[hd,decide_true,if_true]
      by_cases h8:(l.length:Int)<8
      ·simp only[h8,decide_true,if_true]
       obtain⟨o,ob,o1,o2⟩:=D3a hc i1 hs hv b2 m
       rw[o1,G]
       have wm:zL .i64 (m+15)=m+15:=B1 (by omega) (by omega)
       cases ob with
       | false=>
        simp only[H,if_false,Y6,wm]
        exact ih q (m+15) l (by omega) (by omega) (by omega) hl ho
       | true=>
        simp only[if_true,Y6,wm]
        rw[if_pos (apk (by omega) (by simp) (by omega))]
        refine ih q (m+15) _ (by omega) (by omega) (by omega) (by simp; omega) fun o' ho'=> ?_
        rcases U.1 ho' with ho' | ho'
        ·exact ho o' ho'
        ·simp only[P] at ho'; subst ho'; exact o2 rfl
      ·simp only[h8,decide_false,H,if_false]
       exact⟨l,rfl,hl,ho⟩
     ·simp only[hd,decide_false,H,if_false]
      exact⟨l,rfl,hl,ho⟩
   exact key 2881 bigN a.Ready [] (by omega) (by rw[T8]; omega) m1 (by simp) fun o ho=>by cases ho
theorem C71{c:Xl01Cur}{l:List Int}(h:CurOk c)(h0:0<l.length)(hl:l.length≤1000):∃x c',A2h c l=E (x,c')∧CurOk c'∧x∈l:=by
 obtain⟨v,c',e,h1,p,q,_⟩:=F4 (n:=(l.length:Int)) h (by omega)
 have q:=q (by omega)
 obtain⟨n,rfl⟩:∃n:Nat,v=(n:Int):=⟨v.toNat,by omega⟩
 have hn:n<l.length:=by omega
 exact⟨l[n],c',by simp only[A2h,e,G,F2 hn],h1,O hn⟩
theorem E13{c:Xl01Cur}(h:CurOk c):∃x c',N6 c=E (x,c')∧CurOk c'∧A6s x=T:=by
 obtain⟨v1,c1,e1,h1,p1,q1,_⟩:=F4 (n:=300) h (by omega)
 obtain⟨v2,c2,e2,h2,m2⟩:=C71 (l:= [744,720,1440,372,240]) h1 (by simp) (by simp)
 have b2:4≤v2∧v2≤2880∧B1a v2=T:=by
  simp only[zA,X,or_false] at m2
  rcases m2 with rfl|rfl|rfl|rfl|rfl<;>exact⟨by omega,by omega,by kernel_rfl⟩
 obtain⟨v3,c3,e3,h3,p3,q3,_⟩:=F4 (n:=v2) h2 (by omega)
 have q1:=q1 (by omega); have q3:=q3 (by omega)
 refine⟨⟨v1,v2,v3⟩,c3,by simp only[N6,e1,e2,e3,G],h3,?_⟩
 simp only[A6s,L,decide_eq_true_eq,b2.2.2]
 rw[B1 (by omega) (by omega)]
 exact⟨⟨by omega,by omega⟩,trivial,by omega,by omega⟩
theorem C7z{c:Xl01Cur}(h:CurOk c):∃t c',A4g c=E (t,c')∧CurOk c'∧0≤t.Mean∧t.Mean<300∧t.Parts.length≤4∧∀x∈t.Parts,A6s x=T:=by
 obtain⟨v1,c1,e1,h1,p1,q1,_⟩:=F4 (n:=300) h (by omega)
 obtain⟨v2,c2,e2,h2,p2,q2,_⟩:=F4 (n:=2) h1 (by omega)
 have q1:=q1 (by omega); have q2:=q2 (by omega)
 have key:∀(k n:Nat) (c:Xl01Cur) (l:List XPart),k<n→CurOk c→l.length+k≤4→(∀x∈l,A6s x=T)→
   ∃t c',X8 (v1,c1) n (k:Int) c.b c.i c.h l=E (t,c')∧CurOk c'∧t.Mean=v1∧t.Parts.length≤4∧∀x∈t.Parts,A6s x=T:=by
  intro k
  induction k with
  | zero=>
   intro n c l hn hc hl hx
   obtain⟨q,rfl⟩:=sn (n:=n) (by omega)
   exact⟨⟨v1,l⟩,c,by simp[X8],hc,rfl,by simpa using hl,hx⟩
  | succ k ih=>
   intro n c l hn hc hl hx
   obtain⟨q,rfl⟩:=sn (n:=n) (by omega)
   obtain⟨x,c',e,h',px⟩:=E13 hc
   have e':N6 ⟨c.b,c.i,c.h⟩=E (x,c'):=e
   have hk:(0:Int)<((k+1:Nat):Int):=by omega
   rw[X8]
   simp only[hk,decide_true,if_true,e',G]
   rw[if_pos (apk (by omega) (by simp) (by omega)),show zL .i64 (((k+1:Nat):Int) - 1)=(k:Int) from by rw[B1 (by omega) (by omega)]; omega]
   refine ih q c' _ (by omega) h' (by simp; omega) fun y hy=> ?_
   rcases U.1 hy with hy|hy
   ·exact hx y hy
   ·simp only[P] at hy; exact hy▸px
 obtain⟨t,c',e3,h3,b1,b2,b3⟩:=key (1+v2).toNat bigN c2 [] (by rw[T8]; omega) h2 (by simp; omega) fun x hx=>by cases hx
 refine⟨t,c',?_,h3,by omega,by omega,b2,b3⟩
 unfold A4g
 rw[e1,G,e2,G,B1 (by omega) (by omega),show(1:Int)+v2=((1+v2).toNat:Int) by omega]
 exact e3
def D9c(l:List XSurge)(v:Int):Prop:=(∀j (h:j<l.length),A6h l[j]=T∧l[j].From<v)∧(∀j (h:j+1<l.length),l[j].From<l[j+1].From)∧(∀h:0<l.length,l[0].From=0)
theorem C12{c:Xl01Cur}(h:CurOk c):∃f c',A2j c=E (f,c')∧CurOk c'∧∀m,-1000≤m→m≤1000→A7a ⟨⟨m,f.Tide.Parts⟩,f.Surges⟩=T:=by
 obtain⟨t,c1,e1,h1,m1,m2,l1,px⟩:=C7z h
 obtain⟨v2,c2,e2,h2,p2,q2,_⟩:=F4 (n:=3) h1 (by omega)
 have q2:=q2 (by omega)
 have key:∀(k i n:Nat) (c:Xl01Cur) (v:Int) (l:List XSurge),k<n→CurOk c→l.length=i→i+k≤3→0≤v→v≤800*(i:Int)→(i=0→v=0)→(i+k≠0)→D9c l v→
   (0<i→∀j (h:j<l.length),l[j].From<v)→(∀j (h:j<l.length),l[j].From<v)→
   ∃f c',P0 (t,c1) n v (k:Int) c.b c.i c.h l=E (f,c')∧CurOk c'∧f.Tide=t∧f.Surges.length=i+k∧∃w,D9c f.Surges w:=by
  intro k
  induction k with
  | zero=>
   intro i n c v l hn hc hl hi hv0 hv1 hz hnz hs _ _
   obtain⟨q,rfl⟩:=sn (n:=n) (by omega)
   exact⟨⟨t,l⟩,c,by simp[P0],hc,rfl,by simpa using hl,v,hs⟩
  | succ k ih=>
   intro i n c v l hn hc hl hi hv0 hv1 hz hnz hs _ hv
   obtain⟨q,rfl⟩:=sn (n:=n) (by omega)
   obtain⟨a,c3,e3,h3,pa,qa,_⟩:=F4 (n:=60) hc (by omega)
   obtain⟨b,c4,e4,h4,pb,qb,_⟩:=F4 (n:=60) h3 (by omega)
   obtain⟨d,c5,e5,h5,pd,qd,_⟩:=F4 (n:=700) h4 (by omega)
   have qa:=qa (by omega); have qb:=qb (by omega); have qd:=qd (by omega)
   have e3':A8 ⟨c.b,c.i,c.h⟩ 60=E (a,c3):=e3
   have hk:(0:Int)<((k+1:Nat):Int):=by omega
   rw[P0]
   simp only[hk,decide_true,if_true,e3',e4,e5,G]
   rw[if_pos (apk (by omega) (by simp) (by omega)),show zL .i64 (((k+1:Nat):Int) - 1)=(k:Int) from by rw[B1 (by omega) (by omega)]; omega]
   rw[B1 (n:=a - 40) (by omega) (by omega),B1 (n:=a - 40+b) (by omega) (by omega),B1 (n:=v+100) (by omega) (by omega),B1 (n:=v+100+d) (by omega) (by omega)]
   obtain⟨s1,s2,s3⟩:=hs
   have hlast:∀j (h:j<(l++ [(⟨v,a - 40,a - 40+b⟩:XSurge)]).length),A6h (l++ [(⟨v,a - 40,a - 40+b⟩:XSurge)])[j]=T∧(l++ [(⟨v,a - 40,a - 40+b⟩:XSurge)])[j].From<v+100+d:=fun j hj=>by
    by_cases hjl:j<l.length
    ·rw[Q hjl]; exact⟨(s1 j hjl).1,by have:=(s1 j hjl).2; omega⟩
    ·have:j=l.length:=by simp at hj; omega
     subst this
     simp only[Z (Nat.le_refl _),Nat.sub_self,V,A6h,L,decide_eq_true_eq]
     exact⟨⟨⟨by omega,by omega⟩,⟨by omega,by omega⟩,by omega,by omega⟩,by omega⟩
   obtain⟨f,c',g1,g2,g3,g4,g5⟩:=ih (i+1) q c5 (v+100+d) (l++ [⟨v,a - 40,a - 40+b⟩]) (by omega) h5 (by simp; omega) (by omega) (by omega) (by omega) (by omega) (by omega)
    ⟨hlast,fun j hj=>by
     simp only[List.length_append,zB] at hj
     by_cases hjl:j+1<l.length
     ·rw[Q hjl,Q (show j<l.length by omega)]; exact s2 j hjl
     ·have:j+1=l.length:=by omega
      rw[Q (show j<l.length by omega),Z (by omega)]
      simp only[this,Nat.sub_self,V]
      exact(s1 j (by omega)).2,fun hp=>by
     by_cases hl0:0<l.length
     ·rw[Q hl0]; exact s3 hl0
     ·rw[Z (by omega)]
      have:l.length=0:=by omega
      simp only[Nat.zero_sub,V]
      exact hz (by omega)⟩
    (fun _ j hj=>(hlast j hj).2) (fun j hj=>(hlast j hj).2)
   exact⟨f,c',g1,g2,g3,by omega,g5⟩
 obtain⟨f,c',e3,h3,b1,b2,w,w1,w2,w3⟩:=key (1+v2).toNat 0 bigN c2 0 [] (by rw[T8]; omega) h2 rfl (by omega) (by omega) (by omega) (fun _=>rfl) (by omega) ⟨fun j h=>by simp at h,fun j h=>by simp at h,fun h=>by simp at h⟩ (fun h=>by omega) fun j h=>by simp at h
 refine⟨f,c',?_,h3,fun m hm1 hm2=> ?_⟩
 ·unfold A2j
  rw[e1,G,e2,G,B1 (by omega) (by omega),show(1:Int)+v2=((1+v2).toNat:Int) by omega]
  exact e3
 ·simp only[A7a,A8y,L,decide_eq_true_eq,W,zK,b1]
  have h0:0<f.Surges.length:=by omega
  refine⟨⟨⟨hm1,hm2⟩,l1,px⟩,⟨by omega,by omega⟩,?_,fun j hj=> ?_⟩
  ·simp only[B6v,N h0,decide_eq_true_eq]; exact w3 h0
  ·simp only[B46,N hj,L]
   refine⟨(w1 j hj).1,?_⟩
   cases j with
   | zero=>rfl
   | succ j=>
    have:=w2 j hj
    simp only[N (show j<f.Surges.length by omega),Bool.not_eq_true',decide_eq_false_iff_not]
    omega
theorem D17{c:Xl01Cur}(hc:CurOk c):∃x c',A38 c=E (x,c')∧CurOk c'∧J3 x=T∧4≤x.Points.length:=by
 unfold A38
 obtain⟨w1,c1,e1,h1⟩:=A6f (n:=2) hc (by omega)
 obtain⟨v2,c2,e2,h2,p2,q2,_⟩:=F4 (n:=300) h1 (by omega)
 obtain⟨v3,c3,e3,h3,p3,q3,_⟩:=F4 (n:=40) h2 (by omega)
 obtain⟨v4,c4,e4,h4,p4,q4,_⟩:=F4 (n:=300) h3 (by omega)
 obtain⟨v5,c5,e5,h5,p5,q5,_⟩:=F4 (n:=30) h4 (by omega)
 obtain⟨w6,c6,e6,h6⟩:=A6f (n:=2) h5 (by omega)
 obtain⟨v7,c7,e7,h7,p7,q7,_⟩:=F4 (n:=200) h6 (by omega)
 obtain⟨v8,c8,e8,h8,p8,q8,_⟩:=F4 (n:=20) h7 (by omega)
 obtain⟨w9,c9,e9,h9⟩:=A6f (n:=3) h8 (by omega)
 have q2:=q2 (by omega); have q3:=q3 (by omega); have q4:=q4 (by omega); have q5:=q5 (by omega); have q7:=q7 (by omega); have q8:=q8 (by omega)
 simp only[e1,e2,e3,e4,e5,e6,e7,e8,e9,G]
 rw[B1 (n:=900+v2) (by omega) (by omega),B1 (n:=10+v3) (by omega) (by omega),B1 (n:=800+v4) (by omega) (by omega),B1 (n:=10+v5) (by omega) (by omega),B1 (n:=900+v7) (by omega) (by omega),B1 (n:=5+v8) (by omega) (by omega)]
 cases w9 with
 | true=>
  obtain⟨v10,c10,e10,h10,p10,q10,_⟩:=F4 (n:=300) h9 (by omega)
  obtain⟨v11,c11,e11,h11,p11,q11,_⟩:=F4 (n:=30) h10 (by omega)
  obtain⟨w12,c12,e12,h12⟩:=A6f (n:=3) h11 (by omega)
  have e12':I7 ⟨c11.b,c11.i,c11.h⟩ 3=E (w12,c12):=e12
  obtain⟨v13,c13,e13,h13,p13,q13,_⟩:=F4 (n:=300) h12 (by omega)
  have q10:=q10 (by omega); have q11:=q11 (by omega); have q13:=q13 (by omega)
  simp only[if_true,e10,e11,G]
  rw[ifa (by simp) (by omega),B1 (n:=700+v10) (by omega) (by omega),B1 (n:=20+v11) (by omega) (by omega)]
  simp only[A02,e12',G]
  cases w12 with
  | true=>
   simp only[if_true]
   rw[ifa (by simp) (by omega)]
   simp only[e13,G]
   rw[ifa (by simp) (by omega),B1 (n:=800+v13) (by omega) (by omega)]
   refine⟨_,_,rfl,h13,A9q (by cases w1<;>cases w6<;>kernel_rfl) fun s hs=> ?_,by simp⟩
   simp only[zJ,zC,zA,X,or_false] at hs
   rcases hs with rfl|rfl|rfl|rfl|rfl<;>exact C3q (by omega) (by omega)
  | false=>
   simp only[H,if_false,G]
   refine⟨_,_,rfl,h12,A9q (by cases w1<;>cases w6<;>kernel_rfl) fun s hs=> ?_,by simp⟩
   simp only[zJ,zC,zA,X,or_false] at hs
   rcases hs with rfl|rfl|rfl|rfl<;>exact C3q (by omega) (by omega)
 | false=>
  obtain⟨w12,c12,e12,h12⟩:=A6f (n:=3) h9 (by omega)
  have e12':I7 ⟨c9.b,c9.i,c9.h⟩ 3=E (w12,c12):=e12
  obtain⟨v13,c13,e13,h13,p13,q13,_⟩:=F4 (n:=300) h12 (by omega)
  have q13:=q13 (by omega)
  simp only[H,if_false,A02,e12',G]
  cases w12 with
  | true=>
   simp only[if_true]
   rw[ifa (by simp) (by omega)]
   simp only[e13,G]
   rw[ifa (by simp) (by omega),B1 (n:=800+v13) (by omega) (by omega)]
   refine⟨_,_,rfl,h13,A9q (by cases w1<;>cases w6<;>kernel_rfl) fun s hs=> ?_,by simp⟩
   simp only[zJ,zC,zA,X,or_false] at hs
   rcases hs with rfl|rfl|rfl|rfl<;>exact C3q (by omega) (by omega)
  | false=>
   simp only[H,if_false,G]
   refine⟨_,_,rfl,h12,A9q (by cases w1<;>cases w6<;>kernel_rfl) fun s hs=> ?_,by simp⟩
   simp only[zA,X,or_false] at hs
   rcases hs with rfl|rfl|rfl<;>exact C3q (by omega) (by omega)
def nm:Nat→List UInt8
 | 0=> [115,48]
 | 1=> [115,49]
 | _=> [115,50]
structure DrawnShip (j:Nat) (x:XShip):Prop where
 n:x.Name=nm j
 a:10≤x.Length∧x.Length≤400
 b:100≤x.Draught∧x.Draught≤2000
 c:0≤x.Line∧x.Line≤3
 d:0≤x.Tugs∧x.Tugs≤4
theorem C9g:A44 (nm 0)=T∧A44 (nm 1)=T∧A44 (nm 2)=T:=⟨by kernel_rfl,by kernel_rfl,by kernel_rfl⟩
theorem C6g{j:Nat}{x:XShip}(h:DrawnShip j x):Z8 x=T:=by
 obtain⟨h1,h2,h3,h4,h5⟩:=h
 have hn:A44 (nm j)=T:=by
  match j with
  | 0=>exact C9g.1
  | 1=>exact C9g.2.1
  | _+2=>exact C9g.2.2
 simp only[Z8,h1,hn,L,decide_eq_true_eq]
 exact⟨trivial,h2,h3,h4,h5⟩
def B8v(l:List XShip):Prop:=∀j (h:j<l.length),DrawnShip j l[j]
theorem D63{l:List XShip}(h:B8v l)(hl:l.length≤3):A6e l=T:=by
 have hs:∀j (h':j<l.length),A5b l l[j].Name=(j:Int):=by
  have hn:∀j (h':j<l.length),l[j].Name=nm j:=fun j h'=>(h j h').n
  match l,hl,hn with
  | [],_,_=>intro j h'; simp at h'
  | [a],_,hn=>
   have a0:a.Name=nm 0:=hn 0 (by simp)
   intro j h'
   have:j=0:=by simp at h'; omega
   subst this
   simp only[V,a0,A5b,B2s,zB,I,List.foldr,List.getElem?_cons_zero,decide_true,if_true]
  | [a,b],_,hn=>
   have a0:a.Name=nm 0:=hn 0 (by simp)
   have b0:b.Name=nm 1:=hn 1 (by simp)
   intro j h'
   have:j=0∨j=1:=by simp at h'; omega
   rcases this with rfl|rfl
   ·simp[a0,b0,A5b,B2s,I,nm]
   ·simp[a0,b0,A5b,B2s,I,nm]
  | [a,b,c],_,hn=>
   have a0:a.Name=nm 0:=hn 0 (by simp)
   have b0:b.Name=nm 1:=hn 1 (by simp)
   have c0:c.Name=nm 2:=hn 2 (by simp)
   intro j h'
   have:j=0∨j=1∨j=2:=by simp at h'; omega
   rcases this with rfl|rfl|rfl
   ·simp[a0,b0,c0,A5b,B2s,I,nm]
   ·simp[a0,b0,c0,A5b,B2s,I,nm]
   ·simp[a0,b0,c0,A5b,B2s,I,nm]
  | _::_::_::_::_,hl,_=>simp at hl
 simp only[A6e,L,decide_eq_true_eq,W,zK]
 refine⟨by omega,fun j hj=> ?_⟩
 simp only[C4w,N hj,L,decide_eq_true_eq]
 exact⟨C6g (h j hj),hs j hj⟩
theorem D3t{c:Xl01Cur}(h:CurOk c){i:Nat}(hi:i≤2):∃x c',A2g c (i:Int)=E (x,c')∧CurOk c'∧DrawnShip i x:=by
 obtain⟨v1,c1,e1,h1,p1,q1,_⟩:=F4 (n:=200) h (by omega)
 obtain⟨v2,c2,e2,h2,p2,q2,_⟩:=F4 (n:=500) h1 (by omega)
 obtain⟨v3,c3,e3,h3,p3,q3,_⟩:=F4 (n:=4) h2 (by omega)
 obtain⟨v4,c4,e4,h4,p4,q4,_⟩:=F4 (n:=3) h3 (by omega)
 obtain⟨v5,c5,e5,h5⟩:=A6f (n:=4) h4 (by omega)
 have q1:=q1 (by omega); have q2:=q2 (by omega); have q3:=q3 (by omega); have q4:=q4 (by omega)
 have f0:∃r,A66 (i:Int)=E r∧ [115]++r=nm i∧r.length=1:=by
  have:i=0∨i=1∨i=2:=by omega
  rcases this with rfl|rfl|rfl
  ·exact⟨[48],by kernel_rfl,rfl,rfl⟩
  ·exact⟨[49],by kernel_rfl,rfl,rfl⟩
  ·exact⟨[50],by kernel_rfl,rfl,rfl⟩
 obtain⟨r,f1,f2,f3⟩:=f0
 refine⟨⟨[115]++r,40+v1,600+v2,v3,v4,v5⟩,c5,?_,h5,⟨f2,⟨by simp only; omega,by simp only; omega⟩,⟨by simp only; omega,by simp only; omega⟩,⟨by simp only; omega,by simp only; omega⟩,⟨by simp only; omega,by simp only; omega⟩⟩⟩
 unfold A2g
 simp only[f1,e1,e2,e3,e4,e5,G]
 rw[if_pos (by rw[f3]; rfl),B1 (n:=40+v1) (by omega) (by omega),B1 (n:=600+v2) (by omega) (by omega)]
theorem C8m{c:Xl01Cur}(h:CurOk c):∃l c',A3k c 3=E (l,c')∧CurOk c'∧B8v l∧1≤l.length∧l.length≤3:=by
 obtain⟨v1,c1,e1,h1,p1,q1,_⟩:=F4 (n:=3) h (by omega)
 have q1:=q1 (by omega)
 have key:∀(k i n:Nat) (c:Xl01Cur) (l:List XShip),k<n→CurOk c→l.length=i→i+k≤3→B8v l→∃l' c',V6 n (k:Int) c.b c.i c.h l=E (l',c')∧CurOk c'∧B8v l'∧l'.length=i+k:=by
  intro k
  induction k with
  | zero=>
   intro i n c l hn hc hl hi hd
   obtain⟨q,rfl⟩:=sn (n:=n) (by omega)
   exact⟨l,c,by simp[V6],hc,hd,by omega⟩
  | succ k ih=>
   intro i n c l hn hc hl hi hd
   obtain⟨q,rfl⟩:=sn (n:=n) (by omega)
   obtain⟨x,c',e,h',dx⟩:=D3t (i:=l.length) hc (by omega)
   have e':A2g ⟨c.b,c.i,c.h⟩ (l.length:Int)=E (x,c'):=e
   have hk:(0:Int)<((k+1:Nat):Int):=by omega
   rw[V6]
   simp only[hk,decide_true,if_true,e',G]
   rw[if_pos (apk (by omega) (by simp) (by omega)),show zL .i64 (((k+1:Nat):Int) - 1)=(k:Int) from by rw[B1 (by omega) (by omega)]; omega]
   obtain⟨l',c2,g1,g2,g3,g4⟩:=ih (i+1) q c' (l++ [x]) (by omega) h' (by simp; omega) (by omega) fun j hj=>by
    by_cases hjl:j<l.length
    ·rw[Q hjl]; exact hd j hjl
    ·have:j=l.length:=by simp at hj; omega
     subst this
     simpa using dx
   exact⟨l',c2,g1,g2,g3,by omega⟩
 obtain⟨l,c2,e2,h2,d2,n2⟩:=key (1+v1).toNat 0 bigN c1 [] (by rw[T8]; omega) h1 rfl (by omega) fun j h=>by simp at h
 refine⟨l,c2,?_,h2,d2,by omega,by omega⟩
 unfold A3k
 rw[e1,G,B1 (by omega) (by omega),show(1:Int)+v1=((1+v1).toNat:Int) by omega]
 exact e2
theorem C8o{c:Xl01Cur}(h:CurOk c):∃l c',A3n c=E (l,c')∧CurOk c'∧l.length=64∧∀x∈l,0≤x∧x≤240:=by
 have e0:A3a=E (zF 64 (0:Int)):=by kernel_rfl
 have key:∀(k i n:Nat) (c:Xl01Cur) (l:List Int),i+k=64→k<n→CurOk c→l.length=64→(∀x∈l,0≤x∧x≤240)→∃l' c',Q6 (zF 64 (0:Int)) n (i:Int) c.b c.i c.h l=E (l',c')∧CurOk c'∧l'.length=64∧∀x∈l',0≤x∧x≤240:=by
  intro k
  induction k with
  | zero=>
   intro i n c l hi hn hc hl hx
   obtain⟨q,rfl⟩:=sn (n:=n) (by omega)
   have:i=64:=by omega
   subst this
   exact⟨l,c,by simp[Q6],hc,hl,hx⟩
  | succ k ih=>
   intro i n c l hi hn hc hl hx
   obtain⟨q,rfl⟩:=sn (n:=n) (by omega)
   obtain⟨v,c',e,h',p,qv,_⟩:=F4 (n:=5) hc (by omega)
   have qv:=qv (by omega)
   have e':A8 ⟨c.b,c.i,c.h⟩ 5=E (v,c'):=e
   have hlt:(i:Int)<((zF 64 (0:Int)).length:Int):=by simp; omega
   have hw:zL .i64 ((i:Int)+1)=((i+1:Nat):Int):=by rw[B1 (by omega) (by omega)]; rfl
   rw[Q6]
   simp only[hlt,decide_true,if_true,hw,e',G,F2 (show i<l.length by omega)]
   split
   ·rw[B1 (n:=5*v) (by omega) (by omega)]
    refine ih (i+1) q c' _ (by omega) (by omega) h' (by simpa using hl) fun x hx'=> ?_
    rcases List.mem_or_eq_of_mem_set hx' with hx' | hx'
    ·exact hx x hx'
    ·subst hx'; omega
   ·exact ih (i+1) q c l (by omega) (by omega) hc hl hx
 obtain⟨l,c',e1,h1,h2,h3⟩:=key 64 0 bigN c (zF 64 0) rfl (by rw[T8]; omega) h (by simp) fun x hx=>by
  have:=List.eq_of_mem_replicate hx
  omega
 exact⟨l,c',by unfold A3n; rw[e0,G]; exact e1,h1,h2,h3⟩
theorem D2r{c:Xl01Cur}(h:CurOk c):∃w c',A4h c=E (w,c')∧CurOk c'∧B4j w=T∧w.Moves.length≤maxLen:=by
 obtain⟨v1,c1,e1,h1,p1,q1,_⟩:=F4 (n:=4) h (by omega)
 obtain⟨v2,c2,e2,h2,p2,q2,_⟩:=F4 (n:=3) h1 (by omega)
 obtain⟨v3,c3,e3,h3,p3,q3,_⟩:=F4 (n:=60) h2 (by omega)
 obtain⟨l,c4,e4,h4,l1,l2⟩:=C8o h3
 have q1:=q1 (by omega); have q2:=q2 (by omega); have q3:=q3 (by omega)
 refine⟨⟨1+v1,1+v2,v3,l⟩,c4,?_,h4,?_,smx (by simp only; omega)⟩
 ·unfold A4h
  simp only[e1,e2,e3,e4,G]
  rw[B1 (n:=1+v1) (by omega) (by omega),B1 (n:=1+v2) (by omega) (by omega)]
 ·simp only[B4j,A5m,L,decide_eq_true_eq,W]
  exact⟨⟨by omega,by omega⟩,⟨by omega,by omega⟩,⟨by omega,by omega⟩,l1,l2⟩
theorem C49{c:Xl01Cur}(h:CurOk c):∃x c',A19 c=E (x,c')∧CurOk c'∧HSmall x∧U9 x=T∧1≤x.Fleet.length∧4≤x.Chart.Points.length∧x.Fleet.length≤3:=by
 unfold A19
 obtain⟨f,c1,e1,h1,f1⟩:=C12 h
 obtain⟨ch,c2,e2,h2,g1,g2⟩:=D17 h1
 obtain⟨fl,c3,e3,h3,d1,d2,d3⟩:=C8m h2
 obtain⟨v4,c4,e4,h4,p4,q4,_⟩:=F4 (n:=30) h3 (by omega)
 obtain⟨v5,c5,e5,h5⟩:=A6f (n:=4) h4 (by omega)
 have q4:=q4 (by omega)
 obtain⟨w,c6,e6,h6,w1,w2⟩:=D2r h5
 have er:A25 c3=E (⟨v4,v5⟩,c5):=by simp only[A25,e4,e5,G]
 have hm: -1000≤zL .i64 (f.Tide.Mean+150)∧zL .i64 (f.Tide.Mean+150)≤1000:=by
  have e1':=e1
  obtain⟨t,ct,et,ht,m1,m2,_⟩:=C7z h
  have:f.Tide=t:=by
   unfold A2j at e1'
   rw[et,G] at e1'
   obtain⟨b,cb,eb,_⟩:=F4 (n:=3) ht (by omega)
   rw[eb,G] at e1'
   have gen:∀(n:Nat) (a b:Int) (x:List Int) (y z:Int) (l:List XSurge),P0 (t,ct) n a b x y z l=E (f,c1)→f.Tide=t:=by
    intro n
    induction n with
    | zero=>intro a b x y z l he; cases he
    | succ n ih=>
     intro a b x y z l he
     rw[P0] at he
     by_cases hb:(decide ((0:Int)<b))=T
     ·rw[if_pos hb] at he
      obtain⟨r1,_,he⟩:=C.1 he
      obtain⟨r2,_,he⟩:=C.1 he
      split at he
      ·obtain⟨r3,_,he⟩:=C.1 he
       exact ih _ _ _ _ _ _ he
      ·cases he
     ·rw[if_neg hb] at he
      cases he
      rfl
   exact gen _ _ _ _ _ _ _ e1'
  rw[this,B1 (by omega) (by omega)]
  omega
 simp only[e1,e2,e3,er,e6,G]
 have key:∀(k i n:Nat) (l:List XShip),i+k=fl.length→k<n→l.length=fl.length→B8v l→
   ∃x c',R8 (fl,c3) (w,c6) (f,c1) (ch,c2) (⟨v4,v5⟩,c5) (zL .i64 (f.Tide.Mean+150)) n (i:Int) l=E (x,c')∧CurOk c'∧HSmall x∧U9 x=T∧1≤x.Fleet.length∧4≤x.Chart.Points.length∧x.Fleet.length≤3:=by
  intro k
  induction k with
  | zero=>
   intro i n l hi hn hl hd
   obtain⟨q,rfl⟩:=sn (n:=n) (by omega)
   have:i=fl.length:=by omega
   subst this
   have hfl:=D63 hd (by omega)
   refine⟨⟨⟨⟨zL .i64 (f.Tide.Mean+150),f.Tide.Parts⟩,f.Surges⟩,ch,l,⟨v4,v5⟩,w⟩,c6,by simp[R8],h6,⟨(A4z g1).2.2.1,fun x hx=>A7d ((A8i hfl).2 x hx),w2⟩,?_,by simp only; omega,g2,by simp only; omega⟩
   simp only[U9,f1 _ hm.1 hm.2,g1,hfl,w1,D1w,L,decide_eq_true_eq]
   exact⟨trivial,trivial,trivial,⟨by omega,by omega⟩,⟨⟩⟩
  | succ k ih=>
   intro i n l hi hn hl hd
   obtain⟨q,rfl⟩:=sn (n:=n) (by omega)
   have hlt:i<fl.length:=by omega
   have hll:i<l.length:=by omega
   rw[R8]
   simp only[E1,hlt,decide_true,if_true,F2 hll,G,H8 hlt (smx (by omega)),zH]
   refine ih (i+1) q _ (by omega) (by omega) (by simpa using hl) fun j hj=> ?_
   have hj':j<l.length:=by simpa using hj
   have hdj:=hd j hj'
   rw[List.getElem_set]
   split
   ·rename_i hij
    subst hij
    refine⟨hdj.n,hdj.a,hdj.b,hdj.c,?_⟩
    simp only
    have:=hdj.d
    split<;>omega
   ·exact hdj
 exact key fl.length 0 bigN fl (by omega) (E9 (smx (by omega))) rfl d1
theorem D23{c:Xl01Cur}(h:CurOk c){x:XHarbour}{s:Int}(hs:idx s x.Fleet.length=T)(h4:4≤x.Chart.Points.length):∃a c',A2f c s=E (a,c')∧CurOk c'∧A6n x a=T∧a.Ship=s:=by
 obtain⟨v1,c1,e1,h1,p1,q1,_⟩:=F4 (n:=30) h (by omega)
 obtain⟨v2,c2,e2,h2⟩:=A6f (n:=3) h1 (by omega)
 obtain⟨v3,c3,e3,h3,p3,q3,_⟩:=F4 (n:=400) h2 (by omega)
 have q1:=q1 (by omega); have q3:=q3 (by omega)
 have i0:idx 0 x.Chart.Points.length=T:=A7i.2 ⟨by omega,by omega⟩
 have i3:idx 3 x.Chart.Points.length=T:=A7i.2 ⟨by omega,by omega⟩
 unfold A2f
 simp only[e1,e2,G,A2r,e3]
 rw[B1 (n:=15*v1) (by omega) (by omega),B1 (n:=15*v1+60) (by omega) (by omega),B1 (n:=15*v1+60+v3) (by omega) (by omega)]
 have good:∀p q:Int,idx p x.Chart.Points.length=T→idx q x.Chart.Points.length=T→p≠q→A6n x ⟨s,p,q,15*v1,15*v1+60+v3⟩=T:=fun p q hp hq hne=>by
  simp only[A6n,hs,hp,hq,A5m,L,decide_eq_true_eq]
  exact⟨trivial,trivial,trivial,hne,⟨by omega,by omega⟩,by omega,by omega⟩
 cases v2 with
 | true=>exact⟨_,c3,rfl,h3,good 3 0 i3 i0 (by omega),rfl⟩
 | false=>exact⟨_,c3,rfl,h3,good 0 3 i0 i3 (by omega),rfl⟩
end Go.Vi
