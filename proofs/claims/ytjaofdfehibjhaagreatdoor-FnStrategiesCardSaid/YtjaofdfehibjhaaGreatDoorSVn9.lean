/-
Plain laws. No condition.
-/
import Derived.Test.YtjaofdfehibjhaaGreatDoorSVm9
namespace Go.Vi
set_option linter.all false
open Option renaming bind_some → O, some → E
open Bool renaming false_eq_true → P, and_eq_true → X, not_true → zH, true → T, false → F
open List renaming getElem?_eq_getElem → Q, getElem?_eq_some_iff → V, getElem_mem → W, getElem?_append_left → Y, getElem?_append_right → C, take_succ_eq_append_getElem → I, replicate_zero → zA, getElem?_cons_succ → zB, nil_append → zC, mem_of_getElem? → zD, length_nil → zF, mem_append → zI, mem_singleton → zJ
open Option.some renaming injEq → U
open Nat renaming lt_irrefl → zE, lt_or_ge → zK
open Int renaming toNat_zero → zG
open IntKind renaming wrap → zL
open _root_ renaming List → G, Int → H, Nat → N
def Srg(l:G X6)(m:H)(a:N):Prop:=(∃x,l[a]?=E x∧(a=0∨x.From≤m))∧∀j y,a<j→l[j]?=E y→m<y.From
theorem Srg.uniq{l:G X6}{m:H}{a b:N}(ha:Srg l m a)(hb:Srg l m b):a=b:=by
 obtain⟨⟨x,x1,x2⟩,x3⟩:=ha
 obtain⟨⟨y,y1,y2⟩,y3⟩:=hb
 rcases Nat.lt_trichotomy a b with h|h|h
 ·have:=x3 b y h y1
  omega
 ·exact h
 ·have:=y3 a x h x1
  omega
theorem B6x{f:X8}{m:H}(h0:0<f.Surges.length)(h6:f.Surges.length≤1000):∃a:N,C5 f m=E (a:H)∧Srg f.Surges m a:=by
 have hl:f.Surges.length≤maxLen:=smx (by omega)
 have key:∀(k i n a:N),i+k=f.Surges.length→k<n→(∃x,f.Surges[a]?=E x∧(a=0∨x.From≤m))→(∀j y,a<j→j<i→f.Surges[j]?=E y→m<y.From)→∃a':N,E8 m f n (a:H) (i:H)=E (a':H)∧Srg f.Surges m a':=by
  intro k
  induction k with
  | zero=>
   intro i n a hi hn h1 h2
   obtain⟨q,rfl⟩:=sn (n:=n) (by omega)
   have:i=f.Surges.length:=by omega
   subst this
   exact⟨a,by simp[E8],h1,fun j y hj hy=>h2 j y hj (V.1 hy).1 hy⟩
  | succ k ih=>
   intro i n a hi hn h1 h2
   obtain⟨q,rfl⟩:=sn (n:=n) (by omega)
   have hlt:i<f.Surges.length:=by omega
   have hg:=Q hlt
   by_cases hm:f.Surges[i].From≤m
   ·obtain⟨a',e1,e2⟩:=ih (i+1) q i (by omega) (by omega) ⟨_,hg,.inr hm⟩ fun j y h3 h4=>by omega
    rw[← E5 hlt hl] at e1
    refine⟨a',?_,e2⟩
    simp only[E8,S5,hg,O,C8,hlt,decide_true,if_true,hm]
    exact e1
   ·obtain⟨a',e1,e2⟩:=ih (i+1) q a (by omega) (by omega) h1 fun j y h3 h4 h5=>by
     by_cases hj:j=i
     ·subst hj
      rw[hg] at h5
      simp only[U] at h5
      subst h5
      omega
     ·exact h2 j y h3 (by omega) h5
    rw[← E5 hlt hl] at e1
    refine⟨a',?_,e2⟩
    simp only[E8,S5,hg,O,C8,hlt,decide_true,if_true,hm,decide_false,P,if_false]
    exact e1
 exact key f.Surges.length 0 bigN 0 (by omega) (D7 hl) ⟨_,Q h0,.inl rfl⟩ fun j y h1 h2=>by omega
theorem C83{f:X8}{m:H}(h0:0<f.Surges.length)(h6:f.Surges.length≤1000){a:N}(ha:Srg f.Surges m a):C5 f m=E (a:H):=by
 obtain⟨b,e,hb⟩:=B6x (m:=m) h0 h6
 rw[ha.uniq hb]
 exact e
theorem D9i{f:X8}(h:A00 f=T):∃x,f.Surges[0]?=E x∧x.From=0:=by
 simp only[A00,X,B40] at h
 have h1:=h.2.2.1
 split at h1
 ·rename_i x hx
  exact⟨x,hx,by simpa using h1⟩
 ·cases h1
theorem C9e{f:X8}(hf:A00 f=T){m:H}(h0:0≤m){a:N}(ha:Srg f.Surges m a){s:X6}(hs:f.Surges[a]?=E s):s.From≤m:=by
 obtain⟨⟨x,x1,x2⟩,_⟩:=ha
 rw[hs] at x1
 simp only[U] at x1
 subst x1
 rcases x2 with rfl|x2
 ·obtain⟨y,y1,y2⟩:=D9i hf
  rw[hs] at y1
  simp only[U] at y1
  subst y1
  omega
 ·exact x2
theorem C07{f:X8}(hf:A00 f=T){m:H}(h0:0≤m)(h1:m≤2880):∃(a:N) (s:X6),Srg f.Surges m a∧f.Surges[a]?=E s∧S8 f m=E (s.Low,s.High,T)∧ -500≤s.Low∧s.Low≤s.High∧s.High≤500:=by
 obtain⟨_,l0,l6⟩:=A8x hf
 obtain⟨a,e,ha⟩:=B6x (f:=f) (m:=m) l0 (by omega)
 have ha':=ha
 obtain⟨⟨s,s1,_⟩,_⟩:=ha'
 obtain⟨hlt,rfl⟩:=V.1 s1
 have b:=A92 hf a hlt
 have hm:(decide (0≤m)&&decide (m≤2880))=T:=by simp; omega
 refine⟨a,f.Surges[a],ha,s1,?_,by omega,by omega,by omega⟩
 unfold S8
 rw[W3,hf,O,if_pos rfl,A02,hm,O]
 simp only[A4b,zH,P,if_false,e,O,S5,s1]
theorem F1f{l:G Xe}(h:l.length≤1000):A3j l=E l:=by
 unfold A3j mkS
 rw[if_pos ⟨by omega,by omega,by omega,by omega⟩]
 simp only[O,zG,zA,zC]
 rw[if_pos (by simp only[B9,zF,decide_eq_true_eq]; omega)]
theorem C8q{l:G X6}(h:l.length≤1000):L7 l=E l:=by
 unfold L7 mkS
 rw[if_pos ⟨by omega,by omega,by omega,by omega⟩]
 simp only[O,zG,zA,zC]
 rw[if_pos (by simp only[B9,zF,decide_eq_true_eq]; omega)]
theorem E7b{l:G Xd}(h:l.length≤1000):A2w l=E l:=by
 unfold A2w mkS
 rw[if_pos ⟨by omega,by omega,by omega,by omega⟩]
 simp only[O,zG,zA,zC]
 rw[if_pos (by simp only[B9,zF,decide_eq_true_eq]; omega)]
theorem E4t{l:G X3}(h:l.length≤1000):A03 l=E l:=by
 unfold A03 mkS
 rw[if_pos ⟨by omega,by omega,by omega,by omega⟩]
 simp only[O,zG,zA,zC]
 rw[if_pos (by simp only[B9,zF,decide_eq_true_eq]; omega)]
theorem E70{l:G Xc}(h:l.length≤1000):A3i l=E l:=by
 unfold A3i mkS
 rw[if_pos ⟨by omega,by omega,by omega,by omega⟩]
 simp only[O,zG,zA,zC]
 rw[if_pos (by simp only[B9,zF,decide_eq_true_eq]; omega)]
theorem B8s{f:X8}(hf:A00 f=T):A20 f.Tide=E f.Tide:=by
 have h4:f.Tide.Parts.length≤4:=by
  simp only[A00,A8p,X,decide_eq_true_eq] at hf
  exact hf.1.2.1
 simp only[A20,F1f (l:=f.Tide.Parts) (by omega),O]
def B3g(l:G X6)(at_ k:N)(x:X6):G X6:=l.take k++x::l.drop (at_+1)
theorem C2t{l:G X6}{a k:N}{x:X6}(hk:k≤l.length){j:N}(h:j<k):(B3g l a k x)[j]?=l[j]?:=by
 unfold B3g
 rw[Y (by simp; omega),List.getElem?_take,if_pos h]
theorem C2a{l:G X6}{a k:N}{x:X6}(hk:k≤l.length):(B3g l a k x)[k]?=E x:=by
 unfold B3g
 rw[C (by simp; omega)]
 simp[Nat.min_eq_left hk]
theorem B35{l:G X6}{a k:N}{x:X6}(hk:k≤l.length){j:N}(h:k<j):(B3g l a k x)[j]?=l[a+(j - k)]?:=by
 unfold B3g
 rw[C (by simp; omega)]
 simp only[List.length_take,Nat.min_eq_left hk]
 obtain⟨i,hi⟩:∃i,j - k=i+1:=⟨j - k - 1,by omega⟩
 rw[hi,zB,List.getElem?_drop,show a+1+i=a+(i+1) by omega]
def E0c:X8:=⟨⟨0,[]⟩,[]⟩
def B59(f:X8)(a k:N)(x:X6):X8:=⟨f.Tide,B3g f.Surges a k x⟩
def A6a(m lo hi:H)(s:X6):X6:=⟨m,if s.Low<lo then lo else s.Low,if hi<s.High then hi else s.High⟩
theorem D6h{f:X8}(hf:A00 f=T){m lo hi:H}(h0:0≤m)(h1:m≤2880){a:N}{s:X6}(ha:Srg f.Surges m a)(hs:f.Surges[a]?=E s) :
  A3d f m lo hi=E (if A00 (B59 f a (if s.From=m then a else a+1) (A6a m lo hi s))=T then(B59 f a (if s.From=m then a else a+1) (A6a m lo hi s),T) else(E0c,F)):=by
 obtain⟨_,l0,l6⟩:=A8x hf
 obtain⟨hlt,rfl⟩:=V.1 hs
 have hm:(decide (0≤m)&&decide (m≤2880))=T:=by simp; omega
 have hw:zL .i64 ((a:H)+1)=((a+1:N):H):=E5 hlt (smx (by omega))
 have hb:bnd (f.Surges.length:H) (f.Surges.length:H) ((a+1:N):H) f.Surges.length=E (a+1,f.Surges.length):=by
  unfold bnd
  rw[if_pos ⟨by omega,by omega,by omega,by omega⟩]
  simp
 have hd:(f.Surges.drop (a+1)).take (f.Surges.length - (a+1))=f.Surges.drop (a+1):=List.take_of_length_le (by simp)
 have two:∀(v pre:G X6) (y:X6),v=pre++ [y]→pre.length≤10→
   A0a m lo hi (a:H) f f.Surges[a] f.Tide v=E (if A00 ⟨f.Tide,pre++A6a m lo hi f.Surges[a]::f.Surges.drop (a+1)⟩=T then(⟨f.Tide,pre++A6a m lo hi f.Surges[a]::f.Surges.drop (a+1)⟩,T) else(E0c,F)):=fun v pre y hv hp=>by
  have hwl:zL .i64 ((v.length:H) - 1)=(pre.length:H):=by
   have hvl:v.length=pre.length+1:=by rw[hv]; simp
   rw[hvl,A7 (by omega) (by omega)]
   omega
  have hset:v.set pre.length (A6a m lo hi f.Surges[a])=pre++ [A6a m lo hi f.Surges[a]]:=by rw[hv]; exact B86 _ _ _
  unfold A0a
  rw[hwl,S5,show v[pre.length]?=E y by rw[hv]; simp,O,hw,hb,O]
  simp only[Int.toNat_natCast]
  rw[show(⟨m,(if f.Surges[a].Low<lo then lo else f.Surges[a].Low),(if hi<f.Surges[a].High then hi else f.Surges[a].High)⟩:X6)=A6a m lo hi f.Surges[a] from rfl,hset,hd]
  rw[if_pos (apk (by simp; omega) (by simp; omega) (by omega)),W3,O,List.append_assoc,List.singleton_append]
  split<;>rfl
 unfold A3d
 rw[W3,hf,O,if_pos rfl,A02,hm,O]
 simp only[A1y,zH,P,if_false,C83 (f:=f) l0 (by omega) ha,O,D8 hlt,B8s hf,hw,A5q (show a+1≤f.Surges.length by omega),List.drop_zero,Nat.sub_zero,C8q (l:=f.Surges.take (a+1)) (by simp; omega)]
 by_cases hsm:f.Surges[a].From=m
 ·rw[if_neg (by simpa using hsm),if_pos hsm]
  exact two _ (f.Surges.take a) f.Surges[a] (I hlt) (by simp; omega)
 ·rw[if_pos (by simpa using hsm),if_neg hsm,if_pos (apk (by simp; omega) (by simp) (by omega))]
  exact two _ (f.Surges.take (a+1)) _ rfl (by simp; omega)
theorem D1d{m lo hi:H}{s:X6}:s.Low≤(A6a m lo hi s).Low∧(A6a m lo hi s).High≤s.High:=by
 unfold A6a
 constructor
 ·simp only; split<;>omega
 ·simp only; split<;>omega
theorem E8k{f:X8}(hf:A00 f=T){m lo hi:H}(h0:0≤m){a:N}{s:X6}(ha:Srg f.Surges m a)(hs:f.Surges[a]?=E s){t:H}(ht:0≤t){b:N}{y:X6}(hb:Srg f.Surges t b)(hy:f.Surges[b]?=E y) :
  ∃(q:N) (z:X6),Srg (B3g f.Surges a (if s.From=m then a else a+1) (A6a m lo hi s)) t q∧(B3g f.Surges a (if s.From=m then a else a+1) (A6a m lo hi s))[q]?=E z∧y.Low≤z.Low∧z.High≤y.High:=by
 obtain⟨hlt,_⟩:=V.1 hs
 have hsm:=C9e hf h0 ha hs
 have hyt:=C9e hf ht hb hy
 generalize hk:(if s.From=m then a else a+1)=k
 have hka:k=a∧s.From=m∨k=a+1∧s.From≠m:=by
  split at hk
  ·exact .inl ⟨hk.symm,by assumption⟩
  ·exact .inr ⟨hk.symm,by assumption⟩
 have hkl:k≤f.Surges.length:=by omega
 have hia:=ha.2
 have hib:=hb.2
 by_cases htm:t<m
 ·-- ahead of the reading
  have hba:b≤a:=by
   rcases zK a b with h|h
   ·have:=hia b y h hy; omega
   ·exact h
  have hbk:b<k:=by
   rcases hka with ⟨h1,h2⟩|⟨h1,h2⟩
   ·rcases zK b a with h|h
    ·omega
    ·have:b=a:=by omega
     subst this
     rw[hs] at hy
     simp only[U] at hy
     subst hy
     omega
   ·omega
  refine⟨b,y,⟨⟨y,by rw[C2t hkl hbk]; exact hy,.inr hyt⟩,fun j z hj hz=> ?_⟩,by rw[C2t hkl hbk]; exact hy,by omega,by omega⟩
  rcases Nat.lt_trichotomy j k with h|h|h
  ·rw[C2t hkl h] at hz
   exact hib j z hj hz
  ·subst h
   rw[C2a hkl] at hz
   simp only[U] at hz
   subst hz
   exact htm
  ·rw[B35 hkl h] at hz
   have:=hia _ z (by omega) hz
   omega
 ·have hab:a≤b:=by
   rcases zK b a with h|h
   ·have:=hib a s h hs; omega
   ·exact h
  rcases Nat.eq_or_lt_of_le hab with h|h
  ·subst h
   rw[hs] at hy
   simp only[U] at hy
   subst hy
   refine⟨k,A6a m lo hi s,⟨⟨_,C2a hkl,.inr (by show m≤t; omega)⟩,fun j z hj hz=> ?_⟩,C2a hkl,D1d.1,D1d.2⟩
   rw[B35 hkl hj] at hz
   exact hib _ z (by omega) hz
  ·have e:a+(k+(b - a) - k)=b:=by omega
   refine⟨k+(b - a),y,⟨⟨y,by rw[B35 hkl (by omega),e]; exact hy,.inr hyt⟩,fun j z hj hz=> ?_⟩,by rw[B35 hkl (by omega),e]; exact hy,by omega,by omega⟩
   rw[B35 hkl (by omega)] at hz
   exact hib _ z (by omega) hz
theorem E8g{l:G Xe}(hl:l.length≤maxLen):A1z l l=E T:=by
 unfold A1z
 rw[if_neg (by simp)]
 have key:∀(k i n:N),i+k=l.length→k<n→P7 l l n (i:H)=E T:=by
  intro k
  induction k with
  | zero=>
   intro i n hi hn
   obtain⟨q,rfl⟩:=sn (n:=n) (by omega)
   have:i=l.length:=by omega
   subst this
   simp[P7]
  | succ k ih=>
   intro i n hi hn
   obtain⟨q,rfl⟩:=sn (n:=n) (by omega)
   have hlt:i<l.length:=by omega
   rw[P7]
   simp only[C8,hlt,decide_true,if_true,D8 hlt,O,E5 hlt (by omega),beq_self_eq_true,Bool.and_self]
   exact ih (i+1) q (by omega) (by omega)
 exact key l.length 0 bigN (by omega) (D7 hl)
theorem C77{f:X8}(hf:A00 f=T):∀x∈f.Surges,0≤x.From:=fun x hx=>by
 obtain⟨i,hi,rfl⟩:=List.getElem_of_mem hx
 simp only[A00,X,List.all_eq_true,List.mem_range] at hf
 have:=hf.2.2.2 i hi
 simp only[B4k,Q hi,X,A69,decide_eq_true_eq] at this
 omega
theorem C9v{f:X8}(hf:A00 f=T){m lo hi:H}(h0:0≤m){a:N}{s:X6}(ha:Srg f.Surges m a)(hs:f.Surges[a]?=E s)
  (hg:A00 (B59 f a (if s.From=m then a else a+1) (A6a m lo hi s))=T):U0 (B59 f a (if s.From=m then a else a+1) (A6a m lo hi s)) f=E T:=by
 obtain⟨_,l0,l6⟩:=A8x hf
 have at_:=fun(t:H) (ht:0≤t) (b:N) (y:X6) hb hy=>E8k (lo:=lo) (hi:=hi) hf h0 ha hs (t:=t) ht (b:=b) (y:=y) hb hy
 have hsur:(B59 f a (if s.From=m then a else a+1) (A6a m lo hi s)).Surges=B3g f.Surges a (if s.From=m then a else a+1) (A6a m lo hi s):=rfl
 have htd:(B59 f a (if s.From=m then a else a+1) (A6a m lo hi s)).Tide=f.Tide:=rfl
 rw[← hsur] at at_
 generalize B59 f a (if s.From=m then a else a+1) (A6a m lo hi s)=g at hg at_ htd
 obtain⟨_,g0,g6⟩:=A8x hg
 have h4:f.Tide.Parts.length≤4:=by
  simp only[A00,A8p,X,decide_eq_true_eq] at hf
  exact hf.1.2.1
 unfold U0
 simp only[W3,hf,hg,O,if_true,htd,A6l,beq_self_eq_true,E8g (l:=f.Tide.Parts) (smx (by omega)),C8q (l:=g.Surges) (by omega)]
 rw[if_pos (apk (by omega) (by omega) (by omega))]
 have hall:∀x∈g.Surges++f.Surges,0≤x.From:=fun x hx=>by
  rcases zI.1 hx with h|h
  ·exact C77 hg x h
  ·exact C77 hf x h
 generalize hL:g.Surges++f.Surges=L at hall
 have hLl:L.length≤12:=by rw[← hL]; simp; omega
 have key:∀(k i n:N),i+k=L.length→k<n→Q4 g f (L.length:H) L n (i:H)=E T:=by
  intro k
  induction k with
  | zero=>
   intro i n hi hn
   obtain⟨q,rfl⟩:=sn (n:=n) (by omega)
   have:i=L.length:=by omega
   subst this
   simp[Q4]
  | succ k ih=>
   intro i n hi hn
   obtain⟨q,rfl⟩:=sn (n:=n) (by omega)
   have hlt:i<L.length:=by omega
   have ht:=hall _ (W hlt)
   obtain⟨b,eb,hb⟩:=B6x (f:=f) (m:=L[i].From) l0 (by omega)
   have hb':=hb
   obtain⟨⟨y,hy,_⟩,_⟩:=hb'
   obtain⟨q',z,hq,hz,z1,z2⟩:=at_ _ ht b y hb hy
   have n1:¬z.Low<y.Low:=by omega
   have n2:¬y.High<z.High:=by omega
   rw[Q4]
   simp only[C8,hlt,decide_true,if_true,D8 hlt,O,C83 (f:=g) g0 (by omega) hq,eb,S5,hz,hy,n1,n2,decide_false,P,if_false,E5 hlt (smx (by omega))]
   exact ih (i+1) q (by omega) (by omega)
 exact key L.length 0 bigN (by omega) (D7 (smx (by omega)))
def B7d:X4:=⟨E0c,⟨[],[]⟩,[],⟨0,F⟩,⟨0,0,0,[]⟩⟩
def E2p(h:X4)(f:X8):X4:=⟨f,h.Chart,h.Fleet,h.Regime,h.Crew⟩
theorem E1e{h:X4}(s:HSmall h)(hh:L8 h=T){m lo hi:H}(h0:0≤m)(h1:m≤2880):∃r b,O9 h m lo hi=E (r,b)∧(b=F→r=B7d)∧
  (b=T→HSmall r∧L8 r=T∧(∀a,A4r r a=A4r h a)∧U0 r.Forecast h.Forecast=E T):=by
 have hh':=hh
 simp only[L8,X] at hh'
 obtain⟨hf,hc,hfl,hr,hcr⟩:=hh'
 obtain⟨a,sg,ha,hs,_⟩:=C07 hf h0 h1
 have e:=D6h hf (lo:=lo) (hi:=hi) h0 h1 ha hs
 have nb:=C9v hf (lo:=lo) (hi:=hi) h0 ha hs
 generalize B59 h.Forecast a (if sg.From=m then a else a+1) (A6a m lo hi sg)=g at e nb
 unfold O9
 rw[e,O]
 cases hg:A00 g with
 | false=>exact⟨B7d,F,rfl,fun _=>rfl,fun h=>by cases h⟩
 | true=>
  have hmv:h.Crew.Moves.length=64:=by
   simp only[B32,X,decide_eq_true_eq] at hcr
   exact hcr.2.2.2.1
  obtain⟨_,_,l6⟩:=A8x hf
  have hcf:A2m h=E h:=by
   simp only[A2m,A4t,B8s hf,O,C8q (l:=h.Forecast.Surges) (by omega),E7b (l:=h.Chart.Points) (by have:=(A4l hc).1; omega),E4t (l:=h.Chart.Segments) (by have:=(A4l hc).2.1; omega),E70 (l:=h.Fleet) (by have:=(A96 hfl).1; omega),B5p (l:=h.Crew.Moves) (by omega)]
  simp only[if_true,A3b s,hh,O,A0s,zH,P,if_false,hcf]
  refine⟨E2p h g,T,rfl,fun h=>(by cases h),fun _=>⟨⟨s.pn,s.fn,s.mv⟩,?_,fun a=>rfl,nb hg⟩⟩
  simp only[L8,E2p,hg,hc,hfl,hr,hcr,Bool.and_self]
theorem D2o(cs:G Xa):A1j B7d cs=E ([],0,F):=by
 have:O0 B7d cs=E F:=by
  unfold O0
  rw[A3b ⟨fun x hx=>(by cases hx),fun x hx=>(by cases hx),by simp[B7d]⟩,show L8 B7d=F by decide,O]
  rfl
 simp only[A1j,this,O,P,if_false]
def later(m:H)(a:Xa):Xa:=⟨a.Ship,a.From,a.To,a.Ready+m,a.Due+m⟩
theorem D3o{f:X8}(hf:A00 f=T)(m:H):∃s,A46 f m=E s∧ -500≤s.Low∧s.Low≤s.High∧s.High≤500:=by
 obtain⟨_,l0,l6⟩:=A8x hf
 have key:∀(k i n:N) (s:X6),i+k=f.Surges.length→k<n→(-500≤s.Low∧s.Low≤s.High∧s.High≤500)→∃s',T5 m f n (i:H) s.From s.Low s.High=E s'∧ -500≤s'.Low∧s'.Low≤s'.High∧s'.High≤500:=by
  intro k
  induction k with
  | zero=>
   intro i n s hi hn hs
   obtain⟨q,rfl⟩:=sn (n:=n) (by omega)
   have:i=f.Surges.length:=by omega
   subst this
   exact⟨s,by simp[T5],hs⟩
  | succ k ih=>
   intro i n s hi hn hs
   obtain⟨q,rfl⟩:=sn (n:=n) (by omega)
   have hlt:i<f.Surges.length:=by omega
   have b:=A92 hf i hlt
   rw[T5]
   simp only[C8,hlt,decide_true,if_true,D8 hlt,O,E5 hlt (smx (by omega))]
   split
   ·exact ih (i+1) q f.Surges[i] (by omega) (by omega) (by omega)
   ·exact ih (i+1) q s (by omega) (by omega) hs
 have b:=A92 hf 0 l0
 unfold A46
 rw[show(0:H)=((0:N):H) from rfl,D8 l0,O]
 exact key f.Surges.length 0 bigN f.Surges[0] (by omega) (D7 (smx (by omega))) (by omega)
theorem D1f{α:Type}(y z:α)(B:G α):∀A:G α,(A++y::B).set A.length z=A++z::B
 | []=>rfl
 | a::A=>by simp only[List.cons_append,List.length_cons,List.set_cons_succ,D1f y z B A]
theorem C99{b:G H}(hb:b.length≤maxLen):∃h cs m cuts,A5o b=E (h,cs,m,cuts)∧HSmall h∧L8 h=T∧CallsGood h cs∧1≤cs.length∧0≤m∧m≤2880∧cuts.length≤1:=by
 obtain⟨c,e,hc⟩:=F1u hb
 obtain⟨x,c1,e1,h1,s1,s2,s3,s4,s5⟩:=C8z hc
 obtain⟨l,c2,e2,h2,g1,g2,g3⟩:=D1m h1 (x:=x) (cx:=c1) s5 s4 s3
 obtain⟨m,c3,e3,h3,p3,q3,_⟩:=F2 (n:=120) h2 (by omega)
 have q3:=q3 (by omega)
 have hh':=s2
 simp only[L8,X] at hh'
 obtain⟨sg,es,k1,k2,k3⟩:=D3o hh'.1 m
 have h6:=g1.six
 have hin:∀a∈l,0≤a.Ready∧a.Ready≤a.Due∧a.Due≤1000:=fun a ha=>by
  have h1:=g1.ok a ha
  have h2:=g3 a ha
  simp only[A4r,X,A5s,decide_eq_true_eq] at h1
  omega
 have good:CallsGood x (l.map (later m)):=by
  refine⟨fun a ha=> ?_,fun i j hi hj hij=> ?_,by simpa using h6⟩
  ·obtain⟨a',ha',rfl⟩:=List.mem_map.1 ha
   have h1:=g1.ok a' ha'
   have h2:=hin a' ha'
   simp only[A4r,X,A5s,decide_eq_true_eq] at h1 ⊢
   obtain⟨i1,i2,i3,i4,_⟩:=h1
   exact⟨i1,i2,i3,i4,⟨by simp only[later]; omega,by simp only[later]; omega⟩,by simp only[later]; omega,by simp only[later]; omega⟩
  ·simp only[List.length_map] at hi hj
   rw[List.getElem_map,List.getElem_map]
   exact g1.ne i j hi hj hij
 have fin:∀(v:Bool) (d:X1),CurOk d→∃cuts d',A0i (m,c3) (x,l,c2) sg (l.map (later m)) v d.b d.i d.h=E (x,l.map (later m),m,cuts,d')∧cuts.length≤1:=fun v d hd=>by
  cases v with
  | false=>exact⟨[],d,by simp[A0i,A4m],by simp⟩
  | true=>
   have hw:zL .i64 (sg.High - sg.Low)=sg.High - sg.Low:=A7 (by omega) (by omega)
   obtain⟨v4,c4,e4,_⟩:=F2 (n:=sg.High - sg.Low) hd (by omega)
   have e4:A4 ⟨d.b,d.i,d.h⟩ (sg.High - sg.Low)=E (v4,c4):=e4
   refine⟨[zL .i64 (zL .i64 (sg.Low+1)+v4)],c4,?_,by simp⟩
   simp only[A0i,if_true,hw,e4,O]
   rw[if_pos (apk (by simp) (by simp) (by omega))]
   rfl
 have key:∀(k i n:N),i+k=l.length→k<n→∃cuts d',A0j (m,c3) (x,l,c2) n (i:H) ((l.take i).map (later m)++l.drop i)=E (x,l.map (later m),m,cuts,d')∧cuts.length≤1:=by
  intro k
  induction k with
  | zero=>
   intro i n hi hn
   obtain⟨q,rfl⟩:=sn (n:=n) (by omega)
   have:i=l.length:=by omega
   subst this
   rw[A0j]
   simp only[C8,zE,decide_false,P,if_false,List.take_length,List.drop_length,List.append_nil,es,O]
   split
   ·obtain⟨v,c5,e5,h5⟩:=A67 (n:=3) h3 (by omega)
    rw[e5,O]
    exact fin _ c5 h5
   ·exact fin _ c3 h3
  | succ k ih=>
   intro i n hi hn
   obtain⟨q,rfl⟩:=sn (n:=n) (by omega)
   have hlt:i<l.length:=by omega
   have hb:=hin _ (W hlt)
   have e:=ih (i+1) q (by omega) (by omega)
   rw[I hlt,List.map_append,List.append_assoc] at e
   have hA:((l.take i).map (later m)).length=i:=by simp; omega
   have mid:∀(y:Xa),((l.take i).map (later m)++y::l.drop (i+1))[i]?=E y:=fun y=>by
    rw[C (by omega),hA]
    simp
   have sets:∀(y z:Xa),((l.take i).map (later m)++y::l.drop (i+1)).set i z=(l.take i).map (later m)++z::l.drop (i+1):=fun y z=>by
    have:=D1f y z (l.drop (i+1)) ((l.take i).map (later m))
    rwa [hA] at this
   rw[List.drop_eq_getElem_cons hlt,A0j]
   simp only[C8,hlt,decide_true,if_true,S5,mid,O,Int.toNat_natCast,sets,E5 hlt (smx (by omega))]
   rw[A7 (n:=l[i].Ready+m) (by omega) (by omega),A7 (n:=l[i].Due+m) (by omega) (by omega)]
   exact e
 obtain⟨cuts,d',ek,hk⟩:=key l.length 0 bigN (by omega) (D7 (smx (by omega)))
 simp only[List.take_zero,List.map_nil,List.drop_zero,zC] at ek
 exact⟨x,l.map (later m),m,cuts,by simp only[A5o,A7v,A7x,e,e1,e2,e3,O]; rw[show(0:H)=((0:N):H) from rfl,ek,O],s1,s2,good,by simpa using g2,p3,by omega,hk⟩
structure Br (h:X4) (cs:G Xa) (m:H) (b:Xi):Prop where
 plan:∃x,O9 h m b.Low b.High=E (x,T)∧A29 x cs b.Plan=E T∧U0 x.Forecast h.Forecast=E T
 len:b.Plan.length=cs.length
 pas:∀o∈b.Plan,o.Passages.length≤100∧∀p∈o.Passages,m≤p.Start
 cost:C0u b.Plan
structure Zs (low high:H) (zs:G H):Prop where
 fst:zs[0]?=E low
 up:∀i x y,zs[i]?=E x→zs[i+1]?=E y→x<y
 two:2≤zs.length∧zs.length≤5
 lst:zs[zs.length - 1]?=E (high+1)
 bd:∀x∈zs,-500≤x∧x≤501
structure Strat (h:X4) (cs:G Xa) (m:H) (zs:G H) (g:Xh):Prop where
 min:g.Minute=m
 len:g.Branches.length+1=zs.length
 br:∀b∈g.Branches,Br h cs m b
 ch:∀(i:N) b,g.Branches[i]?=E b→zs[i]?=E b.Low∧zs[i+1]?=E (b.High+1)
theorem E4a{cuts:G H}{low high:H}(hb: -500≤low∧low≤high∧high≤500):∃b,A6u cuts low high=E b∧(b=T→Zs low high (low::(cuts++ [high+1]))):=by
 unfold A6u
 by_cases h3:(3:H)<(cuts.length:H)
 ·exact⟨F,by simp[h3],fun h=>by cases h⟩
 ·simp only[h3,decide_false,P,if_false]
  have key:∀(k i n:N),i+k=cuts.length→k<n→(∀(j:N) x,j<i→cuts[j]?=E x→low<x∧x≤high)→(∀(j:N) x y,j+1<i→cuts[j]?=E x→cuts[j+1]?=E y→x<y)→
    ∃b,Z8 cuts low high n (i:H)=E b∧(b=T→(∀(j:N) x,cuts[j]?=E x→low<x∧x≤high)∧∀(j:N) x y,cuts[j]?=E x→cuts[j+1]?=E y→x<y):=by
   intro k
   induction k with
   | zero=>
    intro i n hi hn h1 h2
    obtain⟨q,rfl⟩:=sn (n:=n) (by omega)
    have:i=cuts.length:=by omega
    subst this
    exact⟨T,by simp[Z8],fun _=>⟨fun j x hx=>h1 j x (V.1 hx).1 hx,fun j x y hx hy=>h2 j x y (V.1 hy).1 hx hy⟩⟩
   | succ k ih=>
    intro i n hi hn h1 h2
    obtain⟨q,rfl⟩:=sn (n:=n) (by omega)
    have hlt:i<cuts.length:=by omega
    have hg:=Q hlt
    have stop:∃b,(E F:Option Bool)=E b∧(b=T→(∀(j:N) x,cuts[j]?=E x→low<x∧x≤high)∧∀(j:N) x y,cuts[j]?=E x→cuts[j+1]?=E y→x<y):=⟨F,rfl,fun h=>by cases h⟩
    rw[Z8]
    simp only[C8,hlt,decide_true,if_true,D8 hlt,O,E5 hlt (smx (by omega))]
    by_cases c1:cuts[i]≤low
    ·simp only[c1,decide_true,if_true]; exact stop
    ·simp only[c1,decide_false,P,if_false]
     by_cases c2:high<cuts[i]
     ·simp only[c2,decide_true,if_true]; exact stop
     ·simp only[c2,decide_false,P,if_false]
      have n1:∀(j:N) x,j<i+1→cuts[j]?=E x→low<x∧x≤high:=fun j x hj hx=>by
       by_cases hji:j=i
       ·subst hji
        rw[hg] at hx
        simp only[U] at hx
        subst hx
        omega
       ·exact h1 j x (by omega) hx
      by_cases c3:(0:H)<(i:H)
      ·obtain⟨p,rfl⟩:=sn (n:=i) (by omega)
       have hp:p<cuts.length:=by omega
       simp only[c3,decide_true,if_true,B67 p (by omega),D8 hp,O]
       by_cases c4:cuts[p+1]≤cuts[p]
       ·simp only[c4,decide_true,if_true]; exact stop
       ·simp only[c4,decide_false,P,if_false]
        refine ih (p+1+1) q (by omega) (by omega) n1 fun j x y hj hx hy=> ?_
        by_cases hjp:j=p
        ·subst hjp
         rw[Q hp] at hx
         rw[hg] at hy
         simp only[U] at hx hy
         omega
        ·exact h2 j x y (by omega) hx hy
      ·simp only[c3,decide_false,P,if_false]
       exact ih (i+1) q (by omega) (by omega) n1 fun j x y hj hx hy=>by omega
  obtain⟨b,e,hr⟩:=key cuts.length 0 bigN (by omega) (D7 (smx (by omega))) (fun j x hj=>by omega) fun j x y hj=>by omega
  refine⟨b,e,fun h=> ?_⟩
  obtain⟨r1,r2⟩:=hr h
  have hin:∀x∈cuts,low<x∧x≤high:=fun x hx=>by
   obtain⟨j,hj⟩:=List.getElem?_of_mem hx
   exact r1 j x hj
  refine⟨rfl,fun i x y hx hy=> ?_,⟨by simp,by simp; omega⟩,by simp,fun x hx=> ?_⟩
  ·rw[zB] at hy
   have hil:i<(cuts++ [high+1]).length:=(V.1 hy).1
   simp only[List.length_append,List.length_singleton] at hil
   have hyv:low<y∧(i<cuts.length→y≤high)∧(i=cuts.length→y=high+1):=by
    by_cases hlt:i<cuts.length
    ·rw[Y hlt] at hy
     have:=r1 i y hy
     exact⟨this.1,fun _=>this.2,fun h=>by omega⟩
    ·have:i=cuts.length:=by omega
     subst this
     simp at hy
     exact⟨by omega,fun h=>by omega,fun _=>hy.symm⟩
   cases i with
   | zero=>
    simp only[List.getElem?_cons_zero,U] at hx
    omega
   | succ i=>
    rw[zB] at hx
    have hic:i<cuts.length:=by omega
    rw[Y hic] at hx
    by_cases hlt:i+1<cuts.length
    ·rw[Y hlt] at hy
     exact r2 i x y hx hy
    ·have:=r1 i x hx
     have:=hyv.2.2 (by omega)
     omega
  ·simp only[List.mem_cons,zI,zJ,List.not_mem_nil,or_false] at hx
   rcases hx with rfl|hx|rfl
   ·omega
   ·have:=hin x hx; omega
   ·omega
theorem D7r{h:X4}(s:HSmall h)(hh:L8 h=T){cs:G Xa}(hc:CallsGood h cs){m low high:H}(h0:0≤m)(h1:m≤2880)(hr:∀a∈cs,m≤a.Ready){zs ys:G H}(hz:Zs low high zs)(hys:zs=low::ys) :
  ∀(k i n:N) (v:H) (acc:G Xi),i+k=ys.length→k<n→zs[i]?=E v→acc.length=i→(∀b∈acc,Br h cs m b)→(∀(j:N) b,acc[j]?=E b→zs[j]?=E b.Low∧zs[j+1]?=E (b.High+1))→
   ∃g f,I9 cs m h (ys.length:H) ys n v (i:H) acc=E (g,f)∧(f=F→g.Branches= [])∧(f=T→Strat h cs m zs g):=by
 have h6:=hc.six
 have hz5:=hz.two.2
 have hzl:zs.length=ys.length+1:=by rw[hys]; rfl
 intro k
 induction k with
 | zero=>
  intro i n v acc hi hn hv ha hb hch
  obtain⟨q,rfl⟩:=sn (n:=n) (by omega)
  have:i=ys.length:=by omega
  subst this
  exact⟨⟨m,acc⟩,T,by simp[I9],fun h=>(by cases h),fun _=>⟨rfl,by simp only; omega,hb,hch⟩⟩
 | succ k ih=>
  intro i n v acc hi hn hv ha hb hch
  obtain⟨q,rfl⟩:=sn (n:=n) (by omega)
  have hlt:i<ys.length:=by omega
  have hzi:zs[i+1]?=E ys[i]:=by rw[hys,zB,Q hlt]
  have hup:=hz.up i v ys[i] hv hzi
  have hbv:=hz.bd v (zD hv)
  have hby:=hz.bd ys[i] (zD hzi)
  obtain⟨r,b,e1,e2,e3⟩:=E1e s hh (lo:=v) (hi:=ys[i] - 1) h0 h1
  have stop:∃g f,(E ((⟨0,[]⟩:Xh),F):Option (Xh × Bool))=E (g,f)∧(f=F→g.Branches= [])∧(f=T→Strat h cs m zs g):=⟨_,F,rfl,fun _=>rfl,fun h=>by cases h⟩
  have hw:zL .i64 (ys[i] - 1)=ys[i] - 1:=A7 (by omega) (by omega)
  rw[I9]
  simp only[C8,hlt,decide_true,if_true,D8 hlt,O,hw,e1,E5 hlt (smx (by omega))]
  cases b with
  | false=>
   rw[e2 rfl,D2o,O]
   simp only[P,if_false,P8,if_true]
   exact stop
  | true=>
   obtain⟨rs,rh,rc,rn⟩:=e3 rfl
   have hcr:CallsGood r cs:=⟨fun a ha=>(rc a).trans (hc.ok a ha),hc.ne,hc.six⟩
   obtain⟨os,o1,ho⟩:=C4x rs rh hcr
   obtain⟨ch,lw,f,b1,B⟩:=D0f rs rh hcr o1 ho
   rw[b1,O]
   simp only[if_true]
   cases f with
   | false=>
    simp only[P8,Bool.not_false,if_true]
    exact stop
   | true=>
    obtain⟨pl,p1,p2,p3,_⟩:=B.plan rfl
    have hol:=ho.len
    simp only[P8,zH,P,if_false,D6n rs rh hcr ho p1 p2,O,hw,E5 hlt (smx (by omega))]
    rw[if_pos (apk (by omega) (by simp) (by omega))]
    have hopt:=B4i ho p1
    have hbr:Br h cs m ⟨v,ys[i] - 1,pl⟩:=⟨⟨r,e1,D7s rs rh hcr ho p1 p2 p3,rn⟩,by simp only; omega,fun o ho2=>by
     obtain⟨j,hj,rfl⟩:=List.getElem_of_mem ho2
     obtain⟨hjc,g⟩:=hopt j hj
     have:=hr _ (W hjc)
     exact⟨g.len,fun p hp=>by have:=g.late p hp; have:=g.start.1; omega⟩,B3b ho p1⟩
    refine ih (i+1) q ys[i] _ (by omega) (by omega) hzi (by simp; omega) (fun b hb2=> ?_) fun j b hjb=> ?_
    ·rcases zI.1 hb2 with hb2|hb2
     ·exact hb b hb2
     ·simp only[zJ] at hb2; subst hb2; exact hbr
    ·by_cases hja:j<acc.length
     ·rw[Y hja] at hjb
      exact hch j b hjb
     ·have hjl:=(V.1 hjb).1
      simp only[List.length_append,List.length_singleton] at hjl
      have:j=acc.length:=by omega
      subst this
      simp only[C (Nat.le_refl _),Nat.sub_self,List.getElem?_cons_zero,U] at hjb
      subst hjb
      subst ha
      exact⟨hv,by rw[hzi]; simp⟩
theorem E5w{h:X4}(s:HSmall h)(hh:L8 h=T){cs:G Xa}(hc:CallsGood h cs){m:H}(h0:0≤m)(h1:m≤2880){cuts:G H}(hl:cuts.length≤100){low high:H}(hs:S8 h.Forecast m=E (low,high,T))(hb: -500≤low∧low≤high∧high≤500) :
  ∃g f,A12 h cs m cuts=E (g,f)∧(f=F→g.Branches= [])∧(f=T→∃zs,Zs low high zs∧Strat h cs m zs g):=by
 have h6:=hc.six
 obtain⟨b,e,hz⟩:=E4a (cuts:=cuts) hb
 have stop:∃g f,(E ((⟨0,[]⟩:Xh),F):Option (Xh × Bool))=E (g,f)∧(f=F→g.Branches= [])∧(f=T→∃zs,Zs low high zs∧Strat h cs m zs g):=⟨_,F,rfl,fun _=>rfl,fun h=>by cases h⟩
 unfold A12
 simp only[hs,O,if_true,A73 s hh hc,e]
 cases b with
 | false=>simp only[Q0,Bool.not_false,if_true]; exact stop
 | true=>
  have hz:=hz rfl
  simp only[Q0,zH,P,if_false]
  have key:∀(k i n:N),i+k=cs.length→k<n→(∀a∈cs.take i,m≤a.Ready)→∃g f,P6 cs m cuts (low,high,T) h n (i:H)=E (g,f)∧(f=F→g.Branches= [])∧(f=T→∃zs,Zs low high zs∧Strat h cs m zs g):=by
   intro k
   induction k with
   | zero=>
    intro i n hi hn hr
    obtain⟨q,rfl⟩:=sn (n:=n) (by omega)
    have:i=cs.length:=by omega
    subst this
    rw[List.take_length] at hr
    rw[P6]
    simp only[C8,zE,decide_false,P,if_false,B5p (l:=cuts) (by omega),O]
    rw[A7 (n:=high+1) (by omega) (by omega),if_pos (apk (by omega) (by simp) (by omega))]
    obtain⟨g,f,w1,w2,w3⟩:=D7r s hh hc h0 h1 hr hz rfl (cuts++ [high+1]).length 0 bigN low [] (by omega) (D7 (smx (by simp; omega))) rfl rfl (fun b hb=>by cases hb) fun j b hj=>by simp at hj
    exact⟨g,f,w1,w2,fun h=>⟨_,hz,w3 h⟩⟩
   | succ k ih=>
    intro i n hi hn hr
    obtain⟨q,rfl⟩:=sn (n:=n) (by omega)
    have hlt:i<cs.length:=by omega
    rw[P6]
    simp only[C8,hlt,decide_true,if_true,D8 hlt,O,E5 hlt (smx (by omega))]
    by_cases hm:cs[i].Ready<m
    ·simp only[hm,decide_true,if_true]; exact stop
    ·simp only[hm,decide_false,P,if_false]
     refine ih (i+1) q (by omega) (by omega) fun a ha=> ?_
     rw[I hlt] at ha
     rcases zI.1 ha with ha|ha
     ·exact hr a ha
     ·simp only[zJ] at ha; subst ha; omega
  exact key cs.length 0 bigN (by omega) (D7 (smx (by omega))) fun a ha=>by simp at ha
open Go.Lib
theorem D05{m n:N}(h:m+n≤140737488355328):B1w m n=T:=by
 unfold B1w
 rw[decide_eq_true_eq]
 omega
theorem B27{n:H}(h:i64 n):A0l n=E (itoa n):=by
 simp[A0l,A7y,h]
theorem C8b{l:G (G UInt8)}{sep:G UInt8}(hl:l.length≤140737488355328)(hj:(join l sep).length≤140737488355328):A63 l sep=E (join l sep):=by
 simp[A63,A77,hl,hj]
theorem D9z{x:G UInt8}{b:H}(hx:x.length≤1000)(hb:i64 b):A7n [(⟨T,x,0⟩:Xq),(⟨F,[],b⟩:Xq)]=E (x++ [32]++itoa b):=by
 have e:join [x,itoa b] [32]=x++ [32]++itoa b:=by simp[join]
 have lb:=B4f hb
 unfold A7n
 rw[C3f (L:=A18 _) [(⟨T,x,0⟩:Xq),(⟨F,[],b⟩:Xq)] (fun w=>if w.isS=T then w.s else itoa w.n) (fun v=>(A63 v ([32]:G UInt8)).bind fun r7=>E r7) (by rw[G0]; simp) (fun n i acc h hacc=> ?_) (fun n acc hacc=> ?_)]
 ·simp only[List.map_cons,List.map_nil,if_true,P,if_false]
  rw[C8b (by simp) (by rw[e]; simp; omega),e]
  rfl
 ·have h2:i<2:=by simpa using h
  have hw:A8d ([(⟨T,x,0⟩:Xq),(⟨F,[],b⟩:Xq)][i])=E ((fun w:Xq=>if w.isS=T then w.s else itoa w.n) ([(⟨T,x,0⟩:Xq),(⟨F,[],b⟩:Xq)][i])):=by
   rcases i with _|_|i
   ·rfl
   ·simp[A8d,B27 hb]
   ·omega
  rw[A18,C8,if_pos (by simpa using h),D8 h,O,hw,O,if_pos (apk (by omega) (by simp) (by omega))]
 ·rw[A18,if_neg (by simp)]
section
variable {h : X4} {cs : G Xa} {m low high : H} {zs : G H} {g : Xh}
theorem Strat.four(S:Strat h cs m zs g)(Z:Zs low high zs):1≤g.Branches.length∧g.Branches.length≤4:=by
 have:=S.len; have:=Z.two
 omega
theorem Strat.bd(S:Strat h cs m zs g)(Z:Zs low high zs):∀b∈g.Branches,b.Low≤b.High∧ -501≤b.Low∧b.High≤500:=fun b hb=>by
 obtain⟨i,hi⟩:=List.getElem?_of_mem hb
 obtain⟨c1,c2⟩:=S.ch i b hi
 have:=Z.up i _ _ c1 c2
 have:=Z.bd _ (zD c1)
 have:=Z.bd _ (zD c2)
 omega
theorem E07(S:Strat h cs m zs g)(Z:Zs low high zs)(h6:cs.length≤6):∃ls,A1e g=E ls∧ls.length=g.Branches.length:=by
 have h4:=S.four Z
 refine⟨g.Branches.map fun b=>itoa b.Low++ [46,46]++itoa b.High++ [32]++itoa (A55 b.Plan),?_,by simp⟩
 unfold A1e
 refine C3f (L:=O6 g) g.Branches _ E (smx (by omega)) (fun n i acc hi ha=> ?_) (fun n acc _=>by simp[O6])
 have hm:=W hi
 have hb:=S.bd Z _ hm
 have B:=S.br _ hm
 have c0:=D1j B.cost
 have hl:=B.len
 have p2:i64 g.Branches[i].Low:=by unfold i64; omega
 have p3:i64 g.Branches[i].High:=by unfold i64; omega
 have p4:i64 (A55 g.Branches[i].Plan):=by unfold i64; omega
 have l1:=B4f p2
 have l2:=B4f p3
 simp only[O6,C8,hi,decide_true,if_true,D8 hi,O,B27 p2,B27 p3,C2b (l:=g.Branches[i].Plan) (by omega) B.cost]
 rw[if_pos (D05 (by simp; omega)),if_pos (D05 (by simp; omega)),D9z (by simp; omega) p4,O,if_pos (apk (by omega) (by simp) (by omega))]
theorem B6q{b:Xi}(B:Br h cs m b){o:X0}(ho:o∈b.Plan):T9 o m=E []:=by
 obtain⟨h100,hp⟩:=B.pas o ho
 unfold T9
 have key:∀(k i n:N),i+k=o.Passages.length→k<n→N0 m o n (i:H) []=E []:=by
  intro k
  induction k with
  | zero=>
   intro i n hi hn
   obtain⟨q,rfl⟩:=sn (n:=n) (by omega)
   have:i=o.Passages.length:=by omega
   subst this
   simp[N0]
  | succ k ih=>
   intro i n hi hn
   obtain⟨q,rfl⟩:=sn (n:=n) (by omega)
   have hlt:i<o.Passages.length:=by omega
   have:=hp _ (W hlt)
   have hn2:¬o.Passages[i].Start<m:=by omega
   rw[N0]
   simp only[C8,hlt,decide_true,if_true,D8 hlt,O,hn2,decide_false,P,if_false,E5 hlt (smx (by omega))]
   exact ih (i+1) q (by omega) (by omega)
 exact key o.Passages.length 0 bigN (by omega) (D7 (smx (by omega)))
theorem D8n(Z:Zs low high zs){s:H}(h1:low≤s):∀(n:N) (x:H),zs[n]?=E x→s<x→∃j y z,zs[j]?=E y∧zs[j+1]?=E z∧y≤s∧s<z:=by
 intro n
 induction n with
 | zero=>
  intro x hx hs
  rw[Z.fst] at hx
  simp only[U] at hx
  omega
 | succ n ih=>
  intro x hx hs
  have hn:n<zs.length:=by have:=(V.1 hx).1; omega
  by_cases hc:zs[n]≤s
  ·exact⟨n,zs[n],x,Q hn,hx,hc,hs⟩
  ·exact ih zs[n] (Q hn) (by omega)
theorem D7i(S:Strat h cs m zs g)(Z:Zs low high zs){s:H}(h1:low≤s)(h2:s≤high):∃r:N,A33 g s=E (r:H)∧r<g.Branches.length:=by
 have h4:=S.four Z
 obtain⟨j,y,z,j1,j2,j3,j4⟩:=D8n Z h1 _ _ Z.lst (by omega)
 have hj:j<g.Branches.length:=by
  have:=(V.1 j2).1
  have:=S.len
  omega
 have key:∀(k i n:N),i+k=g.Branches.length→k<n→i≤j→∃r:N,J6 (fun z0=>W6 z0 s) g.Branches n (i:H)=E (r:H)∧r<g.Branches.length:=by
  intro k
  induction k with
  | zero=>intro i n hi hn hij; omega
  | succ k ih=>
   intro i n hi hn hij
   obtain⟨q,rfl⟩:=sn (n:=n) (by omega)
   have hlt:i<g.Branches.length:=by omega
   rw[J6]
   simp only[C8,hlt,decide_true,if_true,D8 hlt,O,W6,R7,E5 hlt (smx (by omega))]
   by_cases hc:(decide (g.Branches[i].Low≤s)&&decide (s≤g.Branches[i].High))=T
   ·rw[if_pos hc]; exact⟨i,rfl,hlt⟩
   ·rw[if_neg hc]
    suffices hij2:i+1≤j by
     have e:=ih (i+1) q (by omega) (by omega) hij2
     simp only[W6,R7,O] at e
     exact e
    rcases zK i j with h|h
    ·omega
    ·have:i=j:=by omega
     subst this
     obtain⟨c1,c2⟩:=S.ch i _ (Q hlt)
     rw[j1] at c1
     rw[j2] at c2
     simp only[U] at c1 c2
     exact absurd (by simp; omega) hc
 obtain⟨r,e,hr⟩:=key g.Branches.length 0 bigN (by omega) (D7 (smx (by omega))) (by omega)
 exact⟨r,by simp only[A33,A0z,show J6 (fun z0=>W6 z0 s) g.Branches bigN 0=E (r:H) from e,O],hr⟩
theorem C3d(S:Strat h cs m zs g)(Z:Zs low high zs)(s:HSmall h)(hh:L8 h=T)(hs:S8 h.Forecast m=E (low,high,T)):A1n h g=E T:=by
 have h4:=S.four Z
 have hw:(decide ((1:H)≤(g.Branches.length:H))&&decide ((g.Branches.length:H)≤4))=T:=by simp; omega
 unfold A1n
 simp only[S.min,hs,O,if_true,A3b s,hh,R7,hw]
 have fin:∀q,M8 (low,high,T) g (q+1) (g.Branches.length:H)=E T:=fun q=>by
  have l0:0<g.Branches.length:=by omega
  have lz:g.Branches.length - 1<g.Branches.length:=by omega
  obtain⟨c1,_⟩:=S.ch 0 _ (Q l0)
  obtain⟨_,c2⟩:=S.ch (g.Branches.length - 1) _ (Q lz)
  have hl:=Z.lst
  rw[show zs.length - 1=g.Branches.length - 1+1 by have:=S.len; omega,c2] at hl
  rw[Z.fst] at c1
  simp only[U] at c1 hl
  have ep:zL .i64 ((g.Branches.length:H) - 1)=((g.Branches.length - 1:N):H):=by rw[A7 (by omega) (by omega)]; omega
  rw[M8]
  simp only[C8,zE,decide_false,P,if_false]
  rw[show(0:H)=((0:N):H) from rfl,D8 l0,O,if_pos (by simp; omega),ep,D8 lz,O]
  simp only[U,decide_eq_true_eq]
  omega
 have key:∀(k i n:N),i+k=g.Branches.length→k<n→M8 (low,high,T) g n (i:H)=E T:=by
  intro k
  induction k with
  | zero=>
   intro i n hi hn
   obtain⟨q,rfl⟩:=sn (n:=n) (by omega)
   have:i=g.Branches.length:=by omega
   subst this
   exact fin q
  | succ k ih=>
   intro i n hi hn
   obtain⟨q,rfl⟩:=sn (n:=n) (by omega)
   have hlt:i<g.Branches.length:=by omega
   have hb:=S.bd Z _ (W hlt)
   have hn2:¬g.Branches[i].High<g.Branches[i].Low:=by omega
   rw[M8]
   simp only[C8,hlt,decide_true,if_true,D8 hlt,O,hn2,decide_false,P,if_false,E5 hlt (smx (by omega))]
   by_cases h0:(0:H)<(i:H)
   ·obtain⟨p,rfl⟩:=sn (n:=i) (by omega)
    have hp:p<g.Branches.length:=by omega
    have hb2:=S.bd Z _ (W hp)
    obtain⟨_,c2⟩:=S.ch p _ (Q hp)
    obtain⟨c1,_⟩:=S.ch (p+1) _ (Q hlt)
    rw[c1] at c2
    simp only[U] at c2
    simp only[h0,decide_true,if_true,B67 p (by omega),D8 hp,O]
    rw[A7 (n:=g.Branches[p].High+1) (by omega) (by omega),if_neg (by simp; omega)]
    exact ih (p+1+1) q (by omega) (by omega)
   ·simp only[h0,decide_false,P,if_false]
    exact ih (i+1) q (by omega) (by omega)
 exact key g.Branches.length 0 bigN (by omega) (D7 (smx (by omega)))
theorem D49(S:Strat h cs m zs g)(Z:Zs low high zs)(s:HSmall h)(hh:L8 h=T)(hc:CallsGood h cs)(hs:S8 h.Forecast m=E (low,high,T)):A3k h cs g=E T:=by
 have h4:=S.four Z
 have h6:=hc.six
 have l0:0<g.Branches.length:=by omega
 have B0:=S.br _ (W l0)
 unfold A3k
 simp only[A73 s hh hc,O,if_true,C3d S Z s hh hs]
 rw[show(0:H)=((0:N):H) from rfl,D8 l0,O]
 have key:∀(k i n:N),i+k=g.Branches.length→k<n→M9 cs g.Branches[0] g h n (i:H)=E T:=by
  intro k
  induction k with
  | zero=>
   intro i n hi hn
   obtain⟨q,rfl⟩:=sn (n:=n) (by omega)
   have:i=g.Branches.length:=by omega
   subst this
   simp[M9]
  | succ k ih=>
   intro i n hi hn
   obtain⟨q,rfl⟩:=sn (n:=n) (by omega)
   have hlt:i<g.Branches.length:=by omega
   have B:=S.br _ (W hlt)
   obtain⟨x,x1,x2,_⟩:=B.plan
   have hl:=B.len
   have hl0:=B0.len
   have e0:=ih (i+1) q (by omega) (by omega)
   rw[M9]
   simp only[C8,hlt,decide_true,if_true,D8 hlt,O,S.min,x1,x2]
   have inner:∀(k j n:N),j+k=g.Branches[i].Plan.length→k<n→U2 cs g.Branches[0] g (i:H) g.Branches[i] h (M9 cs g.Branches[0] g h q) n (j:H)=E T:=by
    intro k
    induction k with
    | zero=>
     intro j n hj hn
     obtain⟨q',rfl⟩:=sn (n:=n) (by omega)
     have:j=g.Branches[i].Plan.length:=by omega
     subst this
     rw[U2]
     simp only[C8,zE,decide_false,P,if_false,E5 hlt (smx (by omega))]
     exact e0
    | succ k ihk=>
     intro j n hj hn
     obtain⟨q',rfl⟩:=sn (n:=n) (by omega)
     have hj1:j<g.Branches[i].Plan.length:=by omega
     have hj0:j<g.Branches[0].Plan.length:=by omega
     rw[U2]
     simp only[C8,hj1,decide_true,if_true,D8 hj1,D8 hj0,O,S.min,B6q B (W hj1),B6q B0 (W hj0),B9z (l:= []) (smx (by simp)),E5 hj1 (smx (by omega))]
     exact ihk (j+1) q' (by omega) (by omega)
   exact inner g.Branches[i].Plan.length 0 bigN (by omega) (D7 (smx (by omega)))
 exact key g.Branches.length 0 bigN (by omega) (D7 (smx (by omega)))
theorem E00(S:Strat h cs m zs g)(Z:Zs low high zs)(h6:cs.length≤6):∃w l,A6n g=E w∧A6f g=E l∧l≤w:=by
 have h4:=S.four Z
 have l0:0<g.Branches.length:=by omega
 have ce:∀i (hi:i<g.Branches.length),Y2 g.Branches[i].Plan=E (A55 g.Branches[i].Plan):=fun i hi=>by
  have B:=S.br _ (W hi)
  have:=B.len
  exact C2b (by omega) B.cost
 have kw:∀(k i n:N) (v:H),i+k=g.Branches.length→k<n→(0<i→A55 g.Branches[0].Plan≤v)→∃w,L6 g n v (i:H)=E w∧(0<g.Branches.length→A55 g.Branches[0].Plan≤w):=by
  intro k
  induction k with
  | zero=>
   intro i n v hi hn hv
   obtain⟨q,rfl⟩:=sn (n:=n) (by omega)
   have:i=g.Branches.length:=by omega
   subst this
   exact⟨v,by simp[L6],hv⟩
  | succ k ih=>
   intro i n v hi hn hv
   obtain⟨q,rfl⟩:=sn (n:=n) (by omega)
   have hlt:i<g.Branches.length:=by omega
   rw[L6]
   simp only[C8,hlt,decide_true,if_true,D8 hlt,O]
   by_cases h0:((i:H)==0)=T
   ·have:i=0:=by simpa using h0
    subst this
    rw[if_pos h0]
    simp only[W5,if_true,ce 0 l0,O,E5 hlt (smx (by omega))]
    exact ih (0+1) q _ (by omega) (by omega) fun _=>Int.le_refl _
   ·have hi0:0<i:=by
     rcases Nat.eq_zero_or_pos i with h|h
     ·subst h; simp at h0
     ·exact h
    have hv':=hv hi0
    rw[if_neg h0,ce i hlt,O]
    by_cases hc:v<A55 g.Branches[i].Plan
    ·simp only[hc,decide_true,W5,if_true,ce i hlt,O,E5 hlt (smx (by omega))]
     exact ih (i+1) q _ (by omega) (by omega) fun _=>by omega
    ·simp only[hc,decide_false,W5,P,if_false,E5 hlt (smx (by omega))]
     exact ih (i+1) q _ (by omega) (by omega) fun _=>hv'
 have kl:∀(k i n:N) (v:H),i+k=g.Branches.length→k<n→(0<i→v≤A55 g.Branches[0].Plan)→∃w,L5 g n v (i:H)=E w∧(0<g.Branches.length→w≤A55 g.Branches[0].Plan):=by
  intro k
  induction k with
  | zero=>
   intro i n v hi hn hv
   obtain⟨q,rfl⟩:=sn (n:=n) (by omega)
   have:i=g.Branches.length:=by omega
   subst this
   exact⟨v,by simp[L5],hv⟩
  | succ k ih=>
   intro i n v hi hn hv
   obtain⟨q,rfl⟩:=sn (n:=n) (by omega)
   have hlt:i<g.Branches.length:=by omega
   rw[L5]
   simp only[C8,hlt,decide_true,if_true,D8 hlt,O]
   by_cases h0:((i:H)==0)=T
   ·have:i=0:=by simpa using h0
    subst this
    rw[if_pos h0]
    simp only[W1,if_true,ce 0 l0,O,E5 hlt (smx (by omega))]
    exact ih (0+1) q _ (by omega) (by omega) fun _=>Int.le_refl _
   ·have hi0:0<i:=by
     rcases Nat.eq_zero_or_pos i with h|h
     ·subst h; simp at h0
     ·exact h
    have hv':=hv hi0
    rw[if_neg h0,ce i hlt,O]
    by_cases hc:A55 g.Branches[i].Plan<v
    ·simp only[hc,decide_true,W1,if_true,ce i hlt,O,E5 hlt (smx (by omega))]
     exact ih (i+1) q _ (by omega) (by omega) fun _=>by omega
    ·simp only[hc,decide_false,W1,P,if_false,E5 hlt (smx (by omega))]
     exact ih (i+1) q _ (by omega) (by omega) fun _=>hv'
 obtain⟨w,w1,w2⟩:=kw g.Branches.length 0 bigN 0 (by omega) (D7 (smx (by omega))) fun h=>by omega
 obtain⟨l,l1,l2⟩:=kl g.Branches.length 0 bigN 0 (by omega) (D7 (smx (by omega))) fun h=>by omega
 exact⟨w,l,w1,l1,by have:=w2 l0; have:=l2 l0; omega⟩
end
theorem law_FnStrategies(a0:G H)(ok:DsOk [.sc (.sl (List.map r8 a0))]):A4w a0=E T:=by
 unfold A4w
 by_cases hlen:(decide ((1048576:H)<(a0.length:H)))=T
 ·rw[if_pos hlen]
 rw[if_neg hlen]
 have hl:a0.length≤maxLen:=by
  simp only[decide_eq_true_eq] at hlen
  rw[G0]; omega
 obtain⟨h,cs,m,cuts,e1,s,hh,hc,hc1,h0,h1,hk⟩:=C99 hl
 have h6:=hc.six
 have hh':=hh
 simp only[L8,X] at hh'
 obtain⟨a,sg,_,_,hs,b1,b2,b3⟩:=C07 hh'.1 h0 h1
 obtain⟨g,f,w1,w2,w3⟩:=E5w s hh hc h0 h1 (cuts:=cuts) (by omega) hs ⟨b1,b2,b3⟩
 simp only[e1,w1,hs,A73 s hh hc,O,if_true]
 cases f with
 | false=>
  simp only[P,if_false,w2 rfl]
  rfl
 | true=>
  obtain⟨zs,Z,S⟩:=w3 rfl
  have h4:=S.four Z
  simp only[if_true]
  have plans:∀(k i n:N),i+k=g.Branches.length→k<n→J9 (h,cs,m,cuts) (g,T) n (i:H)=E T:=by
   intro k
   induction k with
   | zero=>
    intro i n hi hn
    obtain⟨q,rfl⟩:=sn (n:=n) (by omega)
    have:i=g.Branches.length:=by omega
    subst this
    obtain⟨w,l,c1,c2,c3⟩:=E00 S Z h6
    obtain⟨ls,d1,d2⟩:=E07 S Z h6
    rw[J9]
    simp only[C8,zE,decide_false,P,if_false,D49 S Z s hh hc hs,C3d S Z s hh hs,O,if_true,c1,c2,c3,decide_true,d1,d2,beq_self_eq_true]
   | succ k ih=>
    intro i n hi hn
    obtain⟨q,rfl⟩:=sn (n:=n) (by omega)
    have hlt:i<g.Branches.length:=by omega
    have B:=S.br _ (W hlt)
    obtain⟨x,x1,x2,x3⟩:=B.plan
    have hl:=B.len
    have e0:=ih (i+1) q (by omega) (by omega)
    rw[J9]
    simp only[C8,hlt,decide_true,if_true,D8 hlt,O,x1,x2,x3]
    have inner:∀(k j n:N),j+k=g.Branches[i].Plan.length→k<n→P5 (h,cs,m,cuts) (g,T) (i:H) g.Branches[i] (J9 (h,cs,m,cuts) (g,T) q) n (j:H)=E T:=by
     intro k
     induction k with
     | zero=>
      intro j n hj hn
      obtain⟨q',rfl⟩:=sn (n:=n) (by omega)
      have:j=g.Branches[i].Plan.length:=by omega
      subst this
      rw[P5]
      simp only[C8,zE,decide_false,P,if_false,E5 hlt (smx (by omega))]
      exact e0
     | succ k ihk=>
      intro j n hj hn
      obtain⟨q',rfl⟩:=sn (n:=n) (by omega)
      have hj1:j<g.Branches[i].Plan.length:=by omega
      rw[P5]
      simp only[C8,hj1,decide_true,if_true,D8 hj1,O,B6q B (W hj1),E5 hj1 (smx (by omega))]
      rw[if_neg (by simp)]
      exact ihk (j+1) q' (by omega) (by omega)
    exact inner g.Branches[i].Plan.length 0 bigN (by omega) (D7 (smx (by omega)))
  have surges:∀(k n:N) (v:H),sg.High+1 - v=(k:H)→k<n→sg.Low≤v→Q1 (h,cs,m,cuts) (sg.Low,sg.High,T) (g,T) n v=E T:=by
   intro k
   induction k with
   | zero=>
    intro n v hv hn hlo
    obtain⟨q,rfl⟩:=sn (n:=n) (by omega)
    have hv2:¬v≤sg.High:=by omega
    rw[Q1]
    simp only[hv2,decide_false,P,if_false]
    exact plans g.Branches.length 0 bigN (by omega) (D7 (smx (by omega)))
   | succ k ih=>
    intro n v hv hn hlo
    obtain⟨q,rfl⟩:=sn (n:=n) (by omega)
    have hv2:v≤sg.High:=by omega
    obtain⟨r,r1,r2⟩:=D7i S Z hlo hv2
    have n1:¬(r:H)<0:=by omega
    have n2:¬(g.Branches.length:H)≤(r:H):=by omega
    rw[Q1]
    simp only[hv2,decide_true,if_true,r1,O,n1,n2,decide_false,P,if_false]
    rw[A7 (n:=v+1) (by omega) (by omega)]
    exact ih q (v+1) (by omega) (by omega) (by omega)
  exact surges (sg.High+1 - sg.Low).toNat bigN sg.Low (by omega) (by rw[A0g]; omega) (Int.le_refl _)
end Go.Vi
