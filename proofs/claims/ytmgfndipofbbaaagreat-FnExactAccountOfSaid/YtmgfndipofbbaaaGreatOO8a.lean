/-
Plain laws. No condition.
-/
import Derived.Test.YtmgfndipofbbaaaGreatONf
import Derived.Test.YtmgfndipofbbaaaGreatOVi33
import Derived.KernelRfl
namespace Go.Vi
set_option linter.all false
open Option renaming bind_some → X, some → G
open List renaming getElem?_eq_getElem → Y, getElem_mem → I, replicate → zA, range → zB, take_succ_eq_append_getElem → zH, getElem_append_left → zJ, getElem?_set_ne → zL, all_eq_true → zM, getElem?_set_self → zN, length_append → zO, getElem_of_mem → zP, range' → zQ, length_singleton → zS, map → zV, getElem?_map → yD, getElem_set_self → yF, foldr_cons → yG, mem_map_of_mem → yH, flatten_append → yI, range'_succ → yK, take_length → yL, mem_range → yP
open Bool renaming and_eq_true → Z, false_eq_true → C, true_and → zC, eq_iff_iff → zE, or_eq_true → yN, true → F, false → E
open Int renaming toNat_natCast → zD, tdiv → zF, tmod_eq_emod_of_nonneg → zX, tmod → yA
open Nat renaming mod_two_eq_zero_or_one → zG, lt_or_ge → zI, lt_trans → zK, testBit_or → zR, pow_le_pow_right → zT, eq_of_testBit_eq → zU, pow_lt_pow_right → zW, testBit_and → zY, lt_of_lt_of_le → zZ, mul_le_mul → yB, or_lt_two_pow → yC, le_refl → yE, lt_of_le_of_lt → yJ, and_div_two → yM, zero_le → yO
open IntKind renaming wrap → yQ
open _root_ renaming List → H, Option → O, Int → P, Bool → Q, Nat → U, UInt8 → V
def AX(a b:U):U:=a ^^^ (a &&& b)
theorem EA(a b i:U):(AX a b).testBit i=(a.testBit i&& !b.testBit i):=by
 simp only[AX,Nat.testBit_xor,zY];cases a.testBit i<;>cases b.testBit i<;>rfl
theorem J1(n i:U):(2 ^ n).testBit i=decide (n=i):=Nat.testBit_two_pow
theorem GC{s n i:U}(h:s<2 ^ n)(hi:s.testBit i=F):i<n:=by
 rcases zI i n with h1|h1
 ·exact h1
 ·have:s<2 ^ i:=zZ h (zT (by omega) h1);rw[Nat.testBit_lt_two_pow this] at hi
  cases hi
theorem A56{s i:U}(hi:s.testBit i=F):i<s:=GC Nat.lt_two_pow_self hi
theorem fX(p:U→Q):∀k:U,∃q:U,∀i,q.testBit i=(decide (i<k)&&p i)
 | 0=>⟨0,fun i=>by simp⟩
 | k+1=>by
  obtain⟨q,hq⟩:=fX p k;refine⟨q ||| (if p k then 2 ^ k else 0),fun i=> ?_⟩;rw[zR,hq];by_cases hp:p k=F
  ·rw[if_pos hp,J1];by_cases h:k=i
   ·subst h; simp[hp]
   ·have:decide (i<k+1)=decide (i<k):=by simp; omega
    simp[h,this]
  ·rw[if_neg hp,Nat.zero_testBit];by_cases h:k=i
   ·subst h; simp[hp]
   ·have:decide (i<k+1)=decide (i<k):=by simp; omega
    simp[this]
theorem A5m{q r:U}(h:q &&& r=q){i:U}(hi:q.testBit i=F):r.testBit i=F:=by
 have:=congrArg (fun x=>x.testBit i) h;simp only[zY,hi,zC] at this
 exact this
theorem Wx{q r:U}(h:∀i,q.testBit i=F→r.testBit i=F):q &&& r=q:=by
 apply zU
 intro i;rw[zY];cases hq:q.testBit i with
 | false=>rfl
 | true=>rw[h i hq]; rfl
theorem A1n:∀(n r p q:U),r≤n→p &&& r=p→q &&& r=q→q<p→q≤(p - 1) &&& r:=by
 intro n
 induction n with
 | zero=>
  intro r p q hr hp hq hlt;have:r=0:=by omega
  subst this;rw[Nat.and_zero] at hp hq
  omega
 | succ n ih=>
  intro r p q hr hp hq hlt;by_cases h0:r=0
  ·subst h0;rw[Nat.and_zero] at hp hq
   omega
  have hp2:(p / 2) &&& (r / 2)=p / 2:=by rw[← yM,hp]
  have hq2:(q / 2) &&& (r / 2)=q / 2:=by rw[← yM,hq]
  have e2:∀a b:U,(a &&& b) % 2=(a % 2)*(b % 2):=fun a b=>by
   have h:=zY a b 0;simp only[Nat.testBit_zero] at h;rcases zG a with ha|ha<;>rcases zG b with hb|hb<;>rcases zG (a &&& b) with hc|hc<;>simp_all
  have hpm:=e2 p r;have hqm:=e2 q r;rw[hp] at hpm
  rw[hq] at hqm
  have hd:((p - 1) &&& r) / 2=((p - 1) / 2) &&& (r / 2):=yM;have hm:=e2 (p - 1) r;rcases zG p with h1|h1
  ·
   have i1:=ih (r / 2) (p / 2) (q / 2) (by omega) hp2 hq2 (by omega);have e3:(p - 1) / 2=p / 2 - 1:=by omega
   rw[e3] at hd
   have e4:(p - 1) % 2=1:=by omega
   rw[e4,Nat.one_mul] at hm
   have hqr:q % 2≤r % 2:=by
    rcases zG q with h2|h2
    ·omega
    ·rw[h2,Nat.one_mul] at hqm; omega
   omega
  ·have e3:(p - 1) / 2=p / 2:=by omega
   rw[e3,hp2] at hd
   omega
theorem oQ{p r:U}(h:0<p):(p - 1) &&& r<p:=by
 have:= @Nat.and_le_left (p - 1) r;omega
theorem oR(p r:U):(p &&& r) &&& r=p &&& r:=by rw[Nat.and_assoc,Nat.and_self]
def E0(B:U→U→Q)(S m:U):Prop:=∃f:U→U,(∀i,S.testBit i=F→f i<m)∧∀i j,S.testBit i=F→S.testBit j=F→i≠j→f i=f j→B i j=F
def EF(B:U→U→Q)(S:U):Prop:=∀i j,S.testBit i=F→S.testBit j=F→i≠j→B i j=F
def Ck(B:U→U→Q)(S n:U):Prop:=E0 B S n∧∀m,E0 B S m→n≤m
theorem Rx{B:U→U→Q}{S n:U}(h:S<2 ^ n):E0 B S n:=⟨id,fun i hi=>GC h hi,fun i j _ _ hne e=>absurd e hne⟩
theorem Wn{B:U→U→Q}:Ck B 0 0:=⟨⟨id,fun i hi=>by simp at hi,fun i j hi=>by simp at hi⟩,fun m _=>yO m⟩
theorem qO{B:U→U→Q}{S t rest q n:U}(hS:∀i,S.testBit i=F→i=t∨rest.testBit i=F)(hq:EF B (q ||| 2 ^ t))(h:E0 B (AX rest q) n):E0 B S (1+n):=by
 obtain⟨f,f1,f2⟩:=h
 have key:∀i,S.testBit i=F→(i=t∨q.testBit i=F)∨(AX rest q).testBit i=F:=fun i hi=>by
  rcases hS i hi with h|h
  ·exact .inl (.inl h)
  ·cases hb:q.testBit i with
   | true=>exact .inl (.inr rfl)
   | false=>right; rw[EA,h,hb]; rfl
 have hin:∀i,(i=t∨q.testBit i=F)→(q ||| 2 ^ t).testBit i=F:=fun i hi=>by
  rw[zR,J1];rcases hi with h|h
  ·simp[h]
  ·simp[h]
 refine⟨fun i=>if i=t∨q.testBit i=F then n else f i,fun i hi=> ?_,fun i j hi hj hne e=> ?_⟩
 ·by_cases hx:i=t∨q.testBit i=F
  ·simp only[hx,if_true]; omega
  ·simp only[hx,if_false];rcases key i hi with h|h
   ·exact absurd h hx
   ·have:=f1 i h; omega
 ·by_cases hx:i=t∨q.testBit i=F
  ·by_cases hy:j=t∨q.testBit j=F
   ·exact hq i j (hin i hx) (hin j hy) hne
   ·simp only[hx,hy,if_true,if_false] at e
    have:=f1 j ((key j hj).resolve_left hy);omega
  ·by_cases hy:j=t∨q.testBit j=F
   ·simp only[hx,hy,if_true,if_false] at e
    have:=f1 i ((key i hi).resolve_left hx);omega
   ·simp only[hx,hy,if_false] at e
    exact f2 i j ((key i hi).resolve_left hx) ((key j hj).resolve_left hy) hne e
theorem qP{B:U→U→Q}{S t rest m:U}(hS:S.testBit t=F)(hr:∀i,rest.testBit i=F→S.testBit i=F)(h:E0 B S m):∃q n,q &&& rest=q∧EF B (q ||| 2 ^ t)∧n+1=m∧E0 B (AX rest q) n:=by
 obtain⟨f,f1,f2⟩:=h;obtain⟨q,hq⟩:=fX (fun i=>rest.testBit i&&decide (f i=f t)) rest
 have hq2:∀i,q.testBit i=F↔rest.testBit i=F∧f i=f t:=fun i=>by
  rw[hq i];constructor
  ·intro h;simp only[Z,decide_eq_true_eq] at h;exact h.2
  ·intro⟨h1,h2⟩;simp only[Z,decide_eq_true_eq];exact⟨A56 h1,h1,h2⟩
 have hm:=f1 t hS;refine⟨q,m - 1,Wx fun i hi=>((hq2 i).1 hi).1,fun i j hi hj hne=> ?_,by omega,fun i=>if f i=m - 1 then f t else f i,fun i hi=> ?_,fun i j hi hj hne e=> ?_⟩
 ·have side:∀i,(q ||| 2 ^ t).testBit i=F→S.testBit i=F∧f i=f t:=fun i hi=>by
   rw[zR,J1,yN,decide_eq_true_eq] at hi
   rcases hi with h|h
   ·exact⟨hr i ((hq2 i).1 h).1,((hq2 i).1 h).2⟩
   ·subst h; exact⟨hS,rfl⟩
  obtain⟨i1,i2⟩:=side i hi;obtain⟨j1,j2⟩:=side j hj;exact f2 i j i1 j1 hne (i2.trans j2.symm)
 ·rw[EA,Z] at hi
  have hne:f i≠f t:=fun e=>by
   have:=(hq2 i).2 ⟨hi.1,e⟩;rw[this] at hi
   simp at hi
  have:=f1 i (hr i hi.1);show(if f i=m - 1 then f t else f i)<m - 1
  split<;>omega
 ·rw[EA,Z] at hi hj
  have hni:f i≠f t:=fun e=>by
   have:=(hq2 i).2 ⟨hi.1,e⟩;rw[this] at hi
   simp at hi
  have hnj:f j≠f t:=fun e=>by
   have:=(hq2 j).2 ⟨hj.1,e⟩;rw[this] at hj
   simp at hj
  have e2:f i=f j:=by
   have e:(if f i=m - 1 then f t else f i)=(if f j=m - 1 then f t else f j):=e;split at e<;>split at e<;>omega
  exact f2 i j (hr i hi.1) (hr j hj.1) hne e2
def CY(B:U→U→Q)(N m:U)(w:H U):Prop:=∃f:U→U,(∀(j:U) (h:j<w.length),f j=w[j])∧(∀j,j<N→f j<m)∧∀i j,i<N→j<N→i≠j→f i=f j→B i j=F
def J9(B:U→U→Q)(w:H U)(c:U):Prop:=∀(k:U) (h:k<w.length),w[k]=c→B w.length k=F
theorem ti{B:U→U→Q}{N m:U}{w:H U}{c:U}(h:CY B N m (w++ [c])):CY B N m w:=by
 obtain⟨f,f1,f2⟩:=h;exact⟨f,fun j hj=>by rw[f1 j (by simp; omega),zJ hj],f2⟩
theorem tk{B:U→U→Q}{N m u:U}{w:H U}(hw:w.length<N)(hu:∀x∈w,x<u)(h:CY B N m w):∃c,c≤u∧c<m∧J9 B w c∧CY B N m (w++ [c]):=by
 obtain⟨f,f1,f2,f3⟩:=h
 have done:∀f:U→U,(∀(j:U) (h:j<w.length),f j=w[j])→(∀j,j<N→f j<m)→(∀i j,i<N→j<N→i≠j→f i=f j→B i j=F)→f w.length≤u→∃c,c≤u∧c<m∧J9 B w c∧CY B N m (w++ [c]):=by
  intro f f1 f2 f3 hle;refine⟨f w.length,hle,f2 _ hw,fun k hk e=>f3 _ _ hw (by omega) (by omega) ((e.symm.trans (f1 k hk).symm)),f,fun j hj=> ?_,f2,f3⟩;rcases zI j w.length with h|h
  ·rw[zJ h]; exact f1 j h
  ·have:j=w.length:=by simp at hj; omega
   subst this;simp
 by_cases hc:f w.length≤u
 ·exact done f f1 f2 f3 hc
 ·have hm:=f2 _ hw;refine done (fun x=>if f x=f w.length then u else if f x=u then f w.length else f x) (fun j hj=> ?_) (fun j hj=> ?_) (fun i j hi hj hne e=>f3 i j hi hj hne ?_) (by simp)
  ·have e1:=f1 j hj;have e2:=hu _ (I hj);show(if f j=f w.length then u else if f j=u then f w.length else f j)=w[j]
   rw[if_neg (by omega),if_neg (by omega),e1]
  ·have:=f2 j hj;show(if f j=f w.length then u else if f j=u then f w.length else f j)<m
   split
   ·omega
   ·split<;>omega
  ·have e:(if f i=f w.length then u else if f i=u then f w.length else f i)=(if f j=f w.length then u else if f j=u then f w.length else f j):=e;split at e<;>split at e<;>(try split at e)<;>(try split at e)<;>omega
theorem tj{B:U→U→Q}{N m:U}{w:H U}(hl:w.length=N)(hm:∀x∈w,x<m)(hB:∀i j,B i j=B j i)(hv:∀(i k:U) (hi:i<w.length) (hk:k<i),w[i]=w[k]→B i k=F):CY B N m w:=by
 subst hl;have e:∀(j:U) (h:j<w.length),w[j]?.getD 0=w[j]:=fun j h=>by rw[Y h]; rfl
 refine⟨fun j=>w[j]?.getD 0,fun j hj=>e j hj,fun j hj=> ?_,fun i j hi hj hne h=> ?_⟩
 ·show w[j]?.getD 0<m
  rw[e j hj]; exact hm _ (I hj)
 ·have h:w[i]?.getD 0=w[j]?.getD 0:=h;rw[e i hi,e j hj] at h;rcases zI j i with hlt|hge
  ·exact hv i j hi hlt h
  ·rw[hB]; exact hv j i hj (by omega) h.symm
theorem dh{B:U→U→Q}{N m:U}:E0 B (2 ^ N - 1) m↔CY B N m []:=by
 have ht:∀i,(2 ^ N - 1).testBit i=decide (i<N):=fun i=>Nat.testBit_two_pow_sub_one N i
 constructor
 ·rintro⟨f,f1,f2⟩
  exact⟨f,fun j h=>by simp at h,fun j hj=>f1 j (by rw[ht]; simpa using hj),fun i j hi hj hne e=>f2 i j (by rw[ht]; simpa using hi) (by rw[ht]; simpa using hj) hne e⟩
 ·rintro⟨f,_,f1,f2⟩
  exact⟨f,fun j hj=>f1 j (by rw[ht] at hj; simpa using hj),fun i j hi hj hne e=>f2 i j (by rw[ht] at hi; simpa using hi) (by rw[ht] at hj; simpa using hj) hne e⟩
theorem BG(n lo hi:P):AK n lo hi=G (decide (lo≤n)&&decide (n≤hi)):=by
 unfold AK;by_cases h:lo≤n<;>simp[h]
theorem D9(n lo hi:P):BP n lo hi=G (decide (lo≤n)&&decide (n≤hi)):=by
 unfold BP;by_cases h:lo≤n<;>simp[h]
theorem DA{n bytes:U}(h:n≤1048576)(hb:bytes≤1000):BH (n:P) (n:P) bytes=G n:=by
 unfold BH
 have:(n:P)*(bytes:P)≤140737488355328:=by
  have:n*bytes≤1048576*1000:=yB h hb;have e:((n*bytes:U):P)=(n:P)*(bytes:P):=by simp
  omega
 rw[if_pos ⟨by omega,by omega,this,by omega⟩];simp
theorem DS{n:U}(h:n≤1048576):n≤maxLen:=by rw[AN]; omega
theorem A6e{xs:H P}(h:xs.length≤1048576):N5 xs=G xs:=by
 unfold N5;rw[DA h (by omega)];have:=EN (L:=HU xs) xs id (DS h) (fun n i acc hi ha=>by simp[HU,Ay,hi,ha]) (fun n acc=>by simp[HU]) (zA xs.length 0) (by simp);simpa using this
theorem VW{xs ys:H P}(h:xs.length≤maxLen):HE xs ys=G (decide (xs=ys)):=by
 unfold HE;by_cases hl:xs.length=ys.length
 ·have:=GZ (L:=HF xs ys) xs ys h hl (fun n i h1 h2=>by simp[HF,Ay,h1,h2]) (fun n=>by simp[HF]);simp[hl,this]
 ·have:¬(xs.length:P)=ys.length:=by omega
  have:xs≠ys:=fun e=>hl (by rw[e])
  simp_all
theorem Er{α:Type}{row:α→H D}{xs:H α}(h:(D.sl (zV row xs)).Ok):xs.length≤maxLen:=by simpa using h.sl.1
theorem Gm(n:P):D1 n=G (decide (0≤n)&&decide (n≤2880)):=by simp[D1,D9]
theorem eJ{len:U}(p:U→Q)(K:O Q):∀(k i:U),(zQ i k).foldr (fun i r=>if p i=F then r else G E) K=if(zQ i k).all p=F then K else G E
 | 0,i=>by simp
 | k+1,i=>by
  rw[yK,yG,eJ (len:=len) p K k (i+1),List.all_cons];cases p i<;>rfl
theorem eK{len:U}(p:U→Q)(K:O Q):∀(k i:U),(zQ i k).foldr (fun i r=>if p i=F then G E else r) K=if(zQ i k).any p=F then G E else K
 | 0,i=>by simp
 | k+1,i=>by
  rw[yK,yG,eK (len:=len) p K k (i+1),List.any_cons];cases p i<;>rfl
theorem FD{L:U→P→O Q}(len:U)(p:U→Q)(K:O Q)(hl:len≤maxLen)
  (hs:∀(n i:U),i<len→L (n+1) (i:P)=if p i=F then L n (yQ .i64 ((i:P)+1)) else G E) (he:∀n,L (n+1) (len:P)=K):L bigN 0=if(zB len).all p=F then K else G E:=by
 have:=IU L len hl (fun i r=>if p i=F then r else G E) K hs he len 0 bigN (by omega) (BL hl);rw[eJ (len:=len),← List.range_eq_range'] at this
 exact this
theorem Yt{L:U→P→O Q}(len:U)(p:U→Q)(K:O Q)(hl:len≤maxLen)
  (hs:∀(n i:U),i<len→L (n+1) (i:P)=if p i=F then G E else L n (yQ .i64 ((i:P)+1))) (he:∀n,L (n+1) (len:P)=K):L bigN 0=if(zB len).any p=F then G E else K:=by
 have:=IU L len hl (fun i r=>if p i=F then G E else r) K hs he len 0 bigN (by omega) (BL hl);rw[eK (len:=len),← List.range_eq_range'] at this
 exact this
def IQ(s:H V)(i:U):Q:=match s[i]? with
 | some b=>(decide (97≤(b.toNat:P))&&decide ((b.toNat:P)≤122)) || (!(decide (i=0))&&(decide (48≤(b.toNat:P))&&decide ((b.toNat:P)≤57)))
 | none=>E
def Oq(s:H V):Q:=decide (1≤(s.length:P))&&decide ((s.length:P)≤8)
def Em(s:H V):Q:=Oq s&&(zB s.length).all (IQ s)
theorem fm(c:P)(K:O Q)(z':Q)(z:P)(i:U)(hz:z=(i:P)) :
  (if decide (97≤c)=F then(if decide (c≤122)=F then K else if(z==0)=F then G E else if decide (c<48)=F then G E else if decide (57<c)=F then G E else K)
   else if E=F then K else if(z==0)=F then G E else if decide (c<48)=F then G E else if decide (57<c)=F then G E else K) =
  if((decide (97≤c)&&decide (c≤122)) || (!(decide (i=0))&&(decide (48≤c)&&decide (c≤57))))=F then K else G E:=by
 subst hz;have e0:(((i:U):P)==0)=decide (i=0):=by rw[zE]; simp
 have e1:decide (c<48)= !decide (48≤c):=by rw[zE]; simp
 have e2:decide (57<c)= !decide (c≤57):=by rw[zE]; simp
 rw[e0,e1,e2];cases decide (i=0)<;>cases decide (97≤c)<;>cases decide (c≤122)<;>cases decide (48≤c)<;>cases decide (c≤57)<;>rfl
theorem ge{s:H V}(h:s.length≤maxLen):Kb s=G (Em s):=by
 unfold Kb;rw[FD (L:=G3 s) s.length (IQ s) (G (Oq s)) h (fun n i hi=> ?_) (fun n=>by simp[G3,BG,Oq])]
 ·unfold Em;cases(zB s.length).all (IQ s)<;>simp
 ·simp only[G3,Nq,Nr,Ay,IQ,Y hi,X,Au,hi,decide_true,if_true];exact fm _ _ F (i:P) i rfl
theorem eV{s:H V}(h:s.length≤maxLen):JC s=G (Em s):=by
 unfold JC;rw[D9];rw[FD (L:=FL s) s.length (IQ s) (G F) h (fun n i hi=> ?_) (fun n=>by simp[FL])]
 ·unfold Em Oq;simp only[X];cases(zB s.length).all (IQ s)<;>cases(decide (1≤(s.length:P))&&decide ((s.length:P)≤8))<;>simp
 ·simp only[FL,LV,LW,Ay,IQ,Y hi,X,Au,hi,decide_true,if_true];exact fm _ _ F (i:P) i rfl
theorem NX{R:Type}(p:U→Q)(f:U→R)(z:R):∀(k i:U),(zQ i k).foldr (fun i r=>if p i=F then G (f i) else r) (G z)=G ((zQ i k).foldr (fun i r=>if p i=F then f i else r) z)
 | 0,i=>by simp
 | k+1,i=>by
  rw[yK,yG,NX p f z k (i+1),yG];cases p i<;>simp
def Oz(xs:H X9)(s:H V)(i:U):Q:=match xs[i]? with
 | some x=>decide (x.Name=s)
 | none=>E
def OA(xs:H X9)(s:H V):P:=(zQ 0 xs.length).foldr (fun i r=>if Oz xs s i=F then(i:P) else r) (-1)
theorem A4q{c:X6}{s:H V}(h:c.Points.length≤maxLen):NB c s=G (OA c.Points s):=by
 unfold NB;exact(IU (Il s c) c.Points.length h (fun i r=>if Oz c.Points s i=F then G (i:P) else r) (G (-1)) (fun n i hi=>by simp[Il,Ay,hi,Oz]) (fun n=>by simp[Il]) c.Points.length 0 bigN (by omega) (BL h)).trans (NX _ _ _ _ _)
theorem xG{c:X6}{s:H V}(h:c.Points.length≤maxLen):M7 c s=G (OA c.Points s):=by
 unfold M7;exact(IU (Hd s c) c.Points.length h (fun i r=>if Oz c.Points s i=F then G (i:P) else r) (G (-1)) (fun n i hi=>by simp[Hd,Ay,hi,Oz]) (fun n=>by simp[Hd]) c.Points.length 0 bigN (by omega) (BL h)).trans (NX _ _ _ _ _)
def jn(y:X3)(a b:P):Q:=(decide (y.A=a)&&decide (y.B=b)) || (decide (y.A=b)&&decide (y.B=a))
theorem A4x(y:X3)(a b:P):NO y a b=G (jn y a b):=by
 unfold NO jn;by_cases h1:y.A=a<;>by_cases h2:y.B=b<;>by_cases h3:y.A=b<;>by_cases h4:y.B=a<;>simp_all
theorem xL(y:X3)(a b:P):Ma y a b=G (jn y a b):=by
 unfold Ma jn;by_cases h1:y.A=a<;>by_cases h2:y.B=b<;>by_cases h3:y.A=b<;>by_cases h4:y.B=a<;>simp_all
theorem A5r{xs:H P}{l:P}(h0:0≤l)(h1:l≤1048576)(hx:xs.length≤maxLen):∃r,MT xs l=G r∧(0≤r→r≤l∧xs.length≤1048576):=by
 unfold MT;rw[AN] at hx
 rw[AF (by omega) (by omega)];by_cases h:l - (xs.length:P)<0
 ·exact⟨-1,by simp[h],by omega⟩
 ·exact⟨l - xs.length,by simp[h],by omega⟩
theorem Ky(i n:P):BO i n=G (decide (0≤i)&&decide (i<n)):=by
 unfold BO;by_cases h:0≤i<;>simp[h]
def idx(i:P)(n:U):Q:=decide (0≤i)&&decide (i<(n:P))
theorem ef(i:P){n:U}(h:n≤1000):(decide (0≤i)&&decide (i≤yQ .i64 ((n:P) - 1)))=idx i n:=by
 rw[AF (by omega) (by omega)];unfold idx;congr 1
 rw[zE];simp;omega
def DF(c:X6)(i:U):Q:=match c.Segments[i]? with
 | some x=>idx x.A c.Points.length&&(idx x.B c.Points.length&&(!(decide (x.A=x.B))&&((decide (0≤x.Depth)&&decide (x.Depth≤3000))&&((decide (1≤x.Minutes)&&decide (x.Minutes≤240))&& !((zB i).any fun j=>match c.Segments[j]? with | some y=>jn y x.A x.B | none=>E)))))
 | none=>E
def Gx(c:X6)(i:U):Q:=match c.Points[i]? with
 | some x=>Em x.Name&&decide (OA c.Points x.Name=(i:P))
 | none=>E
def Be(c:X6):Q:=decide (c.Points.length≤8)&&(decide (c.Segments.length≤10)&&((zB c.Points.length).all (Gx c)&&(zB c.Segments.length).all (DF c)))
theorem EL{n i:U}(h:i≤n):bnd (n:P) (i:P) (0:P) n=G (0,i):=by
 unfold bnd;rw[if_pos ⟨by omega,by omega,by omega,by omega⟩];simp
theorem iJ{α:Type}{l:H α}{i j:U}(hj:j<i):(l.take i)[j]?=l[j]?:=by simp[List.getElem?_take,hj]
theorem Fw{c:X6}(hn:∀x∈c.Points,x.Name.length≤maxLen):Dr c=G (Be c):=by
 unfold Dr Be;by_cases h1:c.Points.length≤8
 ·have h1':¬(8:P)<c.Points.length:=by omega
  by_cases h2:c.Segments.length≤10
  ·have h2':¬(10:P)<c.Segments.length:=by omega
   have hp:c.Points.length≤maxLen:=by rw[AN]; omega
   have hs:c.Segments.length≤maxLen:=by rw[AN]; omega
   have inner:Eg c bigN 0=G ((zB c.Segments.length).all (DF c)):=by
    rw[FD (L:=Eg c) c.Segments.length (DF c) (G F) hs (fun n i hi=> ?_) (fun n=>by simp[Eg])]
    ·cases(zB c.Segments.length).all (DF c)<;>rfl
    ·simp only[Eg,Ay,Y hi,X,Au,hi,decide_true,if_true,BG,ef _ (show c.Points.length≤1000 by omega),EL (Nat.le_of_lt hi),DF,List.drop_zero,Nat.sub_zero];have hl:(c.Segments.take i).length=i:=by simp; omega
     rw[hl]
     rw[Yt (L:=I6 c i c.Segments[i] (c.Segments.take i) (i:P) (Eg c n)) i (fun j=>match c.Segments[j]? with | some y=>jn y c.Segments[i].A c.Segments[i].B | none=>E)
      (Eg c n (yQ .i64 ((i:P)+1))) (by omega) (fun m j hj=>by
       have hj2:j<c.Segments.length:=by omega
       simp only[I6,Ay,iJ hj,Y hj2,X,Au,hj,decide_true,if_true,A4x]) (fun m=>by simp[I6])]
     have e:(c.Segments[i].A==c.Segments[i].B)=decide (c.Segments[i].A=c.Segments[i].B):=rfl;rw[e]
     cases idx c.Segments[i].A c.Points.length<;>cases idx c.Segments[i].B c.Points.length<;>cases decide (c.Segments[i].A=c.Segments[i].B)<;>cases(decide (0≤c.Segments[i].Depth)&&decide (c.Segments[i].Depth≤3000)) <;>
      cases(decide (1≤c.Segments[i].Minutes)&&decide (c.Segments[i].Minutes≤240))<;>cases((zB i).any fun j=>match c.Segments[j]? with | some y=>jn y c.Segments[i].A c.Segments[i].B | none=>E)<;>rfl
   rw[FD (L:=I5 c) c.Points.length (Gx c) _ hp (fun n i hi=> ?_) (fun n=>by simp only[I5,Int.lt_irrefl,decide_false,C,if_false]; exact inner)]
   ·simp only[h1,h2,h1',h2',decide_true,decide_false,zC,C,if_false];cases(zB c.Points.length).all (Gx c)<;>rfl
   ·simp only[I5,Ay,Y hi,X,Au,hi,decide_true,if_true,ge (hn _ (I hi)),A4q hp,Gx];by_cases e:OA c.Points c.Points[i].Name=(i:P)<;>cases Em c.Points[i].Name<;>simp[e]
  ·have h2':(10:P)<c.Segments.length:=by omega
   simp[h1,h1',h2,h2']
 ·have h1':(8:P)<c.Points.length:=by omega
  simp[h1,h1']
theorem II{c:X6}(hn:∀x∈c.Points,x.Name.length≤maxLen):DN c=G (Be c):=by
 unfold DN Be;by_cases h1:c.Points.length≤8
 ·have h1':¬(8:P)<c.Points.length:=by omega
  by_cases h2:c.Segments.length≤10
  ·have h2':¬(10:P)<c.Segments.length:=by omega
   have hp:c.Points.length≤maxLen:=by rw[AN]; omega
   have hs:c.Segments.length≤maxLen:=by rw[AN]; omega
   have inner:E9 c bigN 0=G ((zB c.Segments.length).all (DF c)):=by
    rw[FD (L:=E9 c) c.Segments.length (DF c) (G F) hs (fun n i hi=> ?_) (fun n=>by simp[E9])]
    ·cases(zB c.Segments.length).all (DF c)<;>rfl
    ·simp only[E9,Ay,Y hi,X,Au,hi,decide_true,if_true,D9,Ky,show ∀(a:P) (n:U),(decide (0≤a)&&decide (a<(n:P)))=idx a n from fun _ _=>rfl,EL (Nat.le_of_lt hi),DF,List.drop_zero,Nat.sub_zero];have hl:(c.Segments.take i).length=i:=by simp; omega
     rw[hl]
     rw[Yt (L:=H1 c i c.Segments[i] (c.Segments.take i) (i:P) (E9 c n)) i (fun j=>match c.Segments[j]? with | some y=>jn y c.Segments[i].A c.Segments[i].B | none=>E)
      (E9 c n (yQ .i64 ((i:P)+1))) (by omega) (fun m j hj=>by
       have hj2:j<c.Segments.length:=by omega
       simp only[H1,Ay,iJ hj,Y hj2,X,Au,hj,decide_true,if_true,xL]) (fun m=>by simp[H1])]
     have e:(c.Segments[i].A==c.Segments[i].B)=decide (c.Segments[i].A=c.Segments[i].B):=rfl;rw[e]
     cases idx c.Segments[i].A c.Points.length<;>cases idx c.Segments[i].B c.Points.length<;>cases decide (c.Segments[i].A=c.Segments[i].B)<;>cases(decide (0≤c.Segments[i].Depth)&&decide (c.Segments[i].Depth≤3000)) <;>
      cases(decide (1≤c.Segments[i].Minutes)&&decide (c.Segments[i].Minutes≤240))<;>cases((zB i).any fun j=>match c.Segments[j]? with | some y=>jn y c.Segments[i].A c.Segments[i].B | none=>E)<;>rfl
   rw[FD (L:=H0 c) c.Points.length (Gx c) _ hp (fun n i hi=> ?_) (fun n=>by simp only[H0,Int.lt_irrefl,decide_false,C,if_false]; exact inner)]
   ·simp only[h1,h2,h1',h2',decide_true,decide_false,zC,C,if_false];cases(zB c.Points.length).all (Gx c)<;>rfl
   ·simp only[H0,Ay,Y hi,X,Au,hi,decide_true,if_true,eV (hn _ (I hi)),xG hp,Gx];by_cases e:OA c.Points c.Points[i].Name=(i:P)<;>cases Em c.Points[i].Name<;>simp[e]
  ·have h2':(10:P)<c.Segments.length:=by omega
   simp[h1,h1',h2,h2']
 ·have h1':(8:P)<c.Points.length:=by omega
  simp[h1,h1']
theorem A6j{xs:H X9}(h:xs.length≤1048576):N9 xs=G xs:=by
 unfold N9;rw[DA h (by omega)];have:=EN (L:=HY xs) xs id (DS h) (fun n i acc hi ha=>by simp[HY,Ay,hi,ha,S5]) (fun n acc=>by simp[HY]) (zA xs.length ⟨[],E⟩) (by simp);simpa using this
theorem A6k{xs:H X3}(h:xs.length≤1048576):Na xs=G xs:=by
 unfold Na;rw[DA h (by omega)];have:=EN (L:=HZ xs) xs id (DS h) (fun n i acc hi ha=>by simp[HZ,Ay,hi,ha,S7]) (fun n acc=>by simp[HZ]) (zA xs.length ⟨0,0,0,0,E⟩) (by simp);simpa using this
theorem A59{c:X6}(h1:c.Points.length≤1048576)(h2:c.Segments.length≤1048576):N3 c=G c:=by
 simp[N3,A6j h1,A6k h2]
theorem tS(x y:X9):MH x y=G (decide (x=y)):=by
 unfold MH;cases x; cases y;simp only[X9.mk.injEq];repeat' split
 all_goals simp_all
theorem tR{xs ys:H X9}(h:xs.length≤maxLen):MI xs ys=G (decide (xs=ys)):=by
 unfold MI;by_cases hl:xs.length=ys.length
 ·have:=GZ (L:=HJ xs ys) xs ys h hl (fun n i h1 h2=>by simp[HJ,Ay,h1,h2,tS]) (fun n=>by simp[HJ]);simp[hl,this]
 ·have:¬(xs.length:P)=ys.length:=by omega
  have:xs≠ys:=fun e=>hl (by rw[e])
  simp_all
theorem tU(x y:X3):MJ x y=G (decide (x=y)):=by
 unfold MJ;cases x; cases y;simp only[X3.mk.injEq];repeat' split
 all_goals simp_all
theorem tT{xs ys:H X3}(h:xs.length≤maxLen):MK xs ys=G (decide (xs=ys)):=by
 unfold MK;by_cases hl:xs.length=ys.length
 ·have:=GZ (L:=HK xs ys) xs ys h hl (fun n i h1 h2=>by simp[HK,Ay,h1,h2,tU]) (fun n=>by simp[HK]);simp[hl,this]
 ·have:¬(xs.length:P)=ys.length:=by omega
  have:xs≠ys:=fun e=>hl (by rw[e])
  simp_all
theorem tF{c:X6}(h1:c.Points.length≤maxLen)(h2:c.Segments.length≤maxLen):My c c=G F:=by
 simp[My,tR h1,tT h2]
theorem A5w{x:X9}{l:P}(h0:0≤l)(h1:l≤1048576)(hx:x.Name.length≤maxLen):∃r,MX x l=G r∧(0≤r→r≤l):=by
 unfold MX;rw[AN] at hx
 rw[AF (by omega) (by omega)];by_cases h:l - (x.Name.length:P)<0
 ·exact⟨-1,by simp[h],by omega⟩
 ·exact⟨l - x.Name.length,by simp[h],by omega⟩
theorem A5v{xs:H X9}{l:P}(h0:0≤l)(h1:l≤1048576)(hx:xs.length≤maxLen)(hn:∀x∈xs,x.Name.length≤maxLen):∃r,MY xs l=G r∧(0≤r→r≤l∧xs.length≤1048576):=by
 unfold MY;have hx':=hx;rw[AN] at hx'
 rw[AF (by omega) (by omega)];by_cases h:l - (xs.length:P)<0
 ·exact⟨-1,by simp[h],by omega⟩
 ·have key:∀(k i n:U) (v:P),i+k=xs.length→k<n→0≤v→v≤l→∃r,FW xs n v (i:P)=G r∧(0≤r→r≤l):=by
   intro k
   induction k with
   | zero=>
    intro i n v hi hn2 hv hv2;obtain⟨m,rfl⟩:∃m,n=m+1:=⟨n - 1,by omega⟩;have:i=xs.length:=by omega
    subst this;exact⟨v,by simp[FW],fun _=>hv2⟩
   | succ k ih=>
    intro i n v hi hn2 hv hv2;obtain⟨m,rfl⟩:∃m,n=m+1:=⟨n - 1,by omega⟩;have hlt:i<xs.length:=by omega
    obtain⟨r,e,hr⟩:=A5w (x:=xs[i]) hv (by omega) (hn _ (I hlt));by_cases hr0:r<0
    ·exact⟨-1,by simp[FW,Ay,hlt,e,hr0],by omega⟩
    ·obtain⟨r2,e2,h2⟩:=ih (i+1) m r (by omega) (by omega) (by omega) (by have:=hr (by omega); omega);refine⟨r2,?_,h2⟩;rw[← AT hlt hx] at e2
     simp only[FW,Ay,Y hlt,X,Au,hlt,decide_true,if_true,e,hr0,decide_false,C,if_false];exact e2
  obtain⟨r,e,hr⟩:=key xs.length 0 bigN (l - xs.length) (by omega) (BL hx) (by omega) (by omega);refine⟨r,?_,fun h=>⟨hr h,by omega⟩⟩;simp only[h,decide_false,C,if_false];exact e
theorem A5x{xs:H X3}{l:P}(h0:0≤l)(h1:l≤1048576)(hx:xs.length≤maxLen):∃r,MZ xs l=G r∧(0≤r→r≤l∧xs.length≤1048576):=by
 unfold MZ;rw[AN] at hx
 rw[AF (by omega) (by omega)];by_cases h:l - (xs.length:P)<0
 ·exact⟨-1,by simp[h],by omega⟩
 ·exact⟨l - xs.length,by simp[h],by omega⟩
theorem A5o{c:X6}{l:P}(h0:0≤l)(h1:l≤1048576)(hp:c.Points.length≤maxLen)(hs:c.Segments.length≤maxLen)(hn:∀x∈c.Points,x.Name.length≤maxLen) :
  ∃r,MQ c l=G r∧(0≤r→r≤l∧c.Points.length≤1048576∧c.Segments.length≤1048576):=by
 unfold MQ;obtain⟨r,e,h⟩:=A5v h0 h1 hp hn;by_cases hr:r<0
 ·exact⟨-1,by simp[e,hr],by omega⟩
 ·obtain⟨k1,k2⟩:=h (by omega);obtain⟨r',e',h'⟩:=A5x (xs:=c.Segments) (l:=r) (by omega) (by omega) hs;by_cases hr':r'<0
  ·exact⟨-1,by simp[e,hr,e',hr'],by omega⟩
  ·obtain⟨k3,k4⟩:=h' (by omega);exact⟨r',by simp[e,hr,e',hr'],fun _=>⟨by omega,k2,k4⟩⟩
def CG(s:X5):Q:=Em s.Name&&((decide (10≤s.Length)&&decide (s.Length≤400))&&((decide (100≤s.Draught)&&decide (s.Draught≤2000))&&((decide (0≤s.Line)&&decide (s.Line≤3))&&(decide (0≤s.Tugs)&&decide (s.Tugs≤4)))))
theorem eS(a b:Q):(if a=F then G b else G E)=G (a&&b):=by cases a<;>rfl
theorem IX{s:X5}(h:s.Name.length≤maxLen):Ds s=G (CG s):=by
 simp only[Ds,ge h,BG,X,eS,CG]
theorem Gl{s:X5}(h:s.Name.length≤maxLen):Ea s=G (CG s):=by
 have e:(decide (0≤s.Line)&&decide (s.Line<4))=(decide (0≤s.Line)&&decide (s.Line≤3)):=by
  congr 1
  rw[zE]; simp; omega
 simp only[Ea,eV h,D9,Ky,X,eS,CG,e]
def OG(xs:H X5)(s:H V)(i:U):Q:=match xs[i]? with
 | some x=>decide (x.Name=s)
 | none=>E
def OH(xs:H X5)(s:H V):P:=(zQ 0 xs.length).foldr (fun i r=>if OG xs s i=F then(i:P) else r) (-1)
theorem A4r{xs:H X5}{s:H V}(h:xs.length≤maxLen):NE xs s=G (OH xs s):=by
 unfold NE;exact(IU (Ir s xs) xs.length h (fun i r=>if OG xs s i=F then G (i:P) else r) (G (-1)) (fun n i hi=>by simp[Ir,Ay,hi,OG]) (fun n=>by simp[Ir]) xs.length 0 bigN (by omega) (BL h)).trans (NX _ _ _ _ _)
theorem xH{xs:H X5}{s:H V}(h:xs.length≤maxLen):Mb xs s=G (OH xs s):=by
 unfold Mb;exact(IU (Hg s xs) xs.length h (fun i r=>if OG xs s i=F then G (i:P) else r) (G (-1)) (fun n i hi=>by simp[Hg,Ay,hi,OG]) (fun n=>by simp[Hg]) xs.length 0 bigN (by omega) (BL h)).trans (NX _ _ _ _ _)
def Ko(xs:H X5)(i:U):Q:=match xs[i]? with
 | some x=>CG x&&decide (OH xs x.Name=(i:P))
 | none=>E
def Dv(xs:H X5):Q:=decide (xs.length≤6)&&(zB xs.length).all (Ko xs)
theorem Jh(a b:P):(a !=b)= !decide (a=b):=rfl
theorem ga{xs:H X5}(hn:∀x∈xs,x.Name.length≤maxLen):K7 xs=G (Dv xs):=by
 unfold K7 Dv;by_cases h:xs.length≤6
 ·have h':¬(6:P)<xs.length:=by omega
  have hm:xs.length≤maxLen:=by rw[AN]; omega
  simp only[h,h',decide_true,decide_false,C,if_false,zC];refine L5 (L:=Ib xs) xs.length (Ko xs) hm (fun n i hi=> ?_) (fun n=>by simp[Ib]);simp only[Ib,Au,hi,decide_true,if_true,Ax hi,X,IX (hn _ (I hi)),A4r hm,Ko,Y hi,Jh];cases CG xs[i]<;>by_cases e:OH xs xs[i].Name=(i:P)<;>simp[e]
 ·have h':(6:P)<xs.length:=by omega
  simp[h,h']
theorem eT{xs:H X5}(hn:∀x∈xs,x.Name.length≤maxLen):JA xs=G (Dv xs):=by
 unfold JA Dv;by_cases h:xs.length≤6
 ·have h':¬(6:P)<xs.length:=by omega
  have hm:xs.length≤maxLen:=by rw[AN]; omega
  simp only[h,h',decide_true,decide_false,C,if_false,zC];refine L5 (L:=H6 xs) xs.length (Ko xs) hm (fun n i hi=> ?_) (fun n=>by simp[H6]);simp only[H6,Au,hi,decide_true,if_true,Ax hi,X,Gl (hn _ (I hi)),xH hm,Ko,Y hi,Jh];cases CG xs[i]<;>by_cases e:OH xs xs[i].Name=(i:P)<;>simp[e]
 ·have h':(6:P)<xs.length:=by omega
  simp[h,h']
theorem Kq{xs:H X5}(h:Dv xs=F):xs.length≤6∧∀x∈xs,CG x=F:=by
 simp only[Dv,Z,decide_eq_true_eq,zM,yP] at h;refine⟨h.1,fun x hx=> ?_⟩;obtain⟨i,hi,rfl⟩:=zP hx;have:=h.2 i hi;simp only[Ko,Y hi,Z] at this
 exact this.1
def Bn(x:X3)(s:X5):P:=if s.Slow=F then yQ .i64 (2*x.Minutes) else x.Minutes
theorem OJ(x:X3)(s:X5):Fa x s=G (Bn x s):=by unfold Fa Bn; split<;>rfl
theorem O2(x:X3)(s:X5):ES s x=G (Bn x s):=by unfold ES Bn; split<;>rfl
def B1(c:X6)(i:P):X3:=c.Segments[i.toNat]?.getD ⟨0,0,0,0,E⟩
def BV(l:H X5)(i:P):X5:=l[i.toNat]?.getD ⟨[],0,0,0,0,E⟩
theorem Kz{α:Type}{l:H α}{i:P}(d:α)(h:idx i l.length=F):ix l i=G (l[i.toNat]?.getD d)∧l[i.toNat]?.getD d∈l:=by
 simp only[idx,Z,decide_eq_true_eq] at h;obtain⟨k,rfl⟩:∃k:U,i=(k:P):=⟨i.toNat,by omega⟩;have hk:k<l.length:=by omega
 have e:l[((k:U):P).toNat]?.getD d=l[k]:=by simp[hk]
 rw[Ax hk,e];exact⟨rfl,I hk⟩
theorem C8{c:X6}{i:P}(h:idx i c.Segments.length=F):ix c.Segments i=G (B1 c i)∧B1 c i∈c.Segments:=Kz _ h
theorem IK{l:H X5}{i:P}(h:idx i l.length=F):ix l i=G (BV l i)∧BV l i∈l:=Kz _ h
theorem Dw(i:P){n:U}(h:n≤1000):AK i 0 (yQ .i64 ((n:P) - 1))=G (idx i n):=by rw[BG,ef i h]
theorem El(i:P)(n:U):BO i (n:P)=G (idx i n):=Ky i n
theorem A6l{xs:H X5}(h:xs.length≤1048576):Nb xs=G xs:=by
 unfold Nb;rw[DA h (by omega)];have:=EN (L:=I0 xs) xs id (DS h) (fun n i acc hi ha=>by simp[I0,Ay,hi,ha,S8]) (fun n acc=>by simp[I0]) (zA xs.length ⟨[],0,0,0,0,E⟩) (by simp);simpa using this
theorem tW(x y:X5):ML x y=G (decide (x=y)):=by
 unfold ML;cases x; cases y;simp only[X5.mk.injEq];repeat' split
 all_goals simp_all
theorem tV{xs ys:H X5}(h:xs.length≤maxLen):MM xs ys=G (decide (xs=ys)):=by
 unfold MM;by_cases hl:xs.length=ys.length
 ·have:=GZ (L:=HL xs ys) xs ys h hl (fun n i h1 h2=>by simp[HL,Ay,h1,h2,tW]) (fun n=>by simp[HL]);simp[hl,this]
 ·have:¬(xs.length:P)=ys.length:=by omega
  have:xs≠ys:=fun e=>hl (by rw[e])
  simp_all
theorem A5z{x:X5}{l:P}(h0:0≤l)(h1:l≤1048576)(hx:x.Name.length≤maxLen):∃r,N0 x l=G r∧(0≤r→r≤l):=by
 unfold N0;rw[AN] at hx
 rw[AF (by omega) (by omega)];by_cases h:l - (x.Name.length:P)<0
 ·exact⟨-1,by simp[h],by omega⟩
 ·exact⟨l - x.Name.length,by simp[h],by omega⟩
theorem A5y{xs:H X5}{l:P}(h0:0≤l)(h1:l≤1048576)(hx:xs.length≤maxLen)(hn:∀x∈xs,x.Name.length≤maxLen):∃r,N1 xs l=G r∧(0≤r→r≤l∧xs.length≤1048576):=by
 unfold N1;have hx':=hx;rw[AN] at hx'
 rw[AF (by omega) (by omega)];by_cases h:l - (xs.length:P)<0
 ·exact⟨-1,by simp[h],by omega⟩
 ·have key:∀(k i n:U) (v:P),i+k=xs.length→k<n→0≤v→v≤l→∃r,FX xs n v (i:P)=G r∧(0≤r→r≤l):=by
   intro k
   induction k with
   | zero=>
    intro i n v hi hn2 hv hv2;obtain⟨m,rfl⟩:∃m,n=m+1:=⟨n - 1,by omega⟩;have:i=xs.length:=by omega
    subst this;exact⟨v,by simp[FX],fun _=>hv2⟩
   | succ k ih=>
    intro i n v hi hn2 hv hv2;obtain⟨m,rfl⟩:∃m,n=m+1:=⟨n - 1,by omega⟩;have hlt:i<xs.length:=by omega
    obtain⟨r,e,hr⟩:=A5z (x:=xs[i]) hv (by omega) (hn _ (I hlt));by_cases hr0:r<0
    ·exact⟨-1,by simp[FX,Ay,hlt,e,hr0],by omega⟩
    ·obtain⟨r2,e2,h2⟩:=ih (i+1) m r (by omega) (by omega) (by omega) (by have:=hr (by omega); omega);refine⟨r2,?_,h2⟩;rw[← AT hlt hx] at e2
     simp only[FX,Ay,Y hlt,X,Au,hlt,decide_true,if_true,e,hr0,decide_false,C,if_false];exact e2
  obtain⟨r,e,hr⟩:=key xs.length 0 bigN (l - xs.length) (by omega) (BL hx) (by omega) (by omega);refine⟨r,?_,fun h=>⟨hr h,by omega⟩⟩;simp only[h,decide_false,C,if_false];exact e
theorem A4e{xs:H X5}(ok:(D.sl (zV X5.row xs)).Ok):xs.length≤maxLen∧∀x∈xs,x.Name.length≤maxLen:=
 ⟨Er ok,fun x hx=>(ok.sl.2 (X5.row x) (yH hx) (.str x.Name) (by simp[X5.row_eq])).str⟩
def Ft(p:P):Q:=(decide (4≤p)&&decide (p≤2880))&&(yQ .i64 (yA p 4)==0)
def Gw(x:Xd):Q:=(decide (0≤x.Amp)&&decide (x.Amp≤1000))&&(Ft x.Period&&(decide (0≤x.Phase)&&decide (x.Phase≤yQ .i64 (x.Period - 1))))
def EB(t:Xj):Q:=(decide (-1000≤t.Mean)&&decide (t.Mean≤1000))&&(decide (t.Parts.length≤4)&&t.Parts.all Gw)
theorem A4p(x:Xd):Nw x=G (Gw x):=by
 simp only[Nw,BG,X,Gw,Ft];cases(decide (0≤x.Amp)&&decide (x.Amp≤1000))<;>cases(decide (4≤x.Period)&&decide (x.Period≤2880))<;>cases(yQ .i64 (yA x.Period 4)==0)<;>rfl
theorem fD(p:P):JK p=G (Ft p):=by
 simp only[JK,D9,X,Ft];cases(decide (4≤p)&&decide (p≤2880))<;>rfl
theorem xE(x:Xd):M4 x=G (Gw x):=by
 simp only[M4,D9,fD,X,Gw];cases(decide (0≤x.Amp)&&decide (x.Amp≤1000))<;>cases Ft x.Period<;>rfl
theorem A4t(t:Xj):NH t=G (EB t):=by
 simp only[NH,BG,X,EB];cases(decide (-1000≤t.Mean)&&decide (t.Mean≤1000)) with
 | false=>rfl
 | true=>
  by_cases h1:t.Parts.length≤4
  ·have h1':¬(4:P)<t.Parts.length:=by omega
   rw[EH (L:=It t) t.Parts Gw (by rw[AN]; omega) (fun n i hi=>by simp only[It,Ay,Y hi,X,Au,hi,decide_true,if_true,A4p]) (fun n=>by simp[It])];simp[h1,h1']
  ·have h1':(4:P)<t.Parts.length:=by omega
   simp[h1,h1']
theorem xJ(t:Xj):Me t=G (EB t):=by
 simp only[Me,D9,X,EB];cases(decide (-1000≤t.Mean)&&decide (t.Mean≤1000)) with
 | false=>rfl
 | true=>
  by_cases h1:t.Parts.length≤4
  ·have h1':¬(4:P)<t.Parts.length:=by omega
   rw[EH (L:=Hh t) t.Parts Gw (by rw[AN]; omega) (fun n i hi=>by simp only[Hh,Ay,Y hi,X,Au,hi,decide_true,if_true,xE]) (fun n=>by simp[Hh])];simp[h1,h1']
  ·have h1':(4:P)<t.Parts.length:=by omega
   simp[h1,h1']
def Fx(x:Xb):Q:=(decide (0≤x.From)&&decide (x.From≤2880))&&((decide (-500≤x.Low)&&decide (x.Low≤500))&&(decide (x.Low≤x.High)&&decide (x.High≤500)))
theorem A4s(x:Xb):NG x=G (Fx x):=by
 simp only[NG,BG,X,Fx];cases(decide (0≤x.From)&&decide (x.From≤2880))<;>cases(decide (-500≤x.Low)&&decide (x.Low≤500))<;>rfl
theorem xI(x:Xb):Md x=G (Fx x):=by
 simp only[Md,Gm,X,Fx];cases(decide (0≤x.From)&&decide (x.From≤2880))
 ·rfl
 ·by_cases a1: -500≤x.Low<;>by_cases a2:x.Low≤x.High<;>by_cases a3:x.High≤500<;>by_cases a4:x.Low≤500<;>simp[a1,a2,a3,a4]
  omega
def IY(l:H Xb)(i:U):Q:=match l[i]? with
 | some x=>Fx x&&(match i with | 0=>F | j+1=>match l[j]? with | some y=> !(decide (x.From≤y.From)) | none=>E)
 | none=>E
def WV(l:H Xb):Q:=match l[0]? with
 | some x=>decide (x.From=0)
 | none=>E
def Dc(f:Xc):Q:=EB f.Tide&&((decide (1≤(f.Surges.length:P))&&decide ((f.Surges.length:P)≤6))&&(WV f.Surges&&(zB f.Surges.length).all (IY f.Surges)))
theorem jX(j:U)(h:j≤1000):yQ .i64 (((j+1:U):P) - 1)=(j:P):=by
 rw[AF (by omega) (by omega)];omega
theorem WR(f:Xc):Ic f=G (Dc f):=by
 simp only[Ic,A4t,BG,X,Dc];cases EB f.Tide with
 | false=>rfl
 | true=>
  cases hb:(decide (1≤(f.Surges.length:P))&&decide ((f.Surges.length:P)≤6)) with
  | false=>rfl
  | true=>
   simp only[Z,decide_eq_true_eq] at hb
   have h0:0<f.Surges.length:=by omega
   have hl:f.Surges.length≤maxLen:=by rw[AN]; omega
   rw[FD (L:=G1 f) f.Surges.length (IY f.Surges) (G F) hl (fun n i hi=> ?_) (fun n=>by simp[G1])]
   ·have e0:ix f.Surges 0=G f.Surges[0]:=Ax h0;simp only[e0,X,WV,Y h0,zC,if_true];by_cases e:f.Surges[0].From=0<;>cases(zB f.Surges.length).all (IY f.Surges)<;>simp[e]
   ·simp only[G1,Ay,Y hi,X,Au,hi,decide_true,if_true,A4s,IY];cases i with
    | zero=>cases Fx f.Surges[0]<;>simp
    | succ j=>
     have hj:j<f.Surges.length:=by omega
     rw[jX j (by omega)];simp only[Ay,Y hj,X];have hp:(0:P)<((j+1:U):P):=by omega
     cases Fx f.Surges[j+1]<;>cases decide (f.Surges[j+1].From≤f.Surges[j].From)<;>simp
theorem O1(f:Xc):FI f=G (Dc f):=by
 simp only[FI,xJ,D9,X,Dc];cases EB f.Tide with
 | false=>rfl
 | true=>
  cases hb:(decide (1≤(f.Surges.length:P))&&decide ((f.Surges.length:P)≤6)) with
  | false=>rfl
  | true=>
   simp only[Z,decide_eq_true_eq] at hb
   have h0:0<f.Surges.length:=by omega
   have hl:f.Surges.length≤maxLen:=by rw[AN]; omega
   rw[FD (L:=FJ f) f.Surges.length (IY f.Surges) (G F) hl (fun n i hi=> ?_) (fun n=>by simp[FJ])]
   ·have e0:ix f.Surges 0=G f.Surges[0]:=Ax h0;simp only[e0,X,WV,Y h0,zC,if_true];by_cases e:f.Surges[0].From=0<;>cases(zB f.Surges.length).all (IY f.Surges)<;>simp[e]
   ·simp only[FJ,Ay,Y hi,X,Au,hi,decide_true,if_true,xI,IY];cases i with
    | zero=>cases Fx f.Surges[0]<;>simp
    | succ j=>
     have hj:j<f.Surges.length:=by omega
     rw[jX j (by omega)];simp only[Ay,Y hj,X];have hp:(0:P)<((j+1:U):P):=by omega
     cases Fx f.Surges[j+1]<;>cases decide (f.Surges[j+1].From≤f.Surges[j].From)<;>simp
def Cq(m:P):Q:=decide (0≤m)&&decide (m≤2880)
theorem A6h{xs:H Xd}(h:xs.length≤1048576):N7 xs=G xs:=by
 unfold N7;rw[DA h (by omega)];have:=EN (L:=HW xs) xs id (DS h) (fun n i acc hi ha=>by simp[HW,Ay,hi,ha,S3]) (fun n acc=>by simp[HW]) (zA xs.length ⟨0,0,0⟩) (by simp);simpa using this
theorem A6m{xs:H Xb}(h:xs.length≤1048576):Nc xs=G xs:=by
 unfold Nc;rw[DA h (by omega)];have:=EN (L:=I1 xs) xs id (DS h) (fun n i acc hi ha=>by simp[I1,Ay,hi,ha,S9]) (fun n acc=>by simp[I1]) (zA xs.length ⟨0,0,0⟩) (by simp);simpa using this
theorem A6c{f:Xc}(h1:f.Tide.Parts.length≤1048576)(h2:f.Surges.length≤1048576):N4 f=G f:=by
 simp[N4,Sa,A6h h1,A6m h2]
theorem tO(x y:Xd):MD x y=G (decide (x=y)):=by
 unfold MD;cases x; cases y;simp only[Xd.mk.injEq];repeat' split
 all_goals simp_all
theorem tN{xs ys:H Xd}(h:xs.length≤maxLen):ME xs ys=G (decide (xs=ys)):=by
 unfold ME;by_cases hl:xs.length=ys.length
 ·have:=GZ (L:=HH xs ys) xs ys h hl (fun n i h1 h2=>by simp[HH,Ay,h1,h2,tO]) (fun n=>by simp[HH]);simp[hl,this]
 ·have:¬(xs.length:P)=ys.length:=by omega
  have:xs≠ys:=fun e=>hl (by rw[e])
  simp_all
theorem tY(x y:Xb):MN x y=G (decide (x=y)):=by
 unfold MN;cases x; cases y;simp only[Xb.mk.injEq];repeat' split
 all_goals simp_all
theorem tX{xs ys:H Xb}(h:xs.length≤maxLen):MO xs ys=G (decide (xs=ys)):=by
 unfold MO;by_cases hl:xs.length=ys.length
 ·have:=GZ (L:=HM xs ys) xs ys h hl (fun n i h1 h2=>by simp[HM,Ay,h1,h2,tY]) (fun n=>by simp[HM]);simp[hl,this]
 ·have:¬(xs.length:P)=ys.length:=by omega
  have:xs≠ys:=fun e=>hl (by rw[e])
  simp_all
theorem tG{f:Xc}(h1:f.Tide.Parts.length≤maxLen)(h2:f.Surges.length≤maxLen):Mz f f=G F:=by
 simp[Mz,RS,tN h1,tX h2]
theorem A5u{xs:H Xd}{l:P}(h0:0≤l)(h1:l≤1048576)(hx:xs.length≤maxLen):∃r,MW xs l=G r∧(0≤r→r≤l∧xs.length≤1048576):=by
 unfold MW;rw[AN] at hx
 rw[AF (by omega) (by omega)];by_cases h:l - (xs.length:P)<0
 ·exact⟨-1,by simp[h],by omega⟩
 ·exact⟨l - xs.length,by simp[h],by omega⟩
theorem A50{xs:H Xb}{l:P}(h0:0≤l)(h1:l≤1048576)(hx:xs.length≤maxLen):∃r,N2 xs l=G r∧(0≤r→r≤l∧xs.length≤1048576):=by
 unfold N2;rw[AN] at hx
 rw[AF (by omega) (by omega)];by_cases h:l - (xs.length:P)<0
 ·exact⟨-1,by simp[h],by omega⟩
 ·exact⟨l - xs.length,by simp[h],by omega⟩
theorem A5p{f:Xc}{l:P}(h0:0≤l)(h1:l≤1048576)(hp:f.Tide.Parts.length≤maxLen)(hs:f.Surges.length≤maxLen) :
  ∃r,MR f l=G r∧(0≤r→r≤l∧f.Tide.Parts.length≤1048576∧f.Surges.length≤1048576):=by
 unfold MR RZ;obtain⟨r,e,h⟩:=A5u h0 h1 hp;by_cases hr:r<0
 ·exact⟨-1,by simp[e,hr],by omega⟩
 ·obtain⟨k1,k2⟩:=h (by omega);obtain⟨r',e',h'⟩:=A50 (xs:=f.Surges) (l:=r) (by omega) (by omega) hs;by_cases hr':r'<0
  ·exact⟨-1,by simp[e,hr,e',hr'],by omega⟩
  ·obtain⟨k3,k4⟩:=h' (by omega);exact⟨r',by simp[e,hr,e',hr'],fun _=>⟨by omega,k2,k4⟩⟩
def EO(w:Xk):Q:=(decide (0≤w.Tugs)&&decide (w.Tugs≤12))&&((decide (0≤w.Pilots)&&decide (w.Pilots≤12))&&(Cq w.Rest&&(decide (w.Moves.length=64)&&w.Moves.all fun x=>decide (0≤x)&&decide (x≤240))))
theorem SB(a b:Q):(if a=F then G b else G E)=G (a&&b):=by cases a<;>rfl
theorem fk{l:H P}(h:l.length≤maxLen):Gf l bigN 0=G (l.all fun x=>decide (0≤x)&&decide (x≤240)):=
 EH (L:=Gf l) l _ h (fun n i hi=>by simp[Gf,Ay,hi,BG]) (fun n=>by simp[Gf])
theorem fj{l:H P}(h:l.length≤maxLen):Fsz l bigN 0=G (l.all fun x=>decide (0≤x)&&decide (x≤240)):=
 EH (L:=Fsz l) l _ h (fun n i hi=>by simp[Fsz,Ay,hi,D9]) (fun n=>by simp[Fsz])
theorem WQ{w:Xk}(h:w.Moves.length≤maxLen):I8 w=G (EO w):=by
 simp only[I8,Ge,BG,X,fk h,EO,Cq];by_cases e:w.Moves.length=64
 ·have e':((w.Moves.length:P) !=64)=E:=by simp; omega
  simp only[e,e',C,if_false,decide_true,zC];cases(decide (0≤w.Tugs)&&decide (w.Tugs≤12))<;>cases(decide (0≤w.Pilots)&&decide (w.Pilots≤12))<;>cases(decide (0≤w.Rest)&&decide (w.Rest≤2880))<;>rfl
 ·have e':((w.Moves.length:P) !=64)=F:=by simp; omega
  simp only[e,e',if_true,decide_false,Bool.false_and,Bool.and_false];cases(decide (0≤w.Tugs)&&decide (w.Tugs≤12))<;>cases(decide (0≤w.Pilots)&&decide (w.Pilots≤12))<;>cases(decide (0≤w.Rest)&&decide (w.Rest≤2880))<;>rfl
theorem xB{w:Xk}(h:w.Moves.length≤maxLen):LQ w=G (EO w):=by
 simp only[LQ,FR,D9,Gm,X,fj h,EO,Cq];by_cases e:w.Moves.length=64
 ·have e':((w.Moves.length:P) !=64)=E:=by simp; omega
  simp only[e,e',C,if_false,decide_true,zC,X];cases(decide (0≤w.Tugs)&&decide (w.Tugs≤12))<;>cases(decide (0≤w.Pilots)&&decide (w.Pilots≤12))<;>cases(decide (0≤w.Rest)&&decide (w.Rest≤2880))<;>rfl
 ·have e':((w.Moves.length:P) !=64)=F:=by simp; omega
  simp only[e,e',if_true,decide_false,Bool.false_and,Bool.and_false,X];cases(decide (0≤w.Tugs)&&decide (w.Tugs≤12))<;>cases(decide (0≤w.Pilots)&&decide (w.Pilots≤12))<;>cases(decide (0≤w.Rest)&&decide (w.Rest≤2880))<;>rfl
def IV(r:Xg):Q:=decide (0≤r.Gap)&&decide (r.Gap≤60)
def BS(h:X7):Q:=Dc h.Forecast&&(Be h.Chart&&(Dv h.Fleet&&(IV h.Regime&&EO h.Crew)))
structure HSmall (h:X7):Prop where
 pn:∀x∈h.Chart.Points,x.Name.length≤maxLen
 fn:∀x∈h.Fleet,x.Name.length≤maxLen
 mv:h.Crew.Moves.length≤maxLen
theorem gb{h:X7}(s:HSmall h):Ka h=G (BS h):=by
 simp only[Ka,Im,WR,Fw s.pn,ga s.fn,WQ s.mv,BG,X,SB,BS,IV]
theorem eU{h:X7}(s:HSmall h):JB h=G (BS h):=by
 simp only[JB,RF,O1,II s.pn,eT s.fn,xB s.mv,D9,X,SB,BS,IV]
theorem Fv{c:X6}(h:Be c=F):c.Points.length≤8∧c.Segments.length≤10∧∀x∈c.Segments,0≤x.Depth∧x.Depth≤3000∧1≤x.Minutes∧x.Minutes≤240:=by
 simp only[Be,Z,decide_eq_true_eq,zM,yP] at h;obtain⟨h1,h2,h3,h4⟩:=h;refine⟨h1,h2,fun x hx=> ?_⟩;obtain⟨i,hi,rfl⟩:=zP hx;have:=h4 i hi;simp only[DF,Y hi,Z,decide_eq_true_eq] at this
 omega
def Cd(c:X6)(fl:H X5)(p:X1):Q:=idx p.Ship fl.length&&(idx p.Segment c.Segments.length&&(Cq p.Start&&(decide (p.End≤2880)&&decide (p.End=yQ .i64 (p.Start+Bn (B1 c p.Segment) (BV fl p.Ship))))))
theorem gf{c:X6}{s:X5}{i:P}(hn:∀x∈c.Points,x.Name.length≤maxLen)(hs:s.Name.length≤maxLen)(h1:Be c=F)(h2:CG s=F)(h3:idx i c.Segments.length=F):Kd c i s=G (Bn (B1 c i) s):=by
 have:=(Fv h1).2.1;unfold Kd;simp only[Fw hn,IX hs,h1,h2,X,if_true,Dw i (show c.Segments.length≤1000 by omega),h3,(C8 h3).1,OJ]
theorem gg{c:X6}{fl:H X5}{p:X1}(hn:∀x∈c.Points,x.Name.length≤maxLen)(hf:∀x∈fl,x.Name.length≤maxLen)(h1:Be c=F)(h2:Dv fl=F):Kg c fl p=G (Cd c fl p):=by
 unfold Kg;simp only[Fw hn,ga hf,X,h1,h2];have s1:=(Fv h1).2.1;have s2:=(Kq h2).1;simp only[if_true,Dw p.Ship (show fl.length≤1000 by omega),Dw p.Segment (show c.Segments.length≤1000 by omega),X,BG,Cd,Cq];cases h3:idx p.Ship fl.length with
 | false=>simp
 | true=>
  cases h4:idx p.Segment c.Segments.length with
  | false=>simp
  | true=>
   cases h5:decide (0≤p.Start)&&decide (p.Start≤2880) with
   | false=>simp
   | true=>
    have hsh:=(Kq h2).2 _ (IK h3).2;simp only[if_true,zC,(IK h3).1,X,gf hn (hf _ (IK h3).2) h1 hsh h4];by_cases e:p.End=yQ .i64 (p.Start+Bn (B1 c p.Segment) (BV fl p.Ship))<;>simp[e]
theorem xN{c:X6}{fl:H X5}{p:X1}:Mr c fl p=G (Cd c fl p):=by
 unfold Mr;simp only[El,X,Gm,Cd,Cq];cases h3:idx p.Ship fl.length with
 | false=>simp
 | true=>
  cases h4:idx p.Segment c.Segments.length with
  | false=>simp
  | true=>
   cases h5:decide (0≤p.Start)&&decide (p.Start≤2880) with
   | false=>simp
   | true=>
    simp only[if_true,zC,(IK h3).1,(C8 h4).1,X,O2];have e0:decide (2880<p.End)= !decide (p.End≤2880):=by rw[zE]; simp
    rw[e0];cases decide (p.End≤2880)<;>simp;rfl
theorem DC{c:X6}{fl:H X5}{p:X1}(hc:Be c=F)(h:Cd c fl p=F):idx p.Ship fl.length=F∧idx p.Segment c.Segments.length=F∧0≤p.Start∧p.Start≤p.End∧p.End≤2880:=by
 simp only[Cd,Cq,Z,decide_eq_true_eq] at h;obtain⟨h3,h4,h5,h6,h7⟩:=h;refine⟨h3,h4,h5.1,?_,h6⟩;obtain⟨_,_,a,b⟩:=(Fv hc).2.2 _ (C8 h4).2;rw[h7];unfold Bn;split
 ·rw[AF (n:=2*_) (by omega) (by omega),AF (by omega) (by omega)]; omega
 ·rw[AF (by omega) (by omega)]; omega
theorem A5q{a:X7}{l:P}(h0:0≤l)(h1:l≤1048576)(q1:a.Forecast.Tide.Parts.length≤maxLen)(q2:a.Forecast.Surges.length≤maxLen)(q3:a.Chart.Points.length≤maxLen)(q4:a.Chart.Segments.length≤maxLen)(q5:a.Fleet.length≤maxLen)(s:HSmall a) :
  ∃r,MS a l=G r∧(0≤r→r≤l∧a.Forecast.Tide.Parts.length≤1048576∧a.Forecast.Surges.length≤1048576∧a.Chart.Points.length≤1048576∧a.Chart.Segments.length≤1048576∧a.Fleet.length≤1048576∧a.Crew.Moves.length≤1048576):=by
 unfold MS RX;obtain⟨r1,e1,k1⟩:=A5p (f:=a.Forecast) h0 h1 q1 q2;by_cases c1:r1<0
 ·exact⟨-1,by simp[e1,c1],by omega⟩
 obtain⟨b1,b2,b3⟩:=k1 (by omega);obtain⟨r2,e2,k2⟩:=A5o (c:=a.Chart) (l:=r1) (by omega) (by omega) q3 q4 s.pn;by_cases c2:r2<0
 ·exact⟨-1,by simp[e1,c1,e2,c2],by omega⟩
 obtain⟨b4,b5,b6⟩:=k2 (by omega);obtain⟨r3,e3,k3⟩:=A5y (xs:=a.Fleet) (l:=r2) (by omega) (by omega) q5 s.fn;by_cases c3:r3<0
 ·exact⟨-1,by simp[e1,c1,e2,c2,e3,c3],by omega⟩
 obtain⟨b7,b8⟩:=k3 (by omega);obtain⟨r4,e4,k4⟩:=A5r (xs:=a.Crew.Moves) (l:=r3) (by omega) (by omega) s.mv;by_cases c4:r4<0
 ·exact⟨-1,by simp[e1,c1,e2,c2,e3,c3,e4,c4],by omega⟩
 obtain⟨b9,b10⟩:=k4 (by omega);exact⟨r4,by simp[e1,c1,e2,c2,e3,c3,e4,c4],fun _=>⟨by omega,b2,b3,b5,b6,b8,b10⟩⟩
theorem A6d{a:X7}(q1:a.Forecast.Tide.Parts.length≤1048576)(q2:a.Forecast.Surges.length≤1048576)(q3:a.Chart.Points.length≤1048576)(q4:a.Chart.Segments.length≤1048576)(q5:a.Fleet.length≤1048576)(q6:a.Crew.Moves.length≤1048576):FZ a=G a:=by
 simp[FZ,S6,S2,A6c q1 q2,A59 q3 q4,A6l q5,A6e q6]
theorem tK{a:X7}(q1:a.Forecast.Tide.Parts.length≤maxLen)(q2:a.Forecast.Surges.length≤maxLen)(q3:a.Chart.Points.length≤maxLen)(q4:a.Chart.Segments.length≤maxLen)(q5:a.Fleet.length≤maxLen)(q6:a.Crew.Moves.length≤maxLen):MA a a=G F:=by
 simp[MA,RQ,RP,tG q1 q2,tF q3 q4,tV q5,VW q6]
theorem wU{a:X7}(ok:∀d∈X7.row a,d.Ok):a.Forecast.Tide.Parts.length≤maxLen∧a.Forecast.Surges.length≤maxLen∧a.Chart.Points.length≤maxLen∧a.Chart.Segments.length≤maxLen∧a.Fleet.length≤maxLen∧HSmall a:=by
 have h1:=ok (D.sl (zV Xd.row a.Forecast.Tide.Parts)) (by simp[X7.row_eq]);have h2:=ok (D.sl (zV Xb.row a.Forecast.Surges)) (by simp[X7.row_eq]);have h3:=ok (D.sl (zV X9.row a.Chart.Points)) (by simp[X7.row_eq]);have h4:=ok (D.sl (zV X3.row a.Chart.Segments)) (by simp[X7.row_eq]);have h5:=ok (D.sl (zV X5.row a.Fleet)) (by simp[X7.row_eq]);have h6:=ok (D.sl (zV rI a.Crew.Moves)) (by simp[X7.row_eq]);refine⟨Er h1,Er h2,Er h3,Er h4,Er h5,⟨fun x hx=> ?_,(A4e h5).2,Er h6⟩⟩;exact(h3.sl.2 (X9.row x) (yH hx) (.str x.Name) (by simp[X9.row_eq])).str
theorem A6i{xs:H X1}(h:xs.length≤1048576):N8 xs=G xs:=by
 unfold N8;rw[DA h (by omega)];have:=EN (L:=HX xs) xs id (DS h) (fun n i acc hi ha=>by simp[HX,Ay,hi,ha,S4]) (fun n acc=>by simp[HX]) (zA xs.length ⟨0,0,E,0,0⟩) (by simp);simpa using this
theorem tQ(x y:X1):MF x y=G (decide (x=y)):=by
 unfold MF;cases x; cases y;simp only[X1.mk.injEq];repeat' split
 all_goals simp_all
theorem tP{xs ys:H X1}(h:xs.length≤maxLen):MG xs ys=G (decide (xs=ys)):=by
 unfold MG;by_cases hl:xs.length=ys.length
 ·have:=GZ (L:=HI xs ys) xs ys h hl (fun n i h1 h2=>by simp[HI,Ay,h1,h2,tQ]) (fun n=>by simp[HI]);simp[hl,this]
 ·have:¬(xs.length:P)=ys.length:=by omega
  have:xs≠ys:=fun e=>hl (by rw[e])
  simp_all
theorem A6g{x:X2}(h:x.Passages.length≤1048576):N6 x=G x:=by
 simp[N6,A6i h]
theorem A6f{xs:H X2}(h:xs.length≤1048576)(hp:∀x∈xs,x.Passages.length≤1048576):G0 xs=G xs:=by
 unfold G0;rw[DA h (by omega)];have:=EN (L:=HV xs) xs id (DS h) (fun n i acc hi ha=>by simp[HV,Ay,hi,ha,A6g (hp _ (I hi))]) (fun n acc=>by simp[HV]) (zA xs.length ⟨0,0,0,[]⟩) (by simp);simpa using this
theorem tM{x:X2}(h:x.Passages.length≤maxLen):MB x x=G F:=by
 simp[MB,tP h]
theorem tL{xs:H X2}(h:xs.length≤maxLen)(hp:∀x∈xs,x.Passages.length≤maxLen):MC xs xs=G F:=by
 unfold MC;have:=EH (L:=HG xs xs) xs (fun _=>F) h (fun n i hi=>by simp[HG,Ay,hi,tM (hp _ (I hi))]) (fun n=>by simp[HG]);simp[this]
theorem A5t{x:X2}{l:P}(h0:0≤l)(h1:l≤1048576)(hx:x.Passages.length≤maxLen):∃r,MU x l=G r∧(0≤r→r≤l∧x.Passages.length≤1048576):=by
 unfold MU RY;rw[AN] at hx
 rw[AF (by omega) (by omega)];by_cases h:l - (x.Passages.length:P)<0
 ·exact⟨-1,by simp[h],by omega⟩
 ·exact⟨l - x.Passages.length,by simp[h],by omega⟩
theorem A5s{xs:H X2}{l:P}(h0:0≤l)(h1:l≤1048576)(hx:xs.length≤maxLen)(hn:∀x∈xs,x.Passages.length≤maxLen):∃r,MV xs l=G r∧(0≤r→r≤l∧xs.length≤1048576∧∀x∈xs,x.Passages.length≤1048576):=by
 unfold MV;have hx':=hx;rw[AN] at hx'
 rw[AF (by omega) (by omega)];by_cases h:l - (xs.length:P)<0
 ·exact⟨-1,by simp[h],by omega⟩
 ·have key:∀(k i n:U) (v:P),i+k=xs.length→k<n→0≤v→v≤l→∃r,FV xs n v (i:P)=G r∧(0≤r→r≤l∧∀j (hj:j<xs.length),i≤j→xs[j].Passages.length≤1048576):=by
   intro k
   induction k with
   | zero=>
    intro i n v hi hn2 hv hv2;obtain⟨m,rfl⟩:∃m,n=m+1:=⟨n - 1,by omega⟩;have:i=xs.length:=by omega
    subst this;exact⟨v,by simp[FV],fun _=>⟨hv2,fun j hj h=>by omega⟩⟩
   | succ k ih=>
    intro i n v hi hn2 hv hv2;obtain⟨m,rfl⟩:∃m,n=m+1:=⟨n - 1,by omega⟩;have hlt:i<xs.length:=by omega
    obtain⟨r,e,hr⟩:=A5t (x:=xs[i]) hv (by omega) (hn _ (I hlt));by_cases hr0:r<0
    ·exact⟨-1,by simp[FV,Ay,hlt,e,hr0],by omega⟩
    ·obtain⟨g1,g2⟩:=hr (by omega);obtain⟨r2,e2,h2⟩:=ih (i+1) m r (by omega) (by omega) (by omega) (by omega);refine⟨r2,?_,fun h0=>⟨(h2 h0).1,fun j hj hij=> ?_⟩⟩
     ·rw[← AT hlt hx] at e2
      simp only[FV,Ay,Y hlt,X,Au,hlt,decide_true,if_true,e,hr0,decide_false,C,if_false];exact e2
     ·by_cases hji:j=i
      ·subst hji; exact g2
      ·exact(h2 h0).2 j hj (by omega)
  obtain⟨r,e,hr⟩:=key xs.length 0 bigN (l - xs.length) (by omega) (BL hx) (by omega) (by omega);refine⟨r,?_,fun h0=>⟨(hr h0).1,by omega,fun x hx2=> ?_⟩⟩
  ·simp only[h,decide_false,C,if_false];exact e
  ·obtain⟨j,hj,rfl⟩:=zP hx2;exact(hr h0).2 j hj (yO _)
theorem A18{xs:H X2}(ok:(D.sl (zV X2.row xs)).Ok):xs.length≤maxLen∧∀x∈xs,x.Passages.length≤maxLen:=
 ⟨Er ok,fun x hx=>Er (row:=X1.row) (ok.sl.2 (X2.row x) (yH hx) (.sl (zV X1.row x.Passages)) (by simp[X2.row_eq]))⟩
theorem oX{m n b:U}(h:m+n≤2000000)(hb:b≤1000):AP m n b=F:=by
 unfold AP;rw[decide_eq_true_eq];have:(m+n)*b≤2000000*1000:=yB h hb;omega
theorem O0{α:Type}{m n b:U}(h:m+n≤2000000)(hb:b≤1000)(x y:α):(if AP m n b=F then x else y)=x:=by rw[if_pos (oX h hb)]
theorem ED{n:P}(h0:0≤n)(h1:n<18446744073709551616):IntKind.u64.wrap n=n:=by
 simp only[IntKind.wrap,IntKind.bits,IntKind.signed];have:n % 18446744073709551616=n:=Int.emod_eq_of_lt h0 h1;simp[this]
theorem DU{n:U}(h:n<2 ^ 63):yQ .i64 (n:P)=n:=AF (by omega) (by omega)
theorem KJ{n:U}(h:n<2 ^ 64):IntKind.u64.wrap (n:P)=n:=ED (by omega) (by omega)
theorem Oj{s n:U}(h:∀i,s.testBit i=F→i<n):s<2 ^ n:=Nat.lt_pow_two_of_testBit s fun i hi=>by
 cases hb:s.testBit i with
 | false=>rfl
 | true=>have:=h i hb; omega
theorem Ys{a b n:U}(h:a<2 ^ n):AX a b<2 ^ n:=Oj fun i hi=>by
 rw[EA,Z] at hi
 exact GC h hi.1
theorem Gv{w n:U}(h:n<2 ^ w):(BitVec.ofInt w (n:P)).toNat=n:=by
 rw[BitVec.ofInt_natCast,BitVec.toNat_ofNat,Nat.mod_eq_of_lt h]
theorem YI{w a b:U}(ha:a<2 ^ w)(hb:b<2 ^ w):(BitVec.ofInt w (a:P) &&& ~~~ BitVec.ofInt w (b:P)).toNat=AX a b:=by
 rw[BitVec.toNat_and,BitVec.toNat_not,Gv ha,Gv hb];apply zU
 intro i;rw[show 2 ^ w - 1 - b=2 ^ w - (b+1) by omega,zY,Nat.testBit_two_pow_sub_succ hb,EA];cases hi:a.testBit i with
 | false=>rfl
 | true=>simp[GC ha hi]
theorem oP{a b:U}(ha:a<2 ^ 63)(hb:b<2 ^ 63):Br .and .i64 (a:P) (b:P)=((a &&& b:U):P):=by
 show yQ .i64 ((BitVec.ofInt 64 (a:P) &&& BitVec.ofInt 64 (b:P)).toNat:P)=_
 rw[BitVec.toNat_and,Gv (zK ha (by decide)),Gv (zK hb (by decide)),DU (Nat.and_lt_two_pow a hb)]
theorem A19{a b:U}(ha:a<2 ^ 63)(hb:b<2 ^ 63):Br .or .i64 (a:P) (b:P)=((a ||| b:U):P):=by
 show yQ .i64 ((BitVec.ofInt 64 (a:P) ||| BitVec.ofInt 64 (b:P)).toNat:P)=_
 rw[BitVec.toNat_or,Gv (zK ha (by decide)),Gv (zK hb (by decide)),DU (yC ha hb)]
theorem Yq{a b:U}(ha:a<2 ^ 63)(hb:b<2 ^ 63):Br .andNot .i64 (a:P) (b:P)=((AX a b:U):P):=by
 show yQ .i64 ((BitVec.ofInt 64 (a:P) &&& ~~~ BitVec.ofInt 64 (b:P)).toNat:P)=_
 rw[YI (zK ha (by decide)) (zK hb (by decide)),DU (Ys ha)]
theorem WB{a b:U}(ha:a<2 ^ 64)(hb:b<2 ^ 64):Br .or .u64 (a:P) (b:P)=((a ||| b:U):P):=by
 show IntKind.u64.wrap ((BitVec.ofInt 64 (a:P) ||| BitVec.ofInt 64 (b:P)).toNat:P)=_
 rw[BitVec.toNat_or,Gv ha,Gv hb,KJ (yC ha hb)]
theorem L6{a b:U}(ha:a<2 ^ 64)(hb:b<2 ^ 64):Br .andNot .u64 (a:P) (b:P)=((AX a b:U):P):=by
 show IntKind.u64.wrap ((BitVec.ofInt 64 (a:P) &&& ~~~ BitVec.ofInt 64 (b:P)).toNat:P)=_
 rw[YI ha hb,KJ (Ys ha)]
theorem T4{n:U}(h:n≤20):Bz .i64 (1:P) (n:P)=((2 ^ n:U):P):=by
 have hp:2 ^ n<2 ^ 63:=zW (by omega) (by omega);unfold Bz;rw[zD,show min n IntKind.i64.bits=n by simp[IntKind.bits]; omega,Int.one_mul];have:((2:P) ^ n)=((2 ^ n:U):P):=by simp
 rw[this,DU hp]
theorem WO{n:U}(h:n≤20):Bz .u64 (1:P) (n:P)=((2 ^ n:U):P):=by
 have hp:2 ^ n<2 ^ 64:=zW (by omega) (by omega);unfold Bz;rw[zD,show min n IntKind.u64.bits=n by simp[IntKind.bits]; omega,Int.one_mul];have:((2:P) ^ n)=((2 ^ n:U):P):=by simp
 rw[this,KJ hp]
theorem pR(n:U):((n:P)==(0:P))=decide (n=0):=by
 rw[zE];simp
def fP:H V:= [0,1,2,2,3,3,3,3,4,4,4,4,4,4,4,4,5,5,5,5,5,5,5,5,5,5,5,5,5,5,5,5,6,6,6,6,6,6,6,6,6,6,6,6,6,6,6,6,6,6,6,6,6,6,6,6,6,6,6,6,6,6,6,6,7,7,7,7,7,7,7,7,7,7,7,7,7,7,7,7,7,7,7,7,7,7,7,7,7,7,7,7,7,7,7,7,7,7,7,7,7,7,7,7,7,7,7,7,7,7,7,7,7,7,7,7,7,7,7,7,7,7,7,7,7,7,7,7,8,8,8,8,8,8,8,8,8,8,8,8,8,8,8,8,8,8,8,8,8,8,8,8,8,8,8,8,8,8,8,8,8,8,8,8,8,8,8,8,8,8,8,8,8,8,8,8,8,8,8,8,8,8,8,8,8,8,8,8,8,8,8,8,8,8,8,8,8,8,8,8,8,8,8,8,8,8,8,8,8,8,8,8,8,8,8,8,8,8,8,8,8,8,8,8,8,8,8,8,8,8,8,8,8,8,8,8,8,8,8,8,8,8,8,8,8,8,8,8,8,8,8,8,8,8,8,8]
theorem zw(v8 v9:P):K3 v8 v9=(ix fP (IntKind.u8.wrap v8)).bind fun b10=>G (yQ .i64 (v9+(yQ .i64 (b10.toNat:P)))):=rfl
def fO(x:U):Q:=match fP[x]? with
 | some b=>decide (b.toNat≤8)&&(decide (x<2 ^ b.toNat)&&(x==0 || (decide (1≤b.toNat)&&decide (2 ^ (b.toNat - 1)≤x))))
 | none=>E
theorem zx:(zB 256).all fO=F:=by kernel_rfl
theorem fN{x:U}(hx:x<256)(n:P):∃l:U,K3 (x:P) n=G (yQ .i64 (n+(l:P)))∧l≤8∧x<2 ^ l∧(0<x→1≤l∧2 ^ (l - 1)≤x):=by
 have h:=zM.1 zx x (by simpa using hx);unfold fO at h;split at h
 ·rename_i b hb
  simp only[Z,decide_eq_true_eq,yN,beq_iff_eq] at h
  have hw:IntKind.u8.wrap (x:P)=(x:P):=by
   simp only[IntKind.wrap,IntKind.bits,IntKind.signed];have:(x:P) % 256=x:=Int.emod_eq_of_lt (by omega) (by omega);simp[this]
  refine⟨b.toNat,?_,h.1,h.2.1,fun h0=> ?_⟩
  ·rw[zw,hw,Ay,hb,X,DU (n:=b.toNat) (by omega)]
  ·rcases h.2.2 with h3|h3
   ·omega
   ·exact h3
 ·cases h
theorem A0c{s:U}(h1:1≤s)(h2:s<4096):∃t:U,K2 (s:P)=G ((t+1:U):P)∧2 ^ t≤s∧s<2 ^ (t+1)∧t<12:=by
 have key:∃l:U,K2 (s:P)=G ((l:U):P)∧1≤l∧2 ^ (l - 1)≤s∧s<2 ^ l:=by
  unfold K2 Sb;rw[if_neg (by simp; omega)];unfold Nd;rw[if_neg (by simp; omega)];unfold Nf;by_cases hs:s<256
  ·rw[if_neg (by simp; omega)];obtain⟨l,e,l8,a1,a2⟩:=fN hs 0;obtain⟨a3,a4⟩:=a2 h1;refine⟨l,?_,a3,a4,a1⟩;rw[e,X,Int.zero_add,DU (by omega)]
  ·rw[if_pos (by simp; omega)]
   have e8:CH .u64 (s:P) 8=((s / 256:U):P):=by
    unfold CH;rw[show min 8 IntKind.u64.bits=8 by rfl,Int.fdiv_eq_ediv_of_nonneg _ (by decide)];have:((s:P) / 2 ^ 8)=((s / 256:U):P):=by simp
    rw[this,KJ (by omega)]
   have e9:yQ .i64 ((0:P)+8)=((8:U):P):=by rw[AF (by omega) (by omega)]; rfl
   rw[e8,e9];obtain⟨l,e,l8,a1,a2⟩:=fN (x:=s / 256) (by omega) ((8:U):P);obtain⟨a3,a4⟩:=a2 (by omega);refine⟨8+l,?_,by omega,?_,?_⟩
   ·have:((8:U):P)+(l:P)=((8+l:U):P):=by omega
    rw[e,X,this,DU (by omega)]
   ·rw[show 8+l - 1=(l - 1)+8 by omega,Nat.pow_add];omega
   ·rw[Nat.add_comm,Nat.pow_add];omega
 obtain⟨l,e,a1,a2,a3⟩:=key;obtain⟨t,rfl⟩:∃t,l=t+1:=⟨l - 1,by omega⟩;refine⟨t,e,by simpa using a2,a3,?_⟩;rcases zI t 12 with h|h
 ·exact h
 ·have:=zT (show 0<2 by omega) h;simp at a2
  omega
theorem Xt{s t:U}(h1:2 ^ t≤s)(h2:s<2 ^ (t+1)):s.testBit t=F∧AX s (2 ^ t)<2 ^ t∧(∀i,(AX s (2 ^ t)).testBit i=F→s.testBit i=F)∧(∀i,s.testBit i=F→i=t∨(AX s (2 ^ t)).testBit i=F):=by
 have hb:∀i,(AX s (2 ^ t)).testBit i=(s.testBit i&& !decide (t=i)):=fun i=>by rw[EA,J1]
 refine⟨Nat.testBit_of_two_pow_le_and_two_pow_add_one_gt h1 h2,Oj fun i hi=> ?_,fun i hi=> ?_,fun i hi=> ?_⟩
 ·rw[hb,Z] at hi
  have:=GC h2 hi.1;have h3:t≠i:=by simpa using hi.2
  omega
 ·rw[hb,Z] at hi
  exact hi.1
 ·by_cases h:i=t
  ·exact .inl h
  ·right
   rw[hb,hi];simpa using fun e:t=i=>h e.symm
theorem OB{α β R:Type}{L:U→P→H β→O R}(xs:H α)(g:α→β)(K:H β→O R)(hl:xs.length≤maxLen)
  (hs:∀(n i:U) (acc:H β) (h:i<xs.length),acc.length=i→L (n+1) (i:P) acc=L n (yQ .i64 ((i:P)+1)) (acc++ [g xs[i]])) (he:∀n acc,acc.length=xs.length→L (n+1) (xs.length:P) acc=K acc):L bigN 0 []=K (xs.map g):=by
 have key:∀(k i n:U) (acc:H β),i+k=xs.length→k<n→acc=(xs.take i).map g→L n (i:P) acc=K (xs.map g):=by
  intro k
  induction k with
  | zero=>
   intro i n acc hi hn ha;obtain⟨m,rfl⟩:∃m,n=m+1:=⟨n - 1,by omega⟩;have:i=xs.length:=by omega
   subst this;rw[yL] at ha
   rw[he m acc (by rw[ha]; simp),ha]
  | succ k ih=>
   intro i n acc hi hn ha;obtain⟨m,rfl⟩:∃m,n=m+1:=⟨n - 1,by omega⟩;have hlt:i<xs.length:=by omega
   rw[hs m i acc hlt (by rw[ha]; simp; omega),AT hlt hl];refine ih (i+1) m _ (by omega) (by omega) ?_;rw[zH hlt,List.map_append,ha];rfl
 exact key xs.length 0 bigN [] (by omega) (BL hl) (by simp)
def Bw(d:X8):Q:=decide (0≤d.From)&&(decide (d.From<d.To)&&(decide (d.To≤2880)&&((decide (0≤d.A)&&decide (d.A<8))&&(decide (0≤d.B)&&decide (d.B<8)))))
theorem WS(d:X8):IB d=G (Bw d):=by
 unfold IB Bw;have e7:∀x:P,decide (x≤7)=decide (x<8):=fun x=>decide_eq_decide.2 (by omega)
 simp only[BG,X,e7];by_cases h2:d.From<d.To
 ·by_cases h3:d.To≤2880
  ·have h8:d.From≤2880:=by omega
   simp only[h2,h3,h8,decide_true,if_true,Bool.and_true,zC];cases decide (0≤d.From)<;>cases(decide (0≤d.A)&&decide (d.A<8))<;>rfl
  ·simp[h2,h3]
 ·simp[h2]
theorem A4m{l:H X8}:Nm l=G (decide (l.length≤12)&&l.all Bw):=by
 unfold Nm;by_cases h:l.length≤12
 ·rw[if_neg (by simp; omega),EH (L:=Ia l) l Bw (by rw[AN]; omega) (fun n i hi=>by simp[Ia,Ay,hi,WS]) (fun n=>by simp[Ia])];simp[h]
 ·rw[if_pos (by simp; omega)];simp[h]
theorem wz{R:Type}(a b c d e:Q)(x y:R):(if(!a)=F then y else if(!b)=F then y else if(!c)=F then y else if d=F then(if e=F then x else y) else y)=if(a&&(b&&(c&&(d&&e))))=F then x else y:=by
 cases a<;>cases b<;>cases c<;>cases d<;>cases e<;>rfl
theorem W9{l:H X8}:H4 l=G (decide (l.length≤12)&&l.all Bw):=by
 unfold H4;by_cases h:l.length≤12
 ·rw[if_neg (by simp; omega),EH (L:=H5 l) l Bw (by rw[AN]; omega) (fun n i hi=> ?_) (fun n=>by simp[H5])]
  ·simp[h]
  ·simp only[H5,Au,hi,decide_true,if_true,Ax hi,X,Ky,Bw];generalize l[i]=d
   have g1:decide (d.From<0)= !decide (0≤d.From):=by by_cases h:0≤d.From<;>simp[h]<;>omega
   have g2:decide (d.To≤d.From)= !decide (d.From<d.To):=by by_cases h:d.From<d.To<;>simp[h]<;>omega
   have g3:decide (2880<d.To)= !decide (d.To≤2880):=by by_cases h:d.To≤2880<;>simp[h]<;>omega
   simp only[g1,g2,g3];exact wz _ _ _ _ _ _ _
 ·rw[if_pos (by simp; omega)];simp[h]
def Eu(m:H P):Q:=decide (m.length=64)&&m.all fun x=>decide (0≤x)&&decide (x≤240)
def DG(p:P)(m:H P):Q:=Cq p&&Eu m
theorem gh{p:P}{m:H P}(h:m.length≤maxLen):Ge p m=G (DG p m):=by
 unfold Ge DG Eu Cq;rw[BG,X,fk h];by_cases h1:m.length=64
 ·cases(decide (0≤p)&&decide (p≤2880))<;>simp[h1]
 ·have:((m.length:P) !=64)=F:=by simpa using(by omega:¬((m.length:P)=64))
  cases(decide (0≤p)&&decide (p≤2880))<;>simp[h1,this]
theorem ed{m:H P}(h:m.length≤maxLen):FR m=G (Eu m):=by
 unfold FR Eu;rw[fj h];by_cases h1:m.length=64
 ·simp[h1]
 ·have:((m.length:P) !=64)=F:=by simpa using(by omega:¬((m.length:P)=64))
  simp[h1,this]
theorem fb(p:P):D1 p=G (Cq p):=by rw[Gm]; rfl
def CN(p:P)(m:H P)(d e:X8):Q:=decide (yQ .i64 (d.To+yQ .i64 (p+m[(8*d.B+e.A).toNat]?.getD 0))≤e.From)
theorem RA{d:X8}(h:Bw d=F):0≤d.From∧d.From<d.To∧d.To≤2880∧0≤d.A∧d.A<8∧0≤d.B∧d.B<8:=by
 simp only[Bw,Z,decide_eq_true_eq] at h;omega
theorem fi{m:H P}(hm:Eu m=F){b a:P}(h0:0≤b)(h1:b<8)(h2:0≤a)(h3:a<8):ix m (8*b+a)=G (m[(8*b+a).toNat]?.getD 0):=by
 simp only[Eu,Z,decide_eq_true_eq] at hm
 obtain⟨k,hk⟩:∃k:U,8*b+a=(k:P):=⟨(8*b+a).toNat,by omega⟩;rw[hk,Ay,zD,Y (by omega)];rfl
theorem gj{p:P}{m:H P}{d e:X8}(hl:m.length≤maxLen)(ht:DG p m=F)(hd:Bw d=F)(he:Bw e=F):K6 p m d e=G (CN p m d e):=by
 obtain⟨_,_,_,_,_,b0,b1⟩:=RA hd;obtain⟨_,_,_,a0,a1,_,_⟩:=RA he;have ht':=ht;simp only[DG,Z] at ht'
 unfold K6 Se;have c1:(decide (0≤d.B)&&decide (d.B≤7))=F:=by simp; omega
 have c2:(decide (0≤e.A)&&decide (e.A≤7))=F:=by simp; omega
 rw[gh hl,ht,X,if_pos rfl,BG,c1,X,if_pos rfl,BG,c2,X];unfold K9;rw[if_neg (by simp),Int.mul_comm d.B 8,AF (n:=8*d.B) (by omega) (by omega),AF (n:=8*d.B+e.A) (by omega) (by omega),fi ht'.2 b0 b1 a0 a1,X,X,if_pos rfl,WS,hd,X,if_pos rfl,WS,he,X,if_pos rfl];rfl
theorem eZ{p:P}{m:H P}{d e:X8}(hl:m.length≤maxLen)(ht:DG p m=F)(hd:Bw d=F)(he:Bw e=F):Jz p m d e=G (CN p m d e):=by
 obtain⟨_,_,_,_,_,b0,b1⟩:=RA hd;obtain⟨_,_,_,a0,a1,_,_⟩:=RA he;have ht':=ht;simp only[DG,Z] at ht'
 unfold Jz RD;have c1:(decide (0≤d.B)&&decide (d.B<8))=F:=by simp; omega
 have c2:(decide (0≤e.A)&&decide (e.A<8))=F:=by simp; omega
 have o1:(decide ([d].length≤12)&& [d].all Bw)=F:=by simp[hd]
 have o2:(decide ([e].length≤12)&& [e].all Bw)=F:=by simp[he]
 rw[fb,ht'.1,X,if_pos rfl,ed hl,ht'.2,X,if_pos rfl,Ky,c1,X,if_pos rfl,Ky,c2,X];unfold H7;rw[if_neg (by simp),AF (n:=8*d.B) (by omega) (by omega),AF (n:=8*d.B+e.A) (by omega) (by omega),fi ht'.2 b0 b1 a0 a1,X,X,if_pos rfl,W9,o1,X,if_pos rfl,W9,o2,X,if_pos rfl];rfl
def Bj(p:P)(m:H P)(l:H X8)(i k:U):Q:=match l[i]?,l[k]? with
 | some d,G e=>CN p m d e || CN p m e d
 | _,_=>E
theorem YH(p:P)(m:H P)(l:H X8)(i k:U):Bj p m l i k=Bj p m l k i:=by
 unfold Bj;cases l[i]?<;>cases l[k]?<;>simp[Bool.or_comm]
theorem EJ{n m b:U}(h:n+m≤1000000)(hb:b≤100):AP n m b=F:=by
 unfold AP;have:(n+m)*b≤1000000*100:=yB h hb;simp;omega
def nn(ms:H U):H P:=ms.map fun x:U=>(x:P)
theorem Cc(ms:H U):(nn ms).length=ms.length:=by simp[nn]
theorem Dk{ms:H U}{i:U}(h:i<ms.length):ix (nn ms) (i:P)=G ((ms[i]:U):P):=by
 rw[Ay,nn,yD,Y h]; rfl
theorem IR(ms:H U)(i a:U):(nn ms).set i (a:P)=nn (ms.set i a):=by simp[nn,List.map_set]
theorem fo(ms:H U)(a:U):nn ms++ [(a:P)]=nn (ms++ [a]):=by simp[nn]
section
variable {p : P} {m : H P} {l : H X8}
theorem YG{i k:U}(hi:i<l.length)(hk:k<l.length):Bj p m l i k=(CN p m l[i] l[k] || CN p m l[k] l[i]):=by
 unfold Bj;rw[Y hi,Y hk]
def Ch(p:P)(m:H P)(l:H X8):H (H Q):=l.map fun d=>l.map fun e=>CN p m d e || CN p m e d
theorem A3p{i k:U}(hi:i<l.length)(hk:k<l.length):∃x,ix (Ch p m l) (i:P)=G x∧ix x (k:P)=G (Bj p m l i k):=by
 refine⟨l.map fun e=>CN p m l[i] e || CN p m e l[i],?_,?_⟩
 ·rw[Ay,Ch,yD,Y hi]; rfl
 ·rw[Ay,yD,Y hk,YG hi hk]; rfl
theorem A4l(hl:m.length≤maxLen)(ht:DG p m=F)(hd:∀d∈l,Bw d=F)(hN:l.length≤12):NR p m l=G (Ch p m l):=by
 have hm:l.length≤maxLen:=by rw[AN]; omega
 unfold NR;refine OB (L:=Fc p m l) l (fun d=>l.map fun e=>CN p m d e || CN p m e d) G hm (fun n i acc h ha=> ?_) (fun n acc ha=>by simp[Fc]);rw[Fc,Au,if_pos (by simpa using h),Ax h,X];rw[OB (L:=Gc p m l (i:P) l[i] acc (Fc p m l n)) l (fun e=>CN p m l[i] e || CN p m e l[i]) (fun row=>Fc p m l n (yQ .i64 ((i:P)+1)) (acc++ [row])) hm (fun n2 k acc2 hk ha2=> ?_) (fun n2 acc2 ha2=> ?_)]
 ·rw[Gc,Au,if_pos (by simpa using hk),Ax hk,X,gj hl ht (hd _ (I h)) (hd _ (I hk)),X,gj hl ht (hd _ (I hk)) (hd _ (I h))];have a1:∀b:Q,AP acc2.length [b].length 1=F:=fun b=>EJ (by simp; omega) (by omega)
  cases CN p m l[i] l[k] with
  | true=>rw[if_pos rfl,if_pos (a1 F)]; rfl
  | false=>rw[if_neg (by simp),X,if_pos (a1 _)]; rfl
 ·rw[Gc,if_neg (by simp),if_pos (EJ (by simp; omega) (by omega))]
def GJ(p:P)(m:H P)(l:H X8)(i j:U):Q:=decide (j<l.length)&&(decide (i≠j)&&Bj p m l i j)
theorem A2i(hl:m.length≤maxLen)(ht:DG p m=F)(hd:∀d∈l,Bw d=F)(hN:l.length≤12)(K:P→H P→O (H P)){i:U}(hi:i<l.length)(ms:H U)(hms:ms.length=l.length) :
  ∀(r k n a:U),k+r=l.length→r<n→(∀j,a.testBit j=(decide (j<k)&&(decide (i≠j)&&Bj p m l i j)))→
   ∃q,(∀j,q.testBit j=GJ p m l i j)∧DP p m l (i:P) l[i] K n (k:P) (nn (ms.set i a))=K (yQ .i64 ((i:P)+1)) (nn (ms.set i q)):=by
 have hm:l.length≤maxLen:=by rw[AN]; omega
 intro r
 induction r with
 | zero=>
  intro k n a hk hn ha;obtain⟨n,rfl⟩:∃n',n=n'+1:=⟨n - 1,by omega⟩;refine⟨a,fun j=> ?_,?_⟩
  ·rw[ha,show k=l.length by omega]; rfl
  ·rw[DP,if_neg (by simp; omega)]
 | succ r ih=>
  intro k n a hk hn ha;obtain⟨n,rfl⟩:∃n',n=n'+1:=⟨n - 1,by omega⟩;have hlt:k<l.length:=by omega
  have a12:a<2 ^ 12:=Oj fun j hj=>by
   rw[ha,Z,decide_eq_true_eq] at hj; omega
  have step:∀v:Q,v=(decide (i≠k)&&Bj p m l i k)→∃q,(∀j,q.testBit j=GJ p m l i j)∧Hw p m l (i:P) (k:P) l[i] (nn (ms.set i a)) (DP p m l (i:P) l[i] K n) v=K (yQ .i64 ((i:P)+1)) (nn (ms.set i q)):=by
   intro v hv;unfold Hw;cases v with
   | true=>
    rw[if_pos rfl,Dk (by simp; omega),X,if_neg (by simp),WO (by omega),yF];have h12:2 ^ k<2 ^ 64:=zW (by omega) (by omega);rw[WB (zK a12 (by decide)) h12,zD,IR,List.set_set,AT hlt hm];refine ih (k+1) n _ (by omega) (by omega) fun j=> ?_
    rw[zR,ha,J1];by_cases hjk:k=j
    ·subst hjk;have hx:¬i=k∧Bj p m l i k=F:=by simpa using hv.symm
     simp[hx.1,hx.2]
    ·have e:decide (j<k+1)=decide (j<k):=decide_eq_decide.2 (by omega);rw[e];simp[hjk]
   | false=>
    rw[if_neg (by simp),AT hlt hm];refine ih (k+1) n a (by omega) (by omega) fun j=> ?_
    rw[ha];by_cases hjk:k=j
    ·subst hjk;rw[← hv];simp
    ·have e:decide (j<k+1)=decide (j<k):=decide_eq_decide.2 (by omega);rw[e]
  rw[DP,Au,if_pos (by simpa using hlt),Ax hlt,X];by_cases hik:i=k
  ·subst hik;rw[if_neg (by simp)];exact step E (by simp)
  ·have hne:((i:P) !=(k:P))=F:=by simp; omega
   rw[if_pos hne,eZ hl ht (hd _ (I hi)) (hd _ (I hlt)),X];have hb:=YG (p:=p) (m:=m) hi hlt;cases hf:CN p m l[i] l[k] with
   | true=>
    rw[if_pos rfl];exact step F (by rw[hb,hf]; simp[hik])
   | false=>
    rw[if_neg (by simp),eZ hl ht (hd _ (I hlt)) (hd _ (I hi)),X];exact step _ (by rw[hb,hf]; simp[hik])
theorem xM(hl:m.length≤maxLen)(ht:DG p m=F)(hd:∀d∈l,Bw d=F)(hN:l.length≤12):∃ms:H U,ms.length=l.length∧(∀i j:U,i<l.length→(ms[i]?.getD 0).testBit j=GJ p m l i j)∧Mq p m l=G (nn ms):=by
 have hm:l.length≤maxLen:=by rw[AN]; omega
 have key:∀(r i n:U) (ms:H U),i+r=l.length→r<n→ms.length=l.length→(∀i' j:U,i'<i→(ms[i']?.getD 0).testBit j=GJ p m l i' j)→(∀i':U,i≤i'→ms[i']?.getD 0=0)→
   ∃ms':H U,ms'.length=l.length∧(∀i j:U,i<l.length→(ms'[i]?.getD 0).testBit j=GJ p m l i j)∧EX p m l n (i:P) (nn ms)=G (nn ms'):=by
  intro r
  induction r with
  | zero=>
   intro i n ms hi hn hms h1 h2;obtain⟨n,rfl⟩:∃n',n=n'+1:=⟨n - 1,by omega⟩;exact⟨ms,hms,fun i' j h=>h1 i' j (by omega),by rw[EX,if_neg (by simp; omega)]⟩
  | succ r ih=>
   intro i n ms hi hn hms h1 h2;obtain⟨n,rfl⟩:∃n',n=n'+1:=⟨n - 1,by omega⟩;have hlt:i<l.length:=by omega
   obtain⟨q,hq,e⟩:=A2i hl ht hd hN (EX p m l n) hlt ms hms l.length 0 bigN 0 (by omega) (BL hm) (fun j=>by simp)
   have e0:ms.set i 0=ms:=by
    have h3:=h2 i (yE _);rw[Y (by omega)] at h3
    have h3:ms[i]'(by omega)=0:=h3;apply List.ext_getElem (by simp)
    intro j hj1 hj2;by_cases hij:i=j
    ·subst hij; simp[h3]
    ·rw[List.getElem_set_ne hij]
   rw[e0] at e
   rw[EX,Au,if_pos (by simpa using hlt),Ax hlt,X];have e:DP p m l (i:P) l[i] (EX p m l n) bigN 0 (nn ms)=_:=e;rw[e,AT hlt hm];refine ih (i+1) n (ms.set i q) (by omega) (by omega) (by simpa using hms) (fun i' j h=> ?_) (fun i' h=> ?_)
   ·by_cases hii:i=i'
    ·subst hii;rw[zN (by omega)];exact hq j
    ·rw[zL hii];exact h1 i' j (by omega)
   ·rw[zL (by omega)];exact h2 i' (by omega)
 unfold Mq;rw[DA (by omega) (by omega),X];have hz:zA l.length (0:P)=nn (zA l.length 0):=by simp[nn]
 rw[hz]
 exact key l.length 0 bigN _ (by omega) (BL hm) (by simp) (fun i' j h=>by omega) (fun i' h=>by
  rw[List.getElem?_replicate];split<;>rfl)
end
section
variable {B : U → U → Q} {N : U} {ms : H U}
def oF(B:U→U→Q)(N:U)(ms:H U):Prop:=ms.length=N∧∀i j:U,i<N→(ms[i]?.getD 0).testBit j=(decide (j<N)&&(decide (i≠j)&&B i j))
theorem qF:EF B 0:=fun i j hi=>by simp at hi
theorem qE(hB:∀i j,B i j=B j i){s t:U}(h1:2 ^ t≤s)(h2:s<2 ^ (t+1)):EF B s↔EF B (AX s (2 ^ t))∧∀i,(AX s (2 ^ t)).testBit i=F→B t i=F:=by
 obtain⟨a1,a2,a3,a4⟩:=Xt h1 h2;constructor
 ·intro h;exact⟨fun i j hi hj=>h i j (a3 i hi) (a3 j hj),fun i hi=>h t i a1 (a3 i hi) (by have:=GC a2 hi; omega)⟩
 ·rintro⟨k1,k2⟩ i j hi hj hne
  rcases a4 i hi with rfl|hi
  ·rcases a4 j hj with rfl|hj
   ·exact absurd rfl hne
   ·exact k2 j hj
  ·rcases a4 j hj with rfl|hj
   ·rw[hB]; exact k2 i hi
   ·exact k1 i j hi hj hne
theorem TB{a b:U}:AX a b=0↔∀i,a.testBit i=F→b.testBit i=F:=by
 constructor
 ·intro h i hi;have:=EA a b i;rw[h,hi] at this
  cases hb:b.testBit i with
  | true=>rfl
  | false=>rw[hb] at this; simp at this
 ·intro h;apply zU
  intro i;rw[EA,Nat.zero_testBit];cases hi:a.testBit i with
  | false=>rfl
  | true=>rw[h i hi]; rfl
theorem Yr(a b:U):AX a b≤a:=by
 rcases zI a (AX a b) with h|h
 ·obtain⟨i,h1,h2⟩:=Nat.exists_testBit_ne_of_ne (Nat.ne_of_lt h) |>.elim fun i hi=>(⟨i,hi,⟨⟩⟩:∃i,a.testBit i≠(AX a b).testBit i∧True)
  exfalso
  have:AX a b &&& a=AX a b:=Wx fun i hi=>by
   rw[EA,Z] at hi
   exact hi.1
  have h3:= @Nat.and_le_right (AX a b) a;omega
 ·exact h
def Ts(B:U→U→Q)(tg:H Q)(s:U):Prop:=∀x,x<s→(tg[x]?.getD E=F↔EF B x)
def Yk(B:U→U→Q)(ls:H U)(s:U):Prop:=∀x,x<s→Ck B x (ls[x]?.getD 0)
theorem fK(hN:N≤12){x n:U}(hx:x<2 ^ N)(h:Ck B x n):n≤12:=Nat.le_trans (h.2 N (Rx hx)) hN
theorem SG{tg:H Q}{x:U}(h:x<tg.length):ix tg (x:P)=G (tg[x]?.getD E):=by
 rw[Ay,Y h]; rfl
theorem SE{ls:H U}{x:U}(h:x<ls.length):ix (nn ls) (x:P)=G (((ls[x]?.getD 0:U)):P):=by
 rw[Dk h,Y h]; rfl
theorem gG(hN:N≤12):2 ^ N≤4096:=by
 have:=zT (show 0<2 by omega) hN;simpa using this
theorem zv(hN:N≤12)(y5:P){s t:U}(hs:s<2 ^ N)(h1:2 ^ t≤s)(h2:s<2 ^ (t+1)){tg:H Q}{ls:H U}(htl:tg.length=2 ^ N)(hll:ls.length=2 ^ N)(ht:Ts B tg (s+1))(hl:Yk B ls s)(K:P→H Q→H P→O P) :
  ∀(n q c:U),q<n→q &&& AX s (2 ^ t)=q→E0 B s c→c≤100→(∀q',q' &&& AX s (2 ^ t)=q'→q<q'→EF B (q' ||| 2 ^ t)→c≤1+ls[AX (AX s (2 ^ t)) q']?.getD 0)→
   ∃c',Ck B s c'∧FQ (nn ms) y5 (s:P) (t:P) ((AX s (2 ^ t):U):P) tg K n (q:P) (nn (ls.set s c))=K (yQ .i64 ((s:P)+1)) tg (nn (ls.set s c')):=by
 obtain⟨a1,a2,a3,a4⟩:=Xt h1 h2;have hp:=gG hN;have h2s:AX s (2 ^ t)<s:=zZ a2 h1;generalize hr:AX s (2 ^ t)=r at a2 a3 a4 h2s
 intro n
 induction n with
 | zero=>intro q c hq; omega
 | succ n ih=>
  intro q c hq hsub hc hc1 hall
  have ht12:t<12:=by
   rcases zI t 12 with h|h
   ·exact h
   ·have:=zT (show 0<2 by omega) h;simp at this
    omega
  have hqr:q≤r:=by have:= @Nat.and_le_right q r; omega
  have hor:q ||| 2 ^ t≤s:=by
   have hsb:(q ||| 2 ^ t) &&& s=q ||| 2 ^ t:=Wx fun i hi=>by
    rw[zR,J1,yN,decide_eq_true_eq] at hi
    rcases hi with h|h
    ·exact a3 i (A5m hsub h)
    ·subst h; exact a1
   have:= @Nat.and_le_right (q ||| 2 ^ t) s;omega
  have hsml:∀x:U,x≤s→x<2 ^ 63:=fun x hx=>yJ hx (zZ hs (Nat.le_trans hp (by decide)))
  have hand:AX r q<s:=yJ (Yr r q) h2s;have hset:s<(ls.set s c).length:=by simp; omega
  have hnext:∀c1:U,E0 B s c1→c1≤100→(∀q',q' &&& r=q'→q≤q'→EF B (q' ||| 2 ^ t)→c1≤1+ls[AX r q']?.getD 0)→
    ∃c',Ck B s c'∧JM (nn ms) y5 (s:P) (t:P) (r:P) (q:P) tg K (FQ (nn ms) y5 (s:P) (t:P) (r:P) tg K n) (nn (ls.set s c1))=K (yQ .i64 ((s:P)+1)) tg (nn (ls.set s c')):=by
   intro c1 g1 g2 g3;unfold JM;by_cases h0:q=0
   ·subst h0;refine⟨c1,⟨g1,fun m hm=> ?_⟩,by rw[if_pos (by simp)]⟩;obtain⟨q',n',e1,e2,e3,e4⟩:=qP a1 a3 hm;have:=(hl (AX r q') (yJ (Yr r q') h2s)).2 n' e4;have:=g3 q' e1 (yO _) e2;omega
   ·rw[if_neg (by simpa using h0)]
    have ew:yQ .i64 ((q:P) - 1)=((q - 1:U):P):=by
     rw[show(q:P) - 1=((q - 1:U):P) by omega];exact DU (hsml _ (by omega))
    rw[ew,oP (hsml _ (by omega)) (hsml _ (by omega))];have hlt:= @oQ q r (by omega);refine ih ((q - 1) &&& r) c1 (by omega) (oR _ _) g1 g2 fun q' e1 e2 e3=> ?_
    refine g3 q' e1 ?_ e3;rcases zI q' q with h|h
    ·have:=A1n r r q q' (yE _) hsub e1 h;omega
    ·exact h
  rw[FQ,if_neg (by simp),T4 (by omega),A19 (hsml _ (by omega)) (hsml _ (by omega)),SG (by omega),X];have hk:=ht (q ||| 2 ^ t) (by omega);cases hb:tg[q ||| 2 ^ t]?.getD E with
  | false=>
   rw[if_neg (by simp)];refine hnext c hc hc1 fun q' e1 e2 e3=> ?_
   rcases zI q q' with h|h
   ·exact hall q' e1 h e3
   ·have:q'=q:=by omega
    subst this;rw[hb] at hk
    exact absurd (hk.2 e3) (by simp)
  | true=>
   rw[if_pos rfl];have hcq:=hk.1 hb
   have e26:ix (nn (ls.set s c)) (s:P)=G (c:P):=by
    rw[Dk hset,yF]
   have e27:ix (nn (ls.set s c)) (Br .andNot .i64 (r:P) (q:P))=G ((ls[AX r q]?.getD 0:U):P):=by
    rw[Yq (hsml _ (by omega)) (hsml _ (by omega)),SE (by simp; omega),zL (by omega)]
   rw[e26,X,e27,X];have hle:=hl (AX r q) hand;have h12:=fK hN (zK hand hs) hle;generalize hv:ls[AX r q]?.getD 0=v at hle h12
   have ew:yQ .i64 ((1:P)+(v:P))=((1+v:U):P):=by
    rw[show(1:P)+(v:P)=((1+v:U):P) by omega];exact DU (by omega)
   have emin:(if yQ .i64 ((1:P)+(v:P))<(c:P) then yQ .i64 ((1:P)+(v:P)) else(c:P))=((if 1+v<c then 1+v else c:U):P):=by
    rw[ew];by_cases h:1+v<c
    ·rw[if_pos (by omega),if_pos h]
    ·rw[if_neg (by omega),if_neg h]
   rw[emin,zD,IR,List.set_set];refine hnext _ ?_ (by split<;>omega) fun q' e1 e2 e3=> ?_
   ·split
    ·exact qO a4 hcq hle.1
    ·exact hc
   ·rcases zI q q' with h|h
    ·have:=hall q' e1 h e3;split<;>omega
    ·have:q'=q:=by omega
     subst this;rw[hv];split<;>omega
theorem zu(hB:∀i j,B i j=B j i)(hN:N≤12)(hm:oF B N ms):∃n:U,Ck B (2 ^ N - 1) n∧n≤12∧Mp (nn ms)=G (n:P):=by
 have hp:=gG hN;have hp0:0<2 ^ N:=Nat.pow_pos (by omega);obtain⟨hml,hmb⟩:=hm
 have key:∀(k s n:U) (tg:H Q) (ls:H U),s+k=2 ^ N→k<n→1≤s→tg.length=2 ^ N→ls.length=2 ^ N→Ts B tg s→Yk B ls s→
   ∃v:U,Ck B (2 ^ N - 1) v∧v≤12∧Ed (nn ms) ((2 ^ N:U):P) n (s:P) tg (nn ls)=G (v:P):=by
  intro k
  induction k with
  | zero=>
   intro s n tg ls hs hn hs1 htl hll ht hl;obtain⟨n,rfl⟩:∃n',n=n'+1:=⟨n - 1,by omega⟩;have:=hl (2 ^ N - 1) (by omega);refine⟨_,this,fK hN (by omega) this,?_⟩
   have ew:yQ .i64 (((2 ^ N:U):P) - 1)=((2 ^ N - 1:U):P):=by
    rw[show((2 ^ N:U):P) - 1=((2 ^ N - 1:U):P) by omega];exact DU (by omega)
   rw[Ed,if_neg (by simp only[Au,decide_eq_true_eq]; omega),ew,SE (by omega),X]
  | succ k ih=>
   intro s n tg ls hs hn hs1 htl hll ht hl;obtain⟨n,rfl⟩:∃n',n=n'+1:=⟨n - 1,by omega⟩;obtain⟨t,e1,h1,h2,ht12⟩:=A0c hs1 (show s<4096 by omega);obtain⟨a1,a2,a3,a4⟩:=Xt h1 h2;have htN:t<N:=GC (show s<2 ^ N by omega) a1;have h2s:AX s (2 ^ t)<s:=zZ a2 h1
   have hsml:∀x:U,x≤s→x<2 ^ 63:=fun x hx=>by
    have:(4096:U)<2 ^ 63:=by decide
    omega
   have ew:yQ .i64 (((t+1:U):P) - 1)=(t:P):=by
    rw[show((t+1:U):P) - 1=(t:P) by omega];exact DU (by omega)
   have er:Br .andNot .i64 (s:P) (Bz .i64 (1:P) (t:P))=((AX s (2 ^ t):U):P):=by
    rw[T4 (by omega),Yq (hsml _ (yE _)) (hsml _ h1)]
   have hu:IntKind.u64.wrap (s:P)=(s:P):=KJ (by omega);have hct:=qE hB h1 h2
   have rest:∀b:Q,(b=F↔EF B s)→∃v:U,Ck B (2 ^ N - 1) v∧v≤12∧
     JL (nn ms) ((2 ^ N:U):P) (s:P) (nn ls) (Ed (nn ms) ((2 ^ N:U):P) n) (t:P) ((AX s (2 ^ t):U):P) (tg.set s b)=G (v:P):=by
    intro b hb
    have ht':Ts B (tg.set s b) (s+1):=fun x hx=>by
     by_cases h:s=x
     ·subst h;rw[zN (by omega)];exact hb
     ·rw[zL h];exact ht x (by omega)
    unfold JL;rw[SE (by omega),X,Cc,hml,zD,IR]
    obtain⟨c',k1,k2⟩:=zv (ms:=ms) hN ((2 ^ N:U):P) (show s<2 ^ N by omega) h1 h2 (tg:=tg.set s b) (ls:=ls) (by simpa using htl) hll ht' hl (Ed (nn ms) ((2 ^ N:U):P) n) bigN (AX s (2 ^ t)) N (by rw[D0]; omega) (Nat.and_self _) (Rx (by omega)) (by omega) (fun q' g1 g2=>by
     have:= @Nat.and_le_right q' (AX s (2 ^ t));omega)
    rw[k2,AT (show s<4096 by omega) (by rw[AN]; omega)];refine ih (s+1) n (tg.set s b) (ls.set s c') (by omega) (by omega) (by omega) (by simpa using htl) (by simpa using hll) ht' fun x hx=> ?_
    by_cases h:s=x
    ·subst h;rw[zN (by omega)];exact k1
    ·rw[zL h];exact hl x (by omega)
   rw[Ed,Au,if_pos (by simp; omega),hu,e1,X,ew,if_neg (by simp),er,SG (by omega),X,zD];have hk:=ht (AX s (2 ^ t)) h2s;cases hb:tg[AX s (2 ^ t)]?.getD E with
   | true=>
    rw[if_pos rfl,SE (by omega),X,SG (by omega),X]
    have hmt:ms[t]?.getD 0<2 ^ 12:=Oj fun j hj=>by
     rw[hmb t j htN,Z,decide_eq_true_eq] at hj
     omega
    rw[KJ (n:=AX s (2 ^ t)) (by omega),L6 (by omega) (zK hmt (by decide)),pR];refine rest _ ?_;rw[decide_eq_true_eq,TB,hct];constructor
    ·intro h;refine⟨hk.1 hb,fun i hi=> ?_⟩;have:=h i hi;rw[hmb t i htN] at this
     simp at this
     exact this.2.2
    ·rintro⟨_,h⟩ i hi
     have hit:=GC a2 hi;rw[hmb t i htN,h i hi];simp;omega
   | false=>
    rw[if_neg (by simp),SG (by omega),X];refine rest E ?_;rw[hct];constructor
    ·intro h; cases h
    ·rintro⟨h,_⟩
     have:=hk.2 h;rw[hb] at this
     cases this
 unfold Mp
 have hm1:∀b:U,b≤1000→BH (Bz .i64 (1:P) ((N:U):P)) (Bz .i64 (1:P) ((N:U):P)) b=G (2 ^ N):=fun b hb=>by
  rw[T4 (by omega)]; exact DA (by omega) hb
 rw[Cc,hml,if_neg (by simp),hm1 1 (by omega),X,hm1 8 (by omega),X,T4 (by omega)]
 have e0:ix (zA (2 ^ N) E) (0:P)=G E:=by
  have:=Ax (l:=zA (2 ^ N) E) (i:=0) (by simpa using hp0);simpa using this
 have hz:zA (2 ^ N) (0:P)=nn (zA (2 ^ N) 0):=by simp[nn]
 rw[e0,X,hz]
 obtain⟨v,k1,k2,k3⟩:=key (2 ^ N - 1) 1 bigN ((zA (2 ^ N) E).set 0 F) (zA (2 ^ N) 0) (by omega) (by rw[D0]; omega) (by omega) (by simp) (by simp)
  (fun x hx=>by
   have:x=0:=by omega
   subst this;rw[zN (by simpa using hp0)];exact⟨fun _=>qF,fun _=>rfl⟩)
  (fun x hx=>by
   have:x=0:=by omega
   subst this;rw[List.getElem?_replicate,if_pos hp0];exact Wn)
 exact⟨v,k1,k2,k3⟩
end
theorem oT{g i:U}(h:g<2 ^ i):AX (g ||| 2 ^ i) (2 ^ i)=g:=by
 apply zU
 intro j;rw[EA,zR,J1];by_cases hj:i=j
 ·subst hj;rw[Nat.testBit_lt_two_pow h];simp
 ·simp[hj]
theorem A4d{α:Type}{l:H α}{i:U}{x:α}(h:l[i]?=G x):l.set i x=l:=by
 apply List.ext_getElem?
 intro j;by_cases hij:i=j
 ·subst hij;rw[zN (List.getElem?_eq_some_iff.1 h).1,h]
 ·rw[zL hij]
theorem qQ:∀(d fuel:U) (sm gs:H U) (most:P) (who:H P),who.length+d=sm.length→d<fuel→(∀x∈sm,x<2 ^ 12)→sm.length≤12→(∀g∈gs,0<g∧g<2 ^ who.length)→gs.length≤who.length→
  ∃b r,DO fuel ⟨nn sm,most,nn gs,who⟩=G (b,r)∧r.most=most∧(b=E→r=⟨nn sm,most,nn gs,who⟩):=by
 intro d
 induction d with
 | zero=>
  intro fuel sm gs most who hd hf h1 h2 h3 h4;obtain⟨fuel,rfl⟩:∃n',fuel=n'+1:=⟨fuel - 1,by omega⟩;refine⟨F,⟨nn sm,most,nn gs,who⟩,?_,rfl,fun h=>by cases h⟩;rw[DO,Mn,if_pos (by simp[Cc]; omega)]
 | succ d ih=>
  intro fuel sm gs most who hd hf h1 h2 h3 h4;obtain⟨fuel,rfl⟩:∃n',fuel=n'+1:=⟨fuel - 1,by omega⟩;rw[DO,Mn,if_neg (by simp[Cc]; omega)];have hi12:who.length≤11:=by omega
  have hpw:2 ^ who.length<2 ^ 64:=zW (by omega) (by omega);have hp0:0<2 ^ who.length:=Nat.pow_pos (by omega);have hpd:2 ^ (who.length+1)=2 ^ who.length+2 ^ who.length:=by rw[Nat.pow_succ]; omega
  have hsi:who.length<sm.length:=by omega
  have hsm:sm[who.length]<2 ^ 64:=zK (h1 _ (I hsi)) (by decide)
  have key:∀(k p n:U),p+k=gs.length+1→k<n→∃b r,EW (DO fuel) ⟨nn sm,most,nn gs,who⟩ n (p:P) (nn sm) most (nn gs) who=G (b,r)∧r.most=most∧(b=E→r=⟨nn sm,most,nn gs,who⟩):=by
   intro k
   induction k with
   | zero=>
    intro p n hp hn;obtain⟨n,rfl⟩:∃n',n=n'+1:=⟨n - 1,by omega⟩;refine⟨E,_,?_,rfl,fun _=>rfl⟩;rw[EW,if_neg (by simp[Cc]; omega)]
   | succ k ihk=>
    intro p n hp hn;obtain⟨n,rfl⟩:∃n',n=n'+1:=⟨n - 1,by omega⟩;have hpl:p≤gs.length:=by omega
    rw[EW,if_pos (by simp[Cc]; omega)];cases hmost:decide ((p:P)<most) with
    | false=>exact⟨E,_,by rw[if_neg (by simp)],rfl,fun _=>rfl⟩
    | true=>
     rw[if_pos rfl];by_cases hpe:p=gs.length
     ·
      rw[if_pos (by simp[Cc]; omega),if_pos (EJ (by simp[Cc]; omega) (by omega))];have e0:nn gs++ [(0:P)]=nn (gs++ [0]):=fo gs 0;rw[e0];unfold JI;dsimp only
      have hpg:p<(gs++ [0]).length:=by simp; omega
      have hg0:(gs++ [0])[p]=0:=by simp[hpe]
      rw[Dk hpg,X,hg0,Dk hsi,X,L6 (by decide) hsm];have ez:AX 0 sm[who.length]=0:=TB.2 fun i hi=>by simp at hi
      rw[ez,if_pos (by simp),if_neg (by simp),if_pos (EJ (by simp; omega) (by omega)),WO (by omega),WB (by decide) hpw,Nat.zero_or,zD,IR]
      have es:(gs++ [0]).set p (2 ^ who.length)=gs++ [2 ^ who.length]:=by
       rw[List.set_append_right _ _ (by omega)];simp[hpe]
      rw[es]
      obtain⟨b,r,k1,k2,k3⟩:=ih fuel sm (gs++ [2 ^ who.length]) most (who++ [(p:P)]) (by simp; omega) (by omega) h1 h2 (fun g hg=>by
       rw[zO,zS,hpd];rcases List.mem_append.1 hg with hg|hg
       ·have:=h3 g hg; omega
       ·rw[List.mem_singleton] at hg; omega) (by simp; omega)
      rw[k1,X];cases b with
      | true=>exact⟨F,r,by rw[if_pos rfl],k2,fun h=>by cases h⟩
      | false=>
       have:=k3 rfl;subst this;rw[if_neg (by simp)];have hw:((who++ [(p:P)]).length:P)=((who.length+1:U):P):=by simp
       simp only[zO,zS];rw[show bnd ((who.length+1:U):P) (who.length:P) 0 (who.length+1)=G (0,who.length) from EL (by omega),X];have hpg2:p<(gs++ [2 ^ who.length]).length:=by simp; omega
       have hg2:(gs++ [2 ^ who.length])[p]=2 ^ who.length:=by simp[hpe]
       rw[Dk hpg2,X,hg2,if_neg (by simp),L6 hpw hpw,IR];have ez2:AX (2 ^ who.length) (2 ^ who.length)=0:=TB.2 fun i hi=>hi
       have es2:(gs++ [2 ^ who.length]).set p 0=gs++ [0]:=by
        rw[List.set_append_right _ _ (by omega)];simp[hpe]
       have et:(who++ [(p:P)]).take who.length=who:=by simp
       rw[ez2,es2,et];unfold Ht;rw[Dk hpg,X,hg0,if_pos (by simp),Cc];have hl1:(gs++ [0]).length=gs.length+1:=by simp
       rw[hl1,show bnd ((gs.length+1:U):P) (p:P) 0 (gs.length+1)=G (0,p) from EL (by omega),X];have et2:(nn (gs++ [0])).take p=nn gs:=by rw[hpe]; simp[nn]
       show ∃b r,G (E,(⟨nn sm,most,(nn (gs++ [0])).take p,who⟩:Xf))=G (b,r)∧_
       rw[et2];exact⟨E,_,rfl,rfl,fun _=>rfl⟩
     ·
      rw[if_neg (by simp[Cc]; omega)];have hpg:p<gs.length:=by omega
      have hgm:=h3 _ (I hpg)
      have hnext:∃b r,Ht (DO fuel) ⟨nn sm,most,nn gs,who⟩ (p:P) (EW (DO fuel) ⟨nn sm,most,nn gs,who⟩ n) (nn sm) most (nn gs) who=G (b,r)∧r.most=most∧(b=E→r=⟨nn sm,most,nn gs,who⟩):=by
       unfold Ht;rw[Dk hpg,X,if_neg (by simp; omega),AT hpg (by rw[AN]; omega)];exact ihk (p+1) n (by omega) (by omega)
      unfold JI;dsimp only
      rw[Dk hpg,X,Dk hsi,X,L6 (by omega) hsm];cases hfit:(((AX gs[p] sm[who.length]:U):P)==0) with
      | false=>rw[if_neg (by simp)]; exact hnext
      | true=>
       rw[if_pos rfl,if_neg (by simp),if_pos (EJ (by simp; omega) (by omega)),WO (by omega),WB (by omega) hpw,zD,IR];have hor:gs[p] ||| 2 ^ who.length<2 ^ (who.length+1):=yC (by omega) (by omega)
       have hop:0<gs[p] ||| 2 ^ who.length:=by
        have:= @Nat.left_le_or gs[p] (2 ^ who.length);omega
       have hor64:gs[p] ||| 2 ^ who.length<2 ^ 64:=yC (by omega) hpw
       obtain⟨b,r,k1,k2,k3⟩:=ih fuel sm (gs.set p (gs[p] ||| 2 ^ who.length)) most (who++ [(p:P)]) (by simp; omega) (by omega) h1 h2 (fun g hg=>by
        rw[zO,zS];rcases List.mem_or_eq_of_mem_set hg with hg|hg
        ·have:=h3 g hg; omega
        ·subst hg; exact⟨hop,hor⟩) (by simp; omega)
       rw[k1,X];cases b with
       | true=>exact⟨F,r,by rw[if_pos rfl],k2,fun h=>by cases h⟩
       | false=>
        have:=k3 rfl;subst this;rw[if_neg (by simp)];simp only[zO,zS];have hps:p<(gs.set p (gs[p] ||| 2 ^ who.length)).length:=by simp; omega
        rw[show bnd ((who.length+1:U):P) (who.length:P) 0 (who.length+1)=G (0,who.length) from EL (by omega),X,Dk hps,X,yF,if_neg (by simp),L6 hor64 hpw,IR,oT hgm.2,List.set_set,A4d (Y hpg)];have et:(who++ [(p:P)]).take who.length=who:=by simp
        rw[et];exact hnext
  exact key (gs.length+1) 0 bigN (by omega) (by rw[D0]; omega)
section
variable {p : P} {m : H P} {l : H X8}
def oG(B:U→U→Q)(w:H U):Prop:=∀(i k:U) (hi:i<w.length) (hk:k<i),w[i]=w[k]→B i k=F
theorem A35(rec_:(H (H Q))→(H P)→P→O ((H P) × Q))(a2 v2:P)(K:P→O ((H P) × Q))(c:U){w:H U}(hw:w.length<l.length)(hN:l.length≤12) :
  ∀(r k n:U) (v:Q),k+r=w.length→r<n→∃b:Q,(b=F↔v=F∧∀(k':U) (h:k'<w.length),k≤k'→w[k']=c→Bj p m l w.length k'=F)∧
   Dt rec_ (Ch p m l) (nn w) a2 v2 (c:P) K n v (k:P)=Dt rec_ (Ch p m l) (nn w) a2 v2 (c:P) K 1 b (w.length:P):=by
 intro r
 induction r with
 | zero=>
  intro k n v hk hn;obtain⟨n,rfl⟩:∃n',n=n'+1:=⟨n - 1,by omega⟩;have:k=w.length:=by omega
  subst this;refine⟨v,⟨fun h=>⟨h,fun k' h1 h2=>by omega⟩,fun h=>h.1⟩,?_⟩;simp only[Dt,Cc,Au,Nat.lt_irrefl,decide_false,C,if_false]
 | succ r ih=>
  intro k n v hk hn;obtain⟨n,rfl⟩:∃n',n=n'+1:=⟨n - 1,by omega⟩;have hlt:k<w.length:=by omega
  rw[Dt,if_pos (by simp[Cc]; omega),Dk hlt,X];have hwr:=AT hlt (show w.length≤maxLen by rw[AN]; omega);by_cases hc:w[k]=c
  ·obtain⟨x,x1,x2⟩:=A3p (p:=p) (m:=m) hw (show k<l.length by omega);rw[if_pos (by simp; omega),Cc,x1,X,x2,X];cases hb:Bj p m l w.length k with
   | true=>
    rw[if_pos rfl,hwr];obtain⟨b,b1,b2⟩:=ih (k+1) n v (by omega) (by omega);refine⟨b,b1.trans ⟨fun⟨g1,g2⟩=>⟨g1,fun k' h1 h2 h3=> ?_⟩,fun⟨g1,g2⟩=>⟨g1,fun k' h1 h2=>g2 k' h1 (by omega)⟩⟩,b2⟩;by_cases hkk:k=k'
    ·subst hkk; exact hb
    ·exact g2 k' h1 (by omega) h3
   | false=>
    rw[if_neg (by simp),hwr];obtain⟨b,b1,b2⟩:=ih (k+1) n E (by omega) (by omega);refine⟨b,b1.trans ⟨fun⟨g1,g2⟩=>(by cases g1),fun⟨g1,g2⟩=> ?_⟩,b2⟩;have:=g2 k hlt (yE _) hc;rw[hb] at this
    cases this
  ·rw[if_neg (by simp; omega),hwr];obtain⟨b,b1,b2⟩:=ih (k+1) n v (by omega) (by omega);refine⟨b,b1.trans ⟨fun⟨g1,g2⟩=>⟨g1,fun k' h1 h2 h3=> ?_⟩,fun⟨g1,g2⟩=>⟨g1,fun k' h1 h2=>g2 k' h1 (by omega)⟩⟩,b2⟩;by_cases hkk:k=k'
   ·subst hkk; exact absurd h3 hc
   ·exact g2 k' h1 (by omega) h3
theorem A36(rec_:(H (H Q))→(H P)→P→O ((H P) × Q))(a0:H (H Q))(a2:P){w:H U}(hw:w.length≤12)(hx:∀x∈w,x<12) :
  ∀(r k n v:U),k+r=w.length→r<n→v≤12→∃u:U,u≤12∧v≤u∧(∀x∈w.drop k,x<u)∧Gd rec_ a0 (nn w) a2 n (v:P) (k:P)=DQ rec_ a0 (nn w) a2 (u:P) bigN 0:=by
 intro r
 induction r with
 | zero=>
  intro k n v hk hn hv;obtain⟨n,rfl⟩:∃n',n=n'+1:=⟨n - 1,by omega⟩;refine⟨v,hv,yE _,fun x h=> ?_,?_⟩
  ·rw[List.drop_eq_nil_of_le (by omega)] at h; cases h
  ·rw[Gd,if_neg (by simp[Cc]; omega)]
 | succ r ih=>
  intro k n v hk hn hv;obtain⟨n,rfl⟩:∃n',n=n'+1:=⟨n - 1,by omega⟩;have hlt:k<w.length:=by omega
  have hk12:=hx _ (I hlt);rw[Gd,if_pos (by simp[Cc]; omega),Dk hlt,X,AT hlt (by rw[AN]; omega)];have ew:yQ .i64 (((w[k]:U):P)+1)=((w[k]+1:U):P):=AT (n:=12) hk12 (by rw[AN]; omega)
  have em:(if(v:P)<yQ .i64 (((w[k]:U):P)+1) then yQ .i64 (((w[k]:U):P)+1) else(v:P))=((if v<w[k]+1 then w[k]+1 else v:U):P):=by
   rw[ew];by_cases h:v<w[k]+1
   ·rw[if_pos (by omega),if_pos h]
   ·rw[if_neg (by omega),if_neg h]
  rw[em];obtain⟨u,u1,u2,u3,u4⟩:=ih (k+1) n (if v<w[k]+1 then w[k]+1 else v) (by omega) (by omega) (by split<;>omega);refine⟨u,u1,by split at u2<;>omega,fun x hx2=> ?_,u4⟩;rw[List.drop_eq_getElem_cons hlt] at hx2
  rcases List.mem_cons.1 hx2 with rfl|hx2
  ·split at u2<;>omega
  ·exact u3 x hx2
theorem gY(mm:U)(hmm:mm≤12)(hN:l.length≤12):∀(d fuel:U) (w:H U),w.length+d=l.length→d<fuel→(∀x∈w,x<mm)→oG (Bj p m l) w→
  ∃out ok,Cz fuel (Ch p m l) (nn w) (mm:P)=G (out,ok)∧(ok=F↔CY (Bj p m l) l.length mm w):=by
 have hrl:(Ch p m l).length=l.length:=by simp[Ch]
 intro d
 induction d with
 | zero=>
  intro fuel w hd hf hx hv;obtain⟨fuel,rfl⟩:∃n',fuel=n'+1:=⟨fuel - 1,by omega⟩;refine⟨nn w,F,?_,⟨fun _=>tj (by omega) hx (YH p m l) hv,fun _=>rfl⟩⟩;rw[Cz,NS,if_pos (by simp[Cc,hrl]; omega)]
 | succ d ih=>
  intro fuel w hd hf hx hv;obtain⟨fuel,rfl⟩:∃n',fuel=n'+1:=⟨fuel - 1,by omega⟩;have hw:w.length<l.length:=by omega
  rw[Cz,NS,if_neg (by simp[Cc,hrl]; omega)];obtain⟨u,u1,_,u3,u4⟩:=A36 (Cz fuel) (Ch p m l) (mm:P) (w:=w) (by omega) (fun x h=>by have:=hx x h; omega) w.length 0 bigN 0 (by omega) (by rw[D0]; omega) (by omega);have u4:Gd (Cz fuel) (Ch p m l) (nn w) (mm:P) bigN 0 0=_:=u4;rw[u4]
  have key:∀(k c n:U),c+k=u+1→k<n→(∀c',c'<c→c'<mm→J9 (Bj p m l) w c'→¬CY (Bj p m l) l.length mm (w++ [c']))→
    ∃out ok,DQ (Cz fuel) (Ch p m l) (nn w) (mm:P) (u:P) n (c:P)=G (out,ok)∧(ok=F↔CY (Bj p m l) l.length mm w):=by
   have fin:∀c:U,(u<c∨mm≤c)→(∀c',c'<c→c'<mm→J9 (Bj p m l) w c'→¬CY (Bj p m l) l.length mm (w++ [c']))→¬CY (Bj p m l) l.length mm w:=fun c hc hno h=>by
    obtain⟨c',g1,g2,g3,g4⟩:=tk hw (fun x h=>u3 x (by simpa using h)) h;exact hno c' (by omega) g2 g3 g4
   intro k
   induction k with
   | zero=>
    intro c n hc hn hno;obtain⟨n,rfl⟩:∃n',n=n'+1:=⟨n - 1,by omega⟩;refine⟨[],E,?_,⟨fun h=>(by cases h),fun h=>absurd h (fin c (by omega) hno)⟩⟩;rw[DQ,if_neg (by simp; omega)]
   | succ k ihk=>
    intro c n hc hn hno;obtain⟨n,rfl⟩:∃n',n=n'+1:=⟨n - 1,by omega⟩;rw[DQ,if_pos (by simp; omega)];by_cases hcm:c<mm
    ·rw[if_pos (by simpa using hcm)];obtain⟨b,b1,b2⟩:=A35 (p:=p) (m:=m) (Cz fuel) (mm:P) (u:P) (DQ (Cz fuel) (Ch p m l) (nn w) (mm:P) (u:P) n) c hw hN w.length 0 bigN F (by omega) (by rw[D0]; omega);have b2:Dt (Cz fuel) (Ch p m l) (nn w) (mm:P) (u:P) (c:P) (DQ (Cz fuel) (Ch p m l) (nn w) (mm:P) (u:P) n) bigN F 0=_:=b2;have hfit:b=F↔J9 (Bj p m l) w c:=b1.trans ⟨fun h k' h1 h2=>h.2 k' h1 (yO _) h2,fun h=>⟨rfl,fun k' h1 _ h2=>h k' h1 h2⟩⟩;have hwr:=AT (i:=c) (n:=12) (by omega) (by rw[AN]; omega)
     have hon:(J9 (Bj p m l) w c→¬CY (Bj p m l) l.length mm (w++ [c]))→∃out ok,Km (Cz fuel) (Ch p m l) (nn w) (mm:P) (u:P) (c:P) (DQ (Cz fuel) (Ch p m l) (nn w) (mm:P) (u:P) n)=G (out,ok)∧(ok=F↔CY (Bj p m l) l.length mm w):=fun h=>by
      unfold Km;rw[hwr];refine ihk (c+1) n (by omega) (by omega) fun c' h1 h2 h3=> ?_
      by_cases hcc:c'=c
      ·subst hcc; exact h h3
      ·exact hno c' (by omega) h2 h3
     rw[b2,Dt,if_neg (by simp[Cc])];cases b with
     | false=>
      rw[if_neg (by simp)];exact hon fun h=>absurd (hfit.2 h) (by simp)
     | true=>
      have hf2:=hfit.1 rfl;rw[if_pos rfl,if_pos (EJ (by simp[Cc]; omega) (by omega)),if_pos (EJ (by simp[Cc]; omega) (by omega)),fo]
      obtain⟨out,ok,o1,o2⟩:=ih fuel (w++ [c]) (by simp; omega) (by omega) (fun x h=>by
       rcases List.mem_append.1 h with h|h
       ·exact hx x h
       ·rw[List.mem_singleton] at h; omega) (fun i k' hi hk' e=>by
       rcases zI i w.length with h|h
       ·rw[zJ h,zJ (by omega)] at e
        exact hv i k' h hk' e
       ·have:i=w.length:=by simp at hi; omega
        subst this;rw[zJ hk'] at e
        simp at e
        exact hf2 k' hk' e.symm)
      rw[o1,X];cases ok with
      | true=>exact⟨out,F,by rw[if_pos rfl],⟨fun _=>ti (o2.1 rfl),fun _=>rfl⟩⟩
      | false=>
       rw[if_neg (by simp)];exact hon fun _ h=>absurd (o2.2 h) (by simp)
    ·refine⟨[],E,by rw[if_neg (by simpa using hcm)],⟨fun h=>(by cases h),fun h=>absurd h (fin c (by omega) hno)⟩⟩
  exact key (u+1) 0 bigN (by omega) (by rw[D0]; omega) (fun c' h=>by omega)
def P5(p:P)(m:H P)(l:H X8):Q:=(decide (l.length≤12)&&l.all Bw)&&DG p m
theorem oE(hl:m.length≤maxLen)(ho:P5 p m l=F):∃(n:U) (w1 w2:H P),n≤12∧Ck (Bj p m l) (2 ^ l.length - 1) n∧Ig p m l=G (w1,(n:P),F)∧LY p m l=G (w2,(n:P),F):=by
 have ho':=ho;simp only[P5,Z,decide_eq_true_eq] at ho'
 obtain⟨⟨hN,hda⟩,ht⟩:=ho';have hd:∀d∈l,Bw d=F:=fun d h=>zM.1 hda d h
 have hdo:(decide (l.length≤12)&&l.all Bw)=F:=by simp[hN,hda]
 obtain⟨ms,m1,m2,m3⟩:=xM hl ht hd hN;obtain⟨n,n1,n2,n3⟩:=zu (YH p m l) hN (ms:=ms) ⟨m1,m2⟩
 have hmx:∀x∈ms,x<2 ^ 12:=fun x hx=>by
  obtain⟨i,hi,rfl⟩:=zP hx;refine Oj fun j hj=> ?_
  have:=m2 i j (by omega);rw[Y hi] at this
  have this:ms[i].testBit j=GJ p m l i j:=this;rw[this,GJ,Z,decide_eq_true_eq] at hj
  omega
 obtain⟨b,r,c1,c2,_⟩:=qQ ms.length bigN ms [] (n:P) [] (by simp) (by rw[D0]; omega) hmx (by omega) (fun g h=>by cases h) (by simp)
 have hsp:∀(k v fu:U),v+k=n→k<fu→∃w1,Ih l (Ch p m l) fu (v:P)=G (w1,(n:P),F):=by
  have hnN:n≤l.length:=n1.2 _ (Rx (by have:=Nat.pow_pos (n:=l.length) (show 0<2 by omega); omega));intro k
  induction k with
  | zero=>
   intro v fu hv hfu;obtain⟨fu,rfl⟩:∃n',fu=n'+1:=⟨fu - 1,by omega⟩;have:v=n:=by omega
   subst this;obtain⟨out,ok,s1,s2⟩:=gY (p:=p) (m:=m) v n2 hN l.length bigN [] (by simp) (by rw[D0]; omega) (fun x h=>by cases h) (fun i k hi=>by simp at hi);have s1:Sl (Ch p m l) [] (v:P)=G (out,ok):=s1;have hok:ok=F:=s2.2 (dh.1 n1.1);subst hok;exact⟨out,by rw[Ih,if_pos (by simp; omega),s1,X,if_pos rfl]⟩
  | succ k ihk=>
   intro v fu hv hfu;obtain⟨fu,rfl⟩:∃n',fu=n'+1:=⟨fu - 1,by omega⟩;obtain⟨out,ok,s1,s2⟩:=gY (p:=p) (m:=m) v (by omega) hN l.length bigN [] (by simp) (by rw[D0]; omega) (fun x h=>by cases h) (fun i k hi=>by simp at hi);have s1:Sl (Ch p m l) [] (v:P)=G (out,ok):=s1
   have hok:ok=E:=by
    cases ok with
    | false=>rfl
    | true=>
     have:=n1.2 v (dh.2 (s2.1 rfl));omega
   subst hok;obtain⟨w1,e⟩:=ihk (v+1) fu (by omega) (by omega);refine⟨w1,?_⟩;rw[Ih,if_pos (by simp; omega),s1,X,if_neg (by simp),AT (i:=v) (n:=13) (by omega) (by rw[AN]; omega)];exact e
 obtain⟨w1,e1⟩:=hsp n 0 bigN (by omega) (by rw[D0]; omega);refine⟨n,w1,r.who,n2,n1,?_,?_⟩
 ·unfold Ig;rw[A4m,hdo,X,if_pos rfl,gh hl,ht,X];unfold Nt;rw[if_neg (by simp),A4l hl ht hd hN,X];exact e1
 ·unfold LY RM;have ht':=ht;simp only[DG,Z] at ht'
  rw[W9,hdo,X,if_pos rfl,fb,ht'.1,X,if_pos rfl,ed hl,ht'.2,X,X,if_pos rfl,m3,X,n3,X];have c1:VX ⟨nn ms,(n:P),[],[]⟩=G (b,r):=c1;rw[c1,X,c2]
end
section
variable {c : X6} {fl : H X5}
def Cy(c:X6)(p:X1):P × P:=if p.Toward=F then((B1 c p.Segment).A,(B1 c p.Segment).B) else((B1 c p.Segment).B,(B1 c p.Segment).A)
theorem OI{p:X1}(h:idx p.Segment c.Segments.length=F):Fb c p=G (Cy c p):=by
 unfold Fb Cy;rw[(C8 h).1,X];split<;>rfl
theorem eY{p:X1}(h:idx p.Segment c.Segments.length=F):JF p c=G (Cy c p):=by
 unfold JF Cy;rw[(C8 h).1,X];split<;>rfl
theorem dk{p:X1}(hc:Be c=F)(h:idx p.Segment c.Segments.length=F):0≤(Cy c p).1∧(Cy c p).1<8∧0≤(Cy c p).2∧(Cy c p).2<8:=by
 have hp:=(Fv hc).1;have hx:=(C8 h).2;simp only[Be,Z,decide_eq_true_eq,zM,yP] at hc
 obtain⟨i,hi,e⟩:=zP hx;have:=hc.2.2.2 i hi;simp only[DF,Y hi,e,idx,Z,decide_eq_true_eq] at this
 unfold Cy;split<;>(simp only; omega)
theorem Oy{p:X1}(hc:Be c=F)(h:Cd c fl p=F):p.Start<p.End:=by
 simp only[Cd,Cq,Z,decide_eq_true_eq] at h;obtain⟨h3,h4,h5,h6,h7⟩:=h;obtain⟨_,_,a,b⟩:=(Fv hc).2.2 _ (C8 h4).2;rw[h7];unfold Bn;split
 ·rw[AF (n:=2*_) (by omega) (by omega),AF (by omega) (by omega)]; omega
 ·rw[AF (by omega) (by omega)]; omega
theorem xF{p:X1}(hn:∀x∈c.Points,x.Name.length≤maxLen)(hf:∀x∈fl,x.Name.length≤maxLen)(h1:Be c=F)(h2:Dv fl=F):M5 c fl p=G (Cd c fl p):=by
 unfold M5;rw[II hn,h1,X,if_pos rfl,eT hf,h2,X,if_pos rfl,xN,X]
def CM(c:X6)(p q:X1):X8:=⟨p.Start,q.End,(Cy c p).1,(Cy c q).2⟩
theorem eX{p q:X1}(h1:idx p.Segment c.Segments.length=F)(h2:idx q.Segment c.Segments.length=F):JJ c p q=G (CM c p q):=by
 unfold JJ;rw[eY h1,X,eY h2,X];rfl
theorem di{p q:X1}(hc:Be c=F)(h1:idx p.Segment c.Segments.length=F)(h2:idx q.Segment c.Segments.length=F)(h3:0≤p.Start)(h4:p.Start<q.End)(h5:q.End≤2880):Bw (CM c p q)=F:=by
 obtain⟨a1,a2,_,_⟩:=dk hc h1;obtain⟨_,_,b1,b2⟩:=dk hc h2;unfold Bw CM;simp only[Z,decide_eq_true_eq];exact⟨h3,h4,h5,⟨a1,a2⟩,b1,b2⟩
theorem A6t{p:X1}{s:X5}(hs:ix fl p.Ship=G s)(h1:idx p.Segment c.Segments.length=F)(all:H X1)(v1:P)(K:P→H X8→O (H X8 × Q)){T:U}(hT:s.Tugs=(T:P))(hT4:T≤4) :
  ∀(r k n:U) (acc:H X8),k+r=T→r<n→acc.length≤12+k→Gg fl (Cy c p) all v1 c p K n (k:P) acc =
   if(decide ((12:P)<((acc++zA r (CM c p p)).length:P))) then G (([]:H X8),E) else K (yQ .i64 (v1+(1:P))) (acc++zA r (CM c p p)):=by
 intro r
 induction r with
 | zero=>
  intro k n acc hk hn ha;obtain⟨n,rfl⟩:∃n',n=n'+1:=⟨n - 1,by omega⟩;rw[Gg,hs,X,if_neg (by rw[hT]; simp; omega)];simp
 | succ r ih=>
  intro k n acc hk hn ha;obtain⟨n,rfl⟩:∃n',n=n'+1:=⟨n - 1,by omega⟩;rw[Gg,hs,X,if_pos (by rw[hT]; simp; omega),if_pos (EJ (by simp; omega) (by omega)),AT (i:=k) (n:=5) (by omega) (by rw[AN]; omega)];have:=ih (k+1) n (acc++ [CM c p p]) (by omega) (by omega) (by simp; omega);refine this.trans ?_;rw[List.append_assoc];rfl
theorem A6s{p:X1}{s:X5}(h1:idx p.Segment c.Segments.length=F)(all:H X1)(v1:P)(K:P→H X8→O (H X8 × Q)){T:U}(hT:s.Tugs=(T:P))(hT4:T≤4) :
  ∀(r k n:U) (acc:H X8),k+r=T→r<n→acc.length≤12+k→FU fl all v1 s c p K n (k:P) acc =
   if(decide ((12:P)<((acc++zA r (CM c p p)).length:P))) then G (([]:H X8),E) else K (yQ .i64 (v1+(1:P))) (acc++zA r (CM c p p)):=by
 intro r
 induction r with
 | zero=>
  intro k n acc hk hn ha;obtain⟨n,rfl⟩:∃n',n=n'+1:=⟨n - 1,by omega⟩;rw[FU,if_neg (by rw[hT]; simp; omega)];simp
 | succ r ih=>
  intro k n acc hk hn ha;obtain⟨n,rfl⟩:∃n',n=n'+1:=⟨n - 1,by omega⟩;rw[FU,if_pos (by rw[hT]; simp; omega),eX h1 h1,X,if_pos (EJ (by simp; omega) (by omega)),AT (i:=k) (n:=5) (by omega) (by rw[AN]; omega)];have:=ih (k+1) n (acc++ [CM c p p]) (by omega) (by omega) (by simp; omega);refine this.trans ?_;rw[List.append_assoc];rfl
theorem VP{w:Xk}(h:EO w=F):Cq w.Rest=F∧Eu w.Moves=F:=by
 simp only[EO,Z] at h;exact⟨h.2.2.1,by simp only[Eu,Z]; exact h.2.2.2⟩
theorem oN{p:P}{m:H P}{l:H X8}(h1:l.length≤12)(h2:∀d∈l,Bw d=F)(h3:Cq p=F)(h4:Eu m=F):P5 p m l=F:=by
 simp only[P5,DG,h3,h4,Bool.and_self,Bool.and_true,Z,decide_eq_true_eq,zM];exact⟨h1,h2⟩
end
theorem Pd{n m b:U}(h:n+m≤3000000000000)(hb:b≤40):AP n m b=F:=by
 unfold AP;have:(n+m)*b≤3000000000000*40:=yB h hb;simp;omega
def BY(l:H X2):H (H X1):=l.map fun o=>o.Passages
theorem A4v{l:H X2}(hl:l.length≤1048576)(hp:∀o∈l,o.Passages.length≤1048576):Nj l=G (BY l):=by
 unfold Nj;refine OB (L:=I4 l) l (fun o=>o.Passages) G (by rw[AN]; omega) (fun n i acc h ha=> ?_) (fun n acc ha=>by simp[I4]);have:=hp _ (I h);rw[I4,Au,if_pos (by simpa using h),Ax h,X,if_pos (Pd (by simp; omega) (by omega)),if_pos (Pd (by simp; omega) (by omega))]
theorem uL{α R:Type}{L:U→P→H α→O R}(cs:H (H α))(K:O R)(hl:cs.length≤1048576)(hb:∀x∈cs,x.length≤1048576)
  (hs:∀(n i:U) (acc:H α) (h:i<cs.length),acc.length≤i*1048576→L (n+1) (i:P) acc=L n (yQ .i64 ((i:P)+1)) (acc++cs[i])) (he:∀n,L (n+1) (cs.length:P) cs.flatten=K):L bigN 0 []=K∧cs.flatten.length≤1099511627776:=by
 have key:∀(k i n:U),i+k=cs.length→k<n→L n (i:P) (cs.take i).flatten=K:=by
  have hlen:∀i:U,i≤cs.length→(cs.take i).flatten.length≤i*1048576:=by
   intro i
   induction i with
   | zero=>intro _; simp
   | succ i ih=>
    intro hi;rw[zH (by omega),yI,zO];have h1:=ih (by omega);have h2:=hb _ (I (show i<cs.length by omega));have e3: [cs[i]].flatten.length=cs[i].length:=by simp
    rw[e3];omega
  intro k
  induction k with
  | zero=>
   intro i n hi hn;obtain⟨m,rfl⟩:∃m,n=m+1:=⟨n - 1,by omega⟩;have:i=cs.length:=by omega
   subst this;rw[yL,he]
  | succ k ih=>
   intro i n hi hn;obtain⟨m,rfl⟩:∃m,n=m+1:=⟨n - 1,by omega⟩;have hlt:i<cs.length:=by omega
   rw[hs m i _ hlt (hlen i (by omega)),AT hlt (by rw[AN]; omega)];have:=ih (i+1) m (by omega) (by omega);rw[zH hlt,yI] at this
   simpa using this
 have hall:∀(k:U),k≤cs.length→(cs.take k).flatten.length≤k*1048576:=by
  intro i
  induction i with
  | zero=>intro _; simp
  | succ i ih=>
   intro hi;rw[zH (by omega),yI,zO];have h1:=ih (by omega);have h2:=hb _ (I (show i<cs.length by omega));have e3: [cs[i]].flatten.length=cs[i].length:=by simp
   rw[e3];omega
 refine⟨key cs.length 0 bigN (by omega) (by rw[D0]; omega),?_⟩;have:=hall cs.length (yE _);rw[yL] at this
 omega
theorem A04{α:Type}{Lm:U→P→P→H α→O (P × H α)}{Lh:H α→U→P→P→O P}(xs:H α)(c:U)(e:P→α)(k0:P)(h0:0≤k0)(hc:c≤100)(hl:xs.length≤1048576)(hk:k0≤10000000000)
  (hm:∀(n i:U) (k:P) (acc:H α),i<acc.length→acc.length≤1048576→0≤k→k≤100000000000→Lm (n+1) k (i:P) acc=Lm n (k+c) ((i+1:U):P) (acc.set i (e k)))
  (hme:∀(n:U) (k:P) (acc:H α),Lm (n+1) k (acc.length:P) acc=G (k,acc))
  (hh:∀(n i:U) (k:P) (ys:H α) (hi:i<ys.length),ys.length≤1048576→0≤k→k≤100000000000→ys[i]=e k→Lh ys (n+1) k (i:P)=Lh ys n (k+c) ((i+1:U):P))
  (hhe:∀(n:U) (k:P) (ys:H α),Lh ys (n+1) k (ys.length:P)=G k) :
  ∃ys,Lm bigN k0 0 xs=G (k0+c*(xs.length:P),ys)∧ys.length=xs.length∧Lh ys bigN k0 0=G (k0+c*(xs.length:P)):=by
 have bnd:∀i:U,i≤xs.length→k0+(c:P)*(i:P)≤100000000000∧0≤k0+(c:P)*(i:P):=by
  intro i hi;have h1:c*i≤100*1048576:=yB hc (by omega);have h2:((c*i:U):P)=(c:P)*(i:P):=by simp
  omega
 have keym:∀(k i n:U) (acc:H α),i+k=acc.length→acc.length=xs.length→k<n→(∀j (hj:j<acc.length),j<i→acc[j]=e (k0+c*(j:P)))→
   ∃ys,Lm n (k0+c*(i:P)) (i:P) acc=G (k0+c*(xs.length:P),ys)∧ys.length=xs.length∧∀j (hj:j<ys.length),ys[j]=e (k0+c*(j:P)):=by
  intro k
  induction k with
  | zero=>
   intro i n acc hi ha hn hj;obtain⟨m,rfl⟩:∃m,n=m+1:=⟨n - 1,by omega⟩;have:i=acc.length:=by omega
   subst this;exact⟨acc,by rw[hme,ha],ha,fun j hj2=>hj j hj2 hj2⟩
  | succ k ih=>
   intro i n acc hi ha hn hj;obtain⟨m,rfl⟩:∃m,n=m+1:=⟨n - 1,by omega⟩;have hb:=bnd i (by omega);rw[hm m i _ acc (by omega) (by omega) hb.2 hb.1]
   obtain⟨ys,e1,e2,e3⟩:=ih (i+1) m (acc.set i (e (k0+c*(i:P)))) (by simp; omega) (by simpa using ha) (by omega) (fun j hj2 hlt=>by
    by_cases e1:j=i
    ·subst e1; simp
    ·rw[List.getElem_set_ne (Ne.symm e1)];exact hj j (by simpa using hj2) (by omega))
   refine⟨ys,?_,e2,e3⟩;rw[← e1];congr 1
   rw[show(((i+1:U):P))=(i:P)+1 from rfl,Int.mul_add,Int.mul_one];omega
 obtain⟨ys,e1,e2,e3⟩:=keym xs.length 0 bigN xs (by omega) rfl (BL (by rw[AN]; omega)) (fun j _ h=>by omega)
 have keyh:∀(k i n:U),i+k=ys.length→k<n→Lh ys n (k0+c*(i:P)) (i:P)=G (k0+c*(xs.length:P)):=by
  intro k
  induction k with
  | zero=>
   intro i n hi hn;obtain⟨m,rfl⟩:∃m,n=m+1:=⟨n - 1,by omega⟩;have:i=ys.length:=by omega
   subst this;rw[hhe,e2]
  | succ k ih=>
   intro i n hi hn;obtain⟨m,rfl⟩:∃m,n=m+1:=⟨n - 1,by omega⟩;have hb:=bnd i (by omega);rw[hh m i _ ys (by omega) (by omega) hb.2 hb.1 (e3 i (by omega))];rw[← ih (i+1) m (by omega) (by omega)];congr 1
   rw[show(((i+1:U):P))=(i:P)+1 from rfl,Int.mul_add,Int.mul_one];omega
 refine⟨ys,?_,e2,?_⟩
 ·simpa using e1
 ·have:=keyh ys.length 0 bigN (by omega) (BL (by rw[AN]; omega));simpa using this
theorem A1l{s:H V}(h:Em s=F):1≤s.length∧s.length≤8:=by
 simp only[Em,Oq,Z,decide_eq_true_eq] at h;omega
def OS(x p:P):P:=if x<yQ .i64 (zF p 2) then
  yQ .i64 (zF (yQ .i64 (yQ .i64 (40000*x)*yQ .i64 (yQ .i64 (zF p 2) - x))) (yQ .i64 (yQ .i64 (zF p 2)*yQ .i64 (zF p 2))))
 else yQ .i64 (0 - yQ .i64 (zF (yQ .i64 (yQ .i64 (40000*yQ .i64 (x - yQ .i64 (zF p 2)))*yQ .i64 (yQ .i64 (zF p 2) - yQ .i64 (x - yQ .i64 (zF p 2))))) (yQ .i64 (yQ .i64 (zF p 2)*yQ .i64 (zF p 2)))))
theorem WH{p:P}(h:Ft p=F):4≤p∧p≤2880∧yQ .i64 (yA p 4)=0:=by
 simp only[Ft,Z,decide_eq_true_eq,beq_iff_eq] at h;exact⟨h.1.1,h.1.2,h.2⟩
theorem eO{p:P}(h1:4≤p)(h2:p≤2880):(yQ .i64 (yQ .i64 (zF p 2)*yQ .i64 (zF p 2))==0)=E:=by
 have e:zF p 2=p / 2:=Int.tdiv_eq_ediv_of_nonneg (by omega);rw[e,AF (n:=p / 2) (by omega) (by omega)];generalize hq:p / 2=q
 have q1:2≤q:=by omega
 have q2:q≤1440:=by omega
 have m1:2*2≤q*q:=Int.mul_le_mul q1 q1 (by omega) (by omega);have m2:q*q≤1440*1440:=Int.mul_le_mul q2 q2 (by omega) (by omega);rw[AF (by omega) (by omega)];simp only[beq_eq_false_iff_ne,ne_eq];omega
theorem A4u{n p:P}(hp:Ft p=F)(hn:0≤n)(hn2:n≤100000):NI n p=G (OS (yA n p) p):=by
 obtain⟨p1,p2,p3⟩:=WH hp;have hm:yA n p=n % p:=zX hn;have r1:=Int.emod_nonneg n (show p≠0 by omega);have r2:=Int.emod_lt_of_pos n (show 0<p by omega);unfold NI;rw[hm,AF (n:=n % p) (by omega) (by omega),p3];have k1:¬p<4:=by omega
 have k2:¬2880<p:=by omega
 have k3:(p==0)=E:=by simp; omega
 have k4:¬n % p<0:=by omega
 simp only[k1,k2,k3,k4,decide_false,C,if_false,bne_self_eq_false];unfold NJ OS;rw[eO p1 p2];simp only[C,if_false,decide_eq_true_eq];split<;>rfl
theorem xK{n p:P}(hp:Ft p=F)(hn:0≤n)(hn2:n≤100000):Mf n p=G (OS (yA n p) p):=by
 obtain⟨p1,p2,p3⟩:=WH hp;have hm:yA n p=n % p:=zX hn;have r1:=Int.emod_nonneg n (show p≠0 by omega);have r2:=Int.emod_lt_of_pos n (show 0<p by omega);have k3:(p==0)=E:=by simp; omega
 have hmm:yA (n % p+p) p=n % p:=by
  rw[zX (by omega),Int.add_emod_right,Int.emod_emod]
 unfold Mf;rw[fD,hp,X,hm,AF (n:=n % p) (by omega) (by omega),AF (n:=n % p+p) (by omega) (by omega),hmm,AF (n:=n % p) (by omega) (by omega),eO p1 p2];simp only[k3,C,if_false,if_true,decide_eq_true_eq];unfold OS;by_cases hx:n % p<yQ .i64 (zF p 2)
 ·rw[if_pos hx,if_neg (by omega)]
 ·rw[if_neg hx,if_pos (by omega)]
theorem A0n{t:Xj}{m:P}(ht:EB t=F)(h0:0≤m)(h1:m≤2880):∃r,Kj t m=G r∧RJ t m=G r:=by
 simp only[EB,Z,decide_eq_true_eq,zM] at ht
 obtain⟨_,hl,hp⟩:=ht;have hlm:t.Parts.length≤maxLen:=by rw[AN]; omega
 have key:∀(k i n:U) (v:P),i+k=t.Parts.length→k<n→∃r,Iu m t n v (i:P)=G r∧Hk m t n v (i:P)=G r:=by
  intro k
  induction k with
  | zero=>
   intro i n v hi hn;obtain⟨q,rfl⟩:∃q,n=q+1:=⟨n - 1,by omega⟩;have:i=t.Parts.length:=by omega
   subst this;exact⟨v,by simp[Iu],by simp[Hk]⟩
  | succ k ih=>
   intro i n v hi hn;obtain⟨q,rfl⟩:∃q,n=q+1:=⟨n - 1,by omega⟩;have hlt:i<t.Parts.length:=by omega
   have hx:=hp _ (I hlt);simp only[Gw,Z,decide_eq_true_eq] at hx
   obtain⟨_,hx1,hx2,hx3⟩:=hx;obtain⟨p1,p2,_⟩:=WH hx1;rw[AF (by omega) (by omega)] at hx3
   have hw:=AF (n:=m+t.Parts[i].Phase) (by omega) (by omega);obtain⟨r,e1,e2⟩:=ih (i+1) q (yQ .i64 (v+yQ .i64 (zF (yQ .i64 (t.Parts[i].Amp*OS (yA (m+t.Parts[i].Phase) t.Parts[i].Period) t.Parts[i].Period)) 10000))) (by omega) (by omega);rw[← AT hlt hlm] at e1 e2
   refine⟨r,?_,?_⟩
   ·simp only[Iu,Ay,Y hlt,X,Au,hlt,decide_true,if_true,hw,A4u hx1 (show 0≤m+t.Parts[i].Phase by omega) (by omega)];exact e1
   ·simp only[Hk,Ay,Y hlt,X,Au,hlt,decide_true,if_true,hw,xK hx1 (show 0≤m+t.Parts[i].Phase by omega) (by omega)];exact e2
 exact key t.Parts.length 0 bigN t.Mean (by omega) (BL hlm)
theorem tx{f:Xc}(h:Dc f=F):EB f.Tide=F∧0<f.Surges.length∧f.Surges.length≤6:=by
 simp only[Dc,Z,decide_eq_true_eq] at h;refine⟨h.1,?_,?_⟩<;>omega
theorem A5n{f:Xc}{m:P}(h0:0<f.Surges.length)(h6:f.Surges.length≤6):∃(a:U) (ha:a<f.Surges.length),LS f m=G (a:P)∧Iv f m=G f.Surges[a]:=by
 have hl:f.Surges.length≤maxLen:=by rw[AN]; omega
 have key:∀(k i n a:U) (ha:a<f.Surges.length),i+k=f.Surges.length→k<n→∃(a':U) (ha':a'<f.Surges.length),EQ m f n (a:P) (i:P)=G (a':P)∧
   F9 m f n (i:P) f.Surges[a].From f.Surges[a].Low f.Surges[a].High=G f.Surges[a']:=by
  intro k
  induction k with
  | zero=>
   intro i n a ha hi hn;obtain⟨q,rfl⟩:∃q,n=q+1:=⟨n - 1,by omega⟩;have:i=f.Surges.length:=by omega
   subst this;exact⟨a,ha,by simp[EQ],by simp[F9]⟩
  | succ k ih=>
   intro i n a ha hi hn;obtain⟨q,rfl⟩:∃q,n=q+1:=⟨n - 1,by omega⟩;have hlt:i<f.Surges.length:=by omega
   by_cases hm:f.Surges[i].From≤m
   ·obtain⟨a',ha',e1,e2⟩:=ih (i+1) q i hlt (by omega) (by omega);rw[← AT hlt hl] at e1 e2
    refine⟨a',ha',?_,?_⟩
    ·simp only[EQ,Ay,Y hlt,X,Au,hlt,decide_true,if_true,hm];exact e1
    ·simp only[F9,Ay,Y hlt,X,Au,hlt,decide_true,if_true,hm];exact e2
   ·obtain⟨a',ha',e1,e2⟩:=ih (i+1) q a ha (by omega) (by omega);rw[← AT hlt hl] at e1 e2
    refine⟨a',ha',?_,?_⟩
    ·simp only[EQ,Ay,Y hlt,X,Au,hlt,decide_true,if_true,hm,decide_false,C,if_false];exact e1
    ·simp only[F9,Ay,Y hlt,X,Au,hlt,decide_true,if_true,hm,decide_false,C,if_false];exact e2
 obtain⟨a,ha,e1,e2⟩:=key f.Surges.length 0 bigN 0 h0 (by omega) (BL hl);have z:((0:U):P)=0:=rfl;rw[z] at e1 e2
 have e0:ix f.Surges 0=G f.Surges[0]:=Ax h0;refine⟨a,ha,?_,?_⟩
 ·unfold LS;exact e1
 ·unfold Iv;rw[e0,X];exact e2
def WT(s:X5):P:=if s.Slow=F then yQ .i64 (zF s.Draught 50) else yQ .i64 (zF s.Draught 20)
def KK(c:X6)(i:P)(s:X5):P:=yQ .i64 (yQ .i64 (yQ .i64 (s.Draught+WT s)+50) - (B1 c i).Depth)
theorem A4n{c:X6}{s:X5}{i:P}(hn:∀x∈c.Points,x.Name.length≤maxLen)(hs:s.Name.length≤maxLen)(h1:Be c=F)(h2:CG s=F)(h3:idx i c.Segments.length=F):Nu c i s=G (KK c i s):=by
 have:=(Fv h1).2.1;unfold Nu Iz Sf Sh;simp only[Fw hn,IX hs,h1,h2,X,if_true,Dw i (show c.Segments.length≤1000 by omega),h3,(C8 h3).1,KK,WT];cases s.Slow<;>rfl
theorem xC{c:X6}{s:X5}{i:P}(hn:∀x∈c.Points,x.Name.length≤maxLen)(hs:s.Name.length≤maxLen)(h1:Be c=F)(h2:CG s=F)(h3:idx i c.Segments.length=F):LZ c i s=G (KK c i s):=by
 unfold LZ Hv RG RH;simp only[II hn,Gl hs,h1,h2,X,if_true,El,h3,(C8 h3).1,KK,WT];cases s.Slow<;>rfl
def OT(l:H X4)(i:U):Q:=match l[i]? with
 | some x=>decide (0≤x.From)&&(decide (x.From≤x.To)&&(decide (x.To≤2880)&&(match l[i - 1]? with | some y=>decide (i=0) || !(decide (x.From≤yQ .i64 (y.To+1))) | none=>F)))
 | none=>E
def OU(l:H X4):Q:=(zB l.length).all (OT l)
theorem gH{α:Type}{l:H α}{i:U}(h0:0<i)(hi:i<l.length)(hl:l.length≤maxLen):ix l (yQ .i64 ((i:P) - 1))=G (l[i - 1]'(by omega)):=by
 rw[AN] at hl
 rw[AF (by omega) (by omega),show(i:P) - 1=((i - 1:U):P) by omega,Ax (by omega)]
theorem gi{l:H X4}(hl:l.length≤maxLen):Ki l=G (OU l):=by
 unfold Ki OU;refine L5 (L:=F8 l) l.length (OT l) hl (fun n i hi=> ?_) (fun n=>by simp[F8]);have hp:i - 1<l.length:=by omega
 simp only[F8,Au,hi,decide_true,if_true,Ax hi,X,BG,OT,Y hi,Y hp];generalize F8 l n (yQ .i64 ((i:P)+1))=K
 by_cases h0:i=0
 ·subst h0;have hz:¬(0:P)<((0:U):P):=by omega
  simp only[hz,decide_false,C,if_false,decide_true,Bool.true_or];by_cases a1:0≤l[0].From<;>by_cases a2:l[0].From≤l[0].To<;>by_cases a3:l[0].To≤2880<;>by_cases a4:l[0].From≤2880<;>simp[a1,a2,a3,a4]<;>omega
 ·have hz:(0:P)<(i:P):=by omega
  simp only[hz,decide_true,if_true,gH (by omega) hi hl,X,h0,decide_false,Bool.false_or];by_cases a1:0≤l[i].From<;>by_cases a2:l[i].From≤l[i].To<;>by_cases a3:l[i].To≤2880<;>by_cases a4:l[i].From≤2880<;>by_cases a5:l[i].From≤yQ .i64 (l[i - 1].To+1)<;>simp[a1,a2,a3,a4,a5]<;>omega
theorem eW{l:H X4}(hl:l.length≤maxLen):JG l=G (OU l):=by
 unfold JG OU;refine L5 (L:=EU l) l.length (OT l) hl (fun n i hi=> ?_) (fun n=>by simp[EU]);have hp:i - 1<l.length:=by omega
 simp only[EU,Au,hi,decide_true,if_true,Ax hi,X,OT,Y hi,Y hp];generalize EU l n (yQ .i64 ((i:P)+1))=K
 have b1:decide (l[i].From<0)= !decide (0≤l[i].From):=by rw[zE]; simp
 have b2:decide (l[i].To<l[i].From)= !decide (l[i].From≤l[i].To):=by rw[zE]; simp
 have b3:decide (2880<l[i].To)= !decide (l[i].To≤2880):=by rw[zE]; simp
 rw[b1,b2,b3];by_cases h0:i=0
 ·subst h0;have hz:¬(0:P)<((0:U):P):=by omega
  simp only[hz,decide_false,C,if_false,decide_true,Bool.true_or];cases decide (0≤l[0].From)<;>cases decide (l[0].From≤l[0].To)<;>cases decide (l[0].To≤2880)<;>rfl
 ·have hz:(0:P)<(i:P):=by omega
  simp only[hz,decide_true,if_true,gH (by omega) hi hl,X,h0,decide_false,Bool.false_or];cases decide (0≤l[i].From)<;>cases decide (l[i].From≤l[i].To)<;>cases decide (l[i].To≤2880)<;>cases decide (l[i].From≤yQ .i64 (l[i - 1].To+1))<;>rfl
def D6(g:U→Q)(n:U):Q:=decide (0<n)&&g (n - 1)
def WM(v:H X4)(n:P):H X4:=v.dropLast++ [⟨(v.getLast?.getD ⟨0,0⟩).From,n⟩]
def Bh(g:U→Q):U→H X4
 | 0=> []
 | n+1=>if g n=F then(if D6 g n=F then WM (Bh g n) (n:P) else Bh g n++ [⟨(n:P),(n:P)⟩]) else Bh g n
theorem ft(g:U→Q)(n:U):D6 g (n+1)=g n:=by simp[D6]
theorem WN(l:H X4)(x:X4)(n:P):WM (l++ [x]) n=l++ [⟨x.From,n⟩]:=by simp[WM]
theorem Tf(g:U→Q):∀n,(Bh g n).length≤n∧(D6 g n=F→∃l x,Bh g n=l++ [x]∧x.To=(n:P) - 1)∧(D6 g n=E→Bh g n= []∨∃l x,Bh g n=l++ [x]∧x.To<(n:P) - 1)
 | 0=>⟨by simp[Bh],by simp[D6],fun _=> .inl rfl⟩
 | n+1=>by
  obtain⟨h1,h2,h3⟩:=Tf g n;rw[ft];by_cases hg:g n=F
  ·by_cases ho:D6 g n=F
   ·obtain⟨l,x,e,ht⟩:=h2 ho;have ew:Bh g (n+1)=l++ [⟨x.From,(n:P)⟩]:=by simp only[Bh,hg,if_true,ho,e,WN]
    refine⟨by rw[ew]; rw[e] at h1; simp at h1 ⊢; omega,fun _=>⟨l,_,ew,by simp only; omega⟩,fun h=>by rw[hg] at h; cases h⟩
   ·have ew:Bh g (n+1)=Bh g n++ [⟨(n:P),(n:P)⟩]:=by simp only[Bh,hg,if_true,ho,if_false]; rfl
    refine⟨by rw[ew]; simp; omega,fun _=>⟨_,_,ew,by simp only; omega⟩,fun h=>by rw[hg] at h; cases h⟩
  ·have ew:Bh g (n+1)=Bh g n:=by simp[Bh,hg]
   rw[ew];refine⟨by omega,fun h=>absurd h hg,fun _=> ?_⟩;cases ho:D6 g n with
   | true=>
    obtain⟨l,x,e,ht⟩:=h2 ho;exact .inr ⟨l,x,e,by omega⟩
   | false=>
    rcases h3 ho with e|⟨l,x,e,ht⟩
    ·exact .inl e
    ·exact .inr ⟨l,x,e,by omega⟩
theorem jV{g g':U→Q}:∀n,(∀j,j<n→g j=g' j)→Bh g n=Bh g' n
 | 0,_=>rfl
 | n+1,h=>by
  have e1:D6 g n=D6 g' n:=by
   unfold D6;by_cases h0:0<n
   ·rw[h (n - 1) (by omega)]
   ·simp[h0]
  simp only[Bh,h n (by omega),e1,jV n fun j hj=>h j (by omega)]
theorem SS{l:H X4}{x:X4}(h:l.length≤100000):ix (l++ [x]) (yQ .i64 (((l++ [x]).length:P) - 1))=G x∧Int.toNat (yQ .i64 (((l++ [x]).length:P) - 1))=l.length:=by
 have e:yQ .i64 (((l++ [x]).length:P) - 1)=((l.length:U):P):=by
  rw[AF (by simp<;>omega) (by simp<;>omega)];simp
 rw[e];exact⟨by rw[Ax (by simp)]; simp,by simp⟩
theorem A4o{L:H Q}(hl:L.length≤3000):NM L=G (Bh (fun i=>L.getD i E) L.length):=by
 unfold NM
 have key:∀(k i n:U),i+k=L.length→k<n→Eh L n (i:P) (Bh (fun i=>L.getD i E) i)=G (Bh (fun i=>L.getD i E) L.length):=by
  intro k
  induction k with
  | zero=>
   intro i n hi hn;obtain⟨m,rfl⟩:∃m,n=m+1:=⟨n - 1,by omega⟩;have:i=L.length:=by omega
   subst this;simp[Eh]
  | succ k ih=>
   intro i n hi hn;obtain⟨m,rfl⟩:∃m,n=m+1:=⟨n - 1,by omega⟩;have hlt:i<L.length:=by omega
   have ih':=ih (i+1) m (by omega) (by omega);have hw:=AT hlt (show L.length≤maxLen by rw[AN]; omega);obtain⟨w1,w2,w3⟩:=Tf (fun i=>L.getD i E) i;have hgi:L.getD i E=L[i]:=by simp[hlt]
   rw[Bh] at ih'
   simp only[hgi] at ih'
   simp only[Eh,Au,hlt,decide_true,if_true,Ax hlt,X];have hwm:yQ .i64 ((i:P) - 1)=(i:P) - 1:=AF (by omega) (by omega);generalize hwi:Bh (fun i=>L.getD i E) i=v at *
   cases hb:L[i] with
   | false=>
    rw[hb] at ih'
    simp only[C,if_false] at ih' ⊢
    rw[hw];exact ih'
   | true=>
    rw[hb] at ih'
    simp only[if_true] at ih' ⊢
    cases ho:D6 (fun i=>L.getD i E) i with
    | true=>
     rw[ho] at ih'
     obtain⟨l,x,rfl,ht⟩:=w2 ho;obtain⟨q1,q2⟩:=SS (l:=l) (x:=x) (by simp at w1; omega);have hpos:0<(l++ [x]).length:=by simp
     have hpos':decide ((0:P)<((l++ [x]).length:P))=F:=decide_eq_true (by omega);rw[if_pos hpos',q1];simp only[X,Iw,hwm,ht,beq_self_eq_true,if_true,q1,q2];rw[hw];simp only[if_true,WN] at ih'
     simpa using ih'
    | false=>
     rw[ho] at ih'
     simp only[C,if_false] at ih'
     have fin:∀w:H X4,w=v→Iw (i:P) L w (Eh L m) E=G (Bh (fun i=>L.getD i E) L.length):=by
      rintro w rfl
      simp only[Iw,C,if_false];rw[O0 (by simp; omega) (by omega),hw];exact ih'
     rcases w3 ho with rfl|⟨l,x,rfl,ht⟩
     ·exact fin [] rfl
     ·obtain⟨q1,q2⟩:=SS (l:=l) (x:=x) (by simp at w1; omega);have hpos':decide ((0:P)<((l++ [x]).length:P))=F:=decide_eq_true (by simp<;>omega);have hne:(x.To==(i:P) - 1)=E:=by simp<;>omega
      rw[if_pos hpos',q1];simp only[X,hwm,hne];exact fin _ rfl
 exact key L.length 0 bigN (by omega) (BL (by rw[AN]; omega))
theorem xD{a0:P→O Q}{g:U→Q}(h:∀i:U,i≤2880→a0 (i:P)=G (g i)):Mv a0=G (Bh g 2881):=by
 unfold Mv
 have key:∀(k i n:U),i+k=2881→k<n→EZ a0 n (D6 g i) (i:P) (Bh g i)=G (Bh g 2881):=by
  intro k
  induction k with
  | zero=>
   intro i n hi hn;obtain⟨m,rfl⟩:∃m,n=m+1:=⟨n - 1,by omega⟩;have:i=2881:=by omega
   subst this;simp[EZ]
  | succ k ih=>
   intro i n hi hn;obtain⟨m,rfl⟩:∃m,n=m+1:=⟨n - 1,by omega⟩;have hle:decide ((i:P)≤2880)=F:=decide_eq_true (by omega);have ih':=ih (i+1) m (by omega) (by omega);have hw:yQ .i64 ((i:P)+1)=((i+1:U):P):=AT (n:=2881) (by omega) (by rw[AN]; omega);obtain⟨w1,w2,w3⟩:=Tf g i;rw[ft,Bh] at ih'
   simp only[EZ,hle,if_true,h i (by omega),X];generalize hwi:Bh g i=v at *
   cases hb:g i with
   | false=>
    rw[hb] at ih'
    simp only[C,if_false,HB] at ih' ⊢
    rw[hw];exact ih'
   | true=>
    rw[hb] at ih'
    simp only[if_true] at ih' ⊢
    cases ho:D6 g i with
    | true=>
     rw[ho] at ih'
     obtain⟨l,x,rfl,ht⟩:=w2 ho;obtain⟨q1,q2⟩:=SS (l:=l) (x:=x) (by simp at w1; omega);simp only[if_true,JO,q1,X,HB,q2];rw[hw];simp only[if_true,WN] at ih'
     simpa using ih'
    | false=>
     rw[ho] at ih'
     simp only[C,if_false] at ih' ⊢
     rw[O0 (by simp; omega) (by omega)];obtain⟨q1,q2⟩:=SS (l:=v) (x:=⟨(i:P),0⟩) (by omega);simp only[JO,q1,X,HB,q2];rw[hw];simpa using ih'
 have:=key 2881 0 bigN (by omega) (BL (by rw[AN]; omega));exact this
def Dy(f:Xc)(m:U):P:=yQ .i64 ((Kj f.Tide (m:P)).getD 0+((Iv f (m:P)).getD ⟨0,0,0⟩).Low)
theorem fR{f:Xc}(hf:Dc f=F){m:U}(hm:m≤2880):∃r x,Kj f.Tide (m:P)=G r∧Iv f (m:P)=G x∧Dy f m=yQ .i64 (r+x.Low)∧LR f (m:P)=G (Dy f m):=by
 obtain⟨ht,h0,h6⟩:=tx hf;obtain⟨r,r1,r2⟩:=A0n ht (show(0:P)≤(m:P) by omega) (by omega);obtain⟨a,ha,a1,a2⟩:=A5n (m:=(m:P)) h0 h6;refine⟨r,_,r1,a2,by simp[Dy,r1,a2],?_⟩;unfold LR;simp[r2,a1,Ax ha,Dy,r1,a2]
theorem A0o{f:Xc}(hf:Dc f=F)(lv:P):NK f lv E=G (Bh (fun i=>decide (lv≤Dy f i)) 2881):=by
 unfold NK
 have key:∀(k i n:U),i+k=2881→k<n→G9 lv f n E (i:P) ((zB i).map fun j=>decide (lv≤Dy f j))=G (Bh (fun i=>decide (lv≤Dy f i)) 2881):=by
  intro k
  induction k with
  | zero=>
   intro i n hi hn;obtain⟨m,rfl⟩:∃m,n=m+1:=⟨n - 1,by omega⟩;have:i=2881:=by omega
   subst this;have hd:decide (((2881:U):P)≤2880)=E:=by decide
   simp only[G9,hd,C,if_false];rw[A4o (by simp)];simp only[X,List.length_map,List.length_range];refine congrArg G (jV 2881 fun j hj=> ?_);show(((zB 2881).map fun j=>decide (lv≤Dy f j)).getD j E)=_
   rw[List.getD_eq_getElem?_getD,yD,List.getElem?_range hj];rfl
  | succ k ih=>
   intro i n hi hn;obtain⟨m,rfl⟩:∃m,n=m+1:=⟨n - 1,by omega⟩;have hle:decide ((i:P)≤2880)=F:=decide_eq_true (by omega);have hw:yQ .i64 ((i:P)+1)=((i+1:U):P):=AT (n:=2881) (by omega) (by rw[AN]; omega);obtain⟨r,x,e1,e2,e3,_⟩:=fR hf (show i≤2880 by omega);simp only[G9,hle,if_true,e2,X,C,if_false,NL,e1];rw[O0 (by simp; omega) (by omega),hw];have:=ih (i+1) m (by omega) (by omega);rw[List.range_succ,List.map_append] at this
   simpa[e3] using this
 have:=key 2881 0 bigN (by omega) (BL (by rw[AN]; omega));exact this
theorem A0x{f:Xc}(hf:Dc f=F)(lv:P):M0 f lv=G (Bh (fun i=>decide (lv≤Dy f i)) 2881):=by
 unfold M0;rw[O1,hf];simp only[X,if_true];rw[xD (g:=fun i=>decide (lv≤Dy f i)) fun i hi=> ?_]
 ·rfl
 ·obtain⟨_,_,_,_,_,e⟩:=fR hf hi;simp[RE,e]
theorem A4f(a1:P)(a0:H X4)(hl:a0.length≤100000):∃r,F7 a1 a0 bigN 0 []=G r∧ET a1 a0 bigN 0 []=G r∧r.length≤a0.length:=by
 have key:∀(k i n:U) (acc:H X4),i+k=a0.length→k<n→acc.length≤i→∃r,F7 a1 a0 n (i:P) acc=G r∧ET a1 a0 n (i:P) acc=G r∧r.length≤a0.length:=by
  intro k
  induction k with
  | zero=>
   intro i n acc hi hn ha;obtain⟨m,rfl⟩:∃m,n=m+1:=⟨n - 1,by omega⟩;have:i=a0.length:=by omega
   subst this;exact⟨acc,by simp[F7],by simp[ET],ha⟩
  | succ k ih=>
   intro i n acc hi hn ha;obtain⟨m,rfl⟩:∃m,n=m+1:=⟨n - 1,by omega⟩;have hlt:i<a0.length:=by omega
   simp only[F7,ET,Au,hlt,decide_true,if_true,Ax hlt,X];rw[AT hlt (show a0.length≤maxLen by rw[AN]; omega)];by_cases hc:a1≤yQ .i64 (a0[i].To - a0[i].From)
   ·simp only[hc,decide_true,if_true];rw[O0 (by simp; omega) (by omega),O0 (by simp; omega) (by omega)];exact ih (i+1) m _ (by omega) (by omega) (by simp; omega)
   ·simp only[hc,decide_false,C,if_false];exact ih (i+1) m _ (by omega) (by omega) (by omega)
 exact key a0.length 0 bigN [] (by omega) (BL (by rw[AN]; omega)) (by simp)
theorem A43{f:Xc}{c:X6}{s:X5}{i:P}(hf:Dc f=F)(hn:∀x∈c.Points,x.Name.length≤maxLen)(hs:s.Name.length≤maxLen)(h1:Be c=F)(h2:CG s=F)(h3:idx i c.Segments.length=F) :
  ∃r,NF f c i s=G r∧Mc f c i s=G r∧r.length≤2881:=by
 have hsg:=(Fv h1).2.1;have hW:=(Tf (fun j=>decide (KK c i s≤Dy f j)) 2881).1
 have hmin:M1 c i s=G (Bn (B1 c i) s):=by
  unfold M1;simp only[II hn,Gl hs,h1,h2,X,if_true,El,h3,(C8 h3).1,O2]
 have hok1:Iz c i s=G F:=by
  unfold Iz;simp only[Fw hn,IX hs,h1,h2,X,if_true,Dw i (show c.Segments.length≤1000 by omega),h3]
 have hok2:Hv c i s=G F:=by
  unfold Hv;simp only[II hn,Gl hs,h1,h2,X,if_true,El,h3]
 unfold NF Sj Mc;simp only[WR,O1,hf,X,if_true,hok1,hok2,A4n hn hs h1 h2 h3,xC hn hs h1 h2 h3,A0o hf,A0x hf,gf hn hs h1 h2 h3,hmin];generalize Bh (fun j=>decide (KK c i s≤Dy f j)) 2881=W at hW
 have hWm:W.length≤maxLen:=by rw[AN]; omega
 unfold Sg RI;simp only[gi hWm,eW hWm,X,BG,Gm];obtain⟨r,r1,r2,r3⟩:=A4f (Bn (B1 c i) s) W (by omega);by_cases hw:OU W=F
 ·by_cases hm:(decide (0≤Bn (B1 c i) s)&&decide (Bn (B1 c i) s≤2880))=F
  ·exact⟨r,by simp only[hw,hm,if_true,r1,X],by simp only[hw,hm,if_true,r2,X],by omega⟩
  ·exact⟨[],by simp[hw,hm],by simp[hw,hm],by simp⟩
 ·exact⟨[],by simp[hw],by simp[hw],by simp⟩
def i64(n:P):Prop:= -9223372036854775808≤n∧n≤9223372036854775807
end Go.Vi
