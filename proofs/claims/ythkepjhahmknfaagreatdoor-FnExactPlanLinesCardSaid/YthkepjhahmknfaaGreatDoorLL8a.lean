/-
Plain laws. No condition.
-/
import Derived.Test.YthkepjhahmknfaaGreatDoorLNf
import Derived.Test.YthkepjhahmknfaaGreatDoorLVi33
import Derived.KernelRfl
import Derived.Test.YthkepjhahmknfaaGreatDoorLLa
namespace Go.Vi
open Go.Lib
set_option linter.all false
open Option renaming bind_some → X, some → G
open List renaming getElem?_eq_getElem → Y, getElem_mem → I, replicate → zA, range → zB, take_succ_eq_append_getElem → zI, getElem_append_left → zK, getElem?_set_ne → zM, all_eq_true → zN, getElem?_set_self → zO, length_append → zP, getElem_of_mem → zQ, range' → zR, length_singleton → zU, map → zX, getElem?_map → yF, getElem_set_self → yG, foldr_cons → yH, mem_map_of_mem → yI, flatten_append → yJ, range'_succ → yL, take_length → yM, mem_range → yQ
open Bool renaming false_eq_true → Z, and_eq_true → C, true_and → zD, eq_iff_iff → zF, or_eq_true → yO, true → F, false → E
open Int renaming tdiv → zC, toNat_natCast → zE, tmod_eq_emod_of_nonneg → zH, tmod → zS, tdiv_eq_ediv_of_nonneg → zZ
open Nat renaming mod_two_eq_zero_or_one → zG, lt_or_ge → zJ, lt_trans → zL, testBit_or → zT, pow_le_pow_right → zV, eq_of_testBit_eq → zW, pow_lt_pow_right → zY, le_refl → yA, testBit_and → yB, lt_of_lt_of_le → yC, mul_le_mul → yD, or_lt_two_pow → yE, lt_of_le_of_lt → yK, and_div_two → yN, zero_le → yP
open IntKind renaming wrap → yR
open _root_ renaming List → H, Option → O, Int → P, Bool → Q, Nat → U, UInt8 → V
def AW(a b:U):U:=a ^^^ (a &&& b)
theorem EA(a b i:U):(AW a b).testBit i=(a.testBit i&& !b.testBit i):=by
 simp only[AW,Nat.testBit_xor,yB];cases a.testBit i<;>cases b.testBit i<;>rfl
theorem J5(n i:U):(2 ^ n).testBit i=decide (n=i):=Nat.testBit_two_pow
theorem GJ{s n i:U}(h:s<2 ^ n)(hi:s.testBit i=F):i<n:=by
 rcases zJ i n with h1|h1
 ·exact h1
 ·have:s<2 ^ i:=yC h (zV (by omega) h1);rw[Nat.testBit_lt_two_pow this] at hi
  cases hi
theorem A7o{s i:U}(hi:s.testBit i=F):i<s:=GJ Nat.lt_two_pow_self hi
theorem gJ(p:U→Q):∀k:U,∃q:U,∀i,q.testBit i=(decide (i<k)&&p i)
 | 0=>⟨0,fun i=>by simp⟩
 | k+1=>by
  obtain⟨q,hq⟩:=gJ p k;refine⟨q ||| (if p k then 2 ^ k else 0),fun i=> ?_⟩;rw[zT,hq];by_cases hp:p k=F
  ·rw[if_pos hp,J5];by_cases h:k=i
   ·subst h; simp[hp]
   ·have:decide (i<k+1)=decide (i<k):=by simp; omega
    simp[h,this]
  ·rw[if_neg hp,Nat.zero_testBit];by_cases h:k=i
   ·subst h; simp[hp]
   ·have:decide (i<k+1)=decide (i<k):=by simp; omega
    simp[this]
theorem A63{q r:U}(h:q &&& r=q){i:U}(hi:q.testBit i=F):r.testBit i=F:=by
 have:=congrArg (fun x=>x.testBit i) h;simp only[yB,hi,zD] at this
 exact this
theorem WT{q r:U}(h:∀i,q.testBit i=F→r.testBit i=F):q &&& r=q:=by
 apply zW
 intro i;rw[yB];cases hq:q.testBit i with
 | false=>rfl
 | true=>rw[h i hq]; rfl
theorem A2z:∀(n r p q:U),r≤n→p &&& r=p→q &&& r=q→q<p→q≤(p - 1) &&& r:=by
 intro n
 induction n with
 | zero=>
  intro r p q hr hp hq hlt;have:r=0:=by omega
  subst this;rw[Nat.and_zero] at hp hq
  omega
 | succ n ih=>
  intro r p q hr hp hq hlt;by_cases h0:r=0
  ·subst h0;rw[Nat.and_zero] at hp hq
   omega
  have hp2:(p / 2) &&& (r / 2)=p / 2:=by rw[← yN,hp]
  have hq2:(q / 2) &&& (r / 2)=q / 2:=by rw[← yN,hq]
  have e2:∀a b:U,(a &&& b) % 2=(a % 2)*(b % 2):=fun a b=>by
   have h:=yB a b 0;simp only[Nat.testBit_zero] at h;rcases zG a with ha|ha<;>rcases zG b with hb|hb<;>rcases zG (a &&& b) with hc|hc<;>simp_all
  have hpm:=e2 p r;have hqm:=e2 q r;rw[hp] at hpm
  rw[hq] at hqm
  have hd:((p - 1) &&& r) / 2=((p - 1) / 2) &&& (r / 2):=yN;have hm:=e2 (p - 1) r;rcases zG p with h1|h1
  ·-- an even one
   have i1:=ih (r / 2) (p / 2) (q / 2) (by omega) hp2 hq2 (by omega);have e3:(p - 1) / 2=p / 2 - 1:=by omega
   rw[e3] at hd
   have e4:(p - 1) % 2=1:=by omega
   rw[e4,Nat.one_mul] at hm
   have hqr:q % 2≤r % 2:=by
    rcases zG q with h2|h2
    ·omega
    ·rw[h2,Nat.one_mul] at hqm; omega
   omega
  ·have e3:(p - 1) / 2=p / 2:=by omega
   rw[e3,hp2] at hd
   omega
theorem pE{p r:U}(h:0<p):(p - 1) &&& r<p:=by
 have:= @Nat.and_le_left (p - 1) r;omega
theorem pF(p r:U):(p &&& r) &&& r=p &&& r:=by rw[Nat.and_assoc,Nat.and_self]
def E1(B:U→U→Q)(S m:U):Prop:=∃f:U→U,(∀i,S.testBit i=F→f i<m)∧∀i j,S.testBit i=F→S.testBit j=F→i≠j→f i=f j→B i j=F
def EF(B:U→U→Q)(S:U):Prop:=∀i j,S.testBit i=F→S.testBit j=F→i≠j→B i j=F
def Ck(B:U→U→Q)(S n:U):Prop:=E1 B S n∧∀m,E1 B S m→n≤m
theorem RG{B:U→U→Q}{S n:U}(h:S<2 ^ n):E1 B S n:=⟨id,fun i hi=>GJ h hi,fun i j _ _ hne e=>absurd e hne⟩
theorem WG{B:U→U→Q}:Ck B 0 0:=⟨⟨id,fun i hi=>by simp at hi,fun i j hi=>by simp at hi⟩,fun m _=>yP m⟩
theorem qy{B:U→U→Q}{S t rest q n:U}(hS:∀i,S.testBit i=F→i=t∨rest.testBit i=F)(hq:EF B (q ||| 2 ^ t))(h:E1 B (AW rest q) n):E1 B S (1+n):=by
 obtain⟨f,f1,f2⟩:=h
 have key:∀i,S.testBit i=F→(i=t∨q.testBit i=F)∨(AW rest q).testBit i=F:=fun i hi=>by
  rcases hS i hi with h|h
  ·exact .inl (.inl h)
  ·cases hb:q.testBit i with
   | true=>exact .inl (.inr rfl)
   | false=>right; rw[EA,h,hb]; rfl
 have hin:∀i,(i=t∨q.testBit i=F)→(q ||| 2 ^ t).testBit i=F:=fun i hi=>by
  rw[zT,J5];rcases hi with h|h
  ·simp[h]
  ·simp[h]
 refine⟨fun i=>if i=t∨q.testBit i=F then n else f i,fun i hi=> ?_,fun i j hi hj hne e=> ?_⟩
 ·by_cases hx:i=t∨q.testBit i=F
  ·simp only[hx,if_true]; omega
  ·simp only[hx,if_false];rcases key i hi with h|h
   ·exact absurd h hx
   ·have:=f1 i h; omega
 ·by_cases hx:i=t∨q.testBit i=F
  ·by_cases hy:j=t∨q.testBit j=F
   ·exact hq i j (hin i hx) (hin j hy) hne
   ·simp only[hx,hy,if_true,if_false] at e
    have:=f1 j ((key j hj).resolve_left hy);omega
  ·by_cases hy:j=t∨q.testBit j=F
   ·simp only[hx,hy,if_true,if_false] at e
    have:=f1 i ((key i hi).resolve_left hx);omega
   ·simp only[hx,hy,if_false] at e
    exact f2 i j ((key i hi).resolve_left hx) ((key j hj).resolve_left hy) hne e
theorem qz{B:U→U→Q}{S t rest m:U}(hS:S.testBit t=F)(hr:∀i,rest.testBit i=F→S.testBit i=F)(h:E1 B S m):∃q n,q &&& rest=q∧EF B (q ||| 2 ^ t)∧n+1=m∧E1 B (AW rest q) n:=by
 obtain⟨f,f1,f2⟩:=h;obtain⟨q,hq⟩:=gJ (fun i=>rest.testBit i&&decide (f i=f t)) rest
 have hq2:∀i,q.testBit i=F↔rest.testBit i=F∧f i=f t:=fun i=>by
  rw[hq i];constructor
  ·intro h;simp only[C,decide_eq_true_eq] at h;exact h.2
  ·intro⟨h1,h2⟩;simp only[C,decide_eq_true_eq];exact⟨A7o h1,h1,h2⟩
 have hm:=f1 t hS;refine⟨q,m - 1,WT fun i hi=>((hq2 i).1 hi).1,fun i j hi hj hne=> ?_,by omega,fun i=>if f i=m - 1 then f t else f i,fun i hi=> ?_,fun i j hi hj hne e=> ?_⟩
 ·have side:∀i,(q ||| 2 ^ t).testBit i=F→S.testBit i=F∧f i=f t:=fun i hi=>by
   rw[zT,J5,yO,decide_eq_true_eq] at hi
   rcases hi with h|h
   ·exact⟨hr i ((hq2 i).1 h).1,((hq2 i).1 h).2⟩
   ·subst h; exact⟨hS,rfl⟩
  obtain⟨i1,i2⟩:=side i hi;obtain⟨j1,j2⟩:=side j hj;exact f2 i j i1 j1 hne (i2.trans j2.symm)
 ·rw[EA,C] at hi
  have hne:f i≠f t:=fun e=>by
   have:=(hq2 i).2 ⟨hi.1,e⟩;rw[this] at hi
   simp at hi
  have:=f1 i (hr i hi.1);show(if f i=m - 1 then f t else f i)<m - 1
  split<;>omega
 ·rw[EA,C] at hi hj
  have hni:f i≠f t:=fun e=>by
   have:=(hq2 i).2 ⟨hi.1,e⟩;rw[this] at hi
   simp at hi
  have hnj:f j≠f t:=fun e=>by
   have:=(hq2 j).2 ⟨hj.1,e⟩;rw[this] at hj
   simp at hj
  have e2:f i=f j:=by
   have e:(if f i=m - 1 then f t else f i)=(if f j=m - 1 then f t else f j):=e;split at e<;>split at e<;>omega
  exact f2 i j (hr i hi.1) (hr j hj.1) hne e2
def CX(B:U→U→Q)(N m:U)(w:H U):Prop:=∃f:U→U,(∀(j:U) (h:j<w.length),f j=w[j])∧(∀j,j<N→f j<m)∧∀i j,i<N→j<N→i≠j→f i=f j→B i j=F
def Jd(B:U→U→Q)(w:H U)(c:U):Prop:=∀(k:U) (h:k<w.length),w[k]=c→B w.length k=F
theorem uY{B:U→U→Q}{N m:U}{w:H U}{c:U}(h:CX B N m (w++ [c])):CX B N m w:=by
 obtain⟨f,f1,f2⟩:=h;exact⟨f,fun j hj=>by rw[f1 j (by simp; omega),zK hj],f2⟩
theorem ua{B:U→U→Q}{N m u:U}{w:H U}(hw:w.length<N)(hu:∀x∈w,x<u)(h:CX B N m w):∃c,c≤u∧c<m∧Jd B w c∧CX B N m (w++ [c]):=by
 obtain⟨f,f1,f2,f3⟩:=h
 have done:∀f:U→U,(∀(j:U) (h:j<w.length),f j=w[j])→(∀j,j<N→f j<m)→(∀i j,i<N→j<N→i≠j→f i=f j→B i j=F)→f w.length≤u→∃c,c≤u∧c<m∧Jd B w c∧CX B N m (w++ [c]):=by
  intro f f1 f2 f3 hle;refine⟨f w.length,hle,f2 _ hw,fun k hk e=>f3 _ _ hw (by omega) (by omega) ((e.symm.trans (f1 k hk).symm)),f,fun j hj=> ?_,f2,f3⟩;rcases zJ j w.length with h|h
  ·rw[zK h]; exact f1 j h
  ·have:j=w.length:=by simp at hj; omega
   subst this;simp
 by_cases hc:f w.length≤u
 ·exact done f f1 f2 f3 hc
 ·have hm:=f2 _ hw;refine done (fun x=>if f x=f w.length then u else if f x=u then f w.length else f x) (fun j hj=> ?_) (fun j hj=> ?_) (fun i j hi hj hne e=>f3 i j hi hj hne ?_) (by simp)
  ·have e1:=f1 j hj;have e2:=hu _ (I hj);show(if f j=f w.length then u else if f j=u then f w.length else f j)=w[j]
   rw[if_neg (by omega),if_neg (by omega),e1]
  ·have:=f2 j hj;show(if f j=f w.length then u else if f j=u then f w.length else f j)<m
   split
   ·omega
   ·split<;>omega
  ·have e:(if f i=f w.length then u else if f i=u then f w.length else f i)=(if f j=f w.length then u else if f j=u then f w.length else f j):=e;split at e<;>split at e<;>(try split at e)<;>(try split at e)<;>omega
theorem uZ{B:U→U→Q}{N m:U}{w:H U}(hl:w.length=N)(hm:∀x∈w,x<m)(hB:∀i j,B i j=B j i)(hv:∀(i k:U) (hi:i<w.length) (hk:k<i),w[i]=w[k]→B i k=F):CX B N m w:=by
 subst hl;have e:∀(j:U) (h:j<w.length),w[j]?.getD 0=w[j]:=fun j h=>by rw[Y h]; rfl
 refine⟨fun j=>w[j]?.getD 0,fun j hj=>e j hj,fun j hj=> ?_,fun i j hi hj hne h=> ?_⟩
 ·show w[j]?.getD 0<m
  rw[e j hj]; exact hm _ (I hj)
 ·have h:w[i]?.getD 0=w[j]?.getD 0:=h;rw[e i hi,e j hj] at h;rcases zJ j i with hlt|hge
  ·exact hv i j hi hlt h
  ·rw[hB]; exact hv j i hj (by omega) h.symm
theorem eN{B:U→U→Q}{N m:U}:E1 B (2 ^ N - 1) m↔CX B N m []:=by
 have ht:∀i,(2 ^ N - 1).testBit i=decide (i<N):=fun i=>Nat.testBit_two_pow_sub_one N i
 constructor
 ·rintro⟨f,f1,f2⟩
  exact⟨f,fun j h=>by simp at h,fun j hj=>f1 j (by rw[ht]; simpa using hj),fun i j hi hj hne e=>f2 i j (by rw[ht]; simpa using hi) (by rw[ht]; simpa using hj) hne e⟩
 ·rintro⟨f,_,f1,f2⟩
  exact⟨f,fun j hj=>f1 j (by rw[ht] at hj; simpa using hj),fun i j hi hj hne e=>f2 i j (by rw[ht] at hi; simpa using hi) (by rw[ht] at hj; simpa using hj) hne e⟩
theorem BF(n lo hi:P):AM n lo hi=G (decide (lo≤n)&&decide (n≤hi)):=by
 unfold AM;by_cases h:lo≤n<;>simp[h]
theorem D6(n lo hi:P):BN n lo hi=G (decide (lo≤n)&&decide (n≤hi)):=by
 unfold BN;by_cases h:lo≤n<;>simp[h]
theorem DU{n bytes:U}(h:n≤1048576)(hb:bytes≤1000):C9 (n:P) (n:P) bytes=G n:=by
 unfold C9
 have:(n:P)*(bytes:P)≤140737488355328:=by
  have:n*bytes≤1048576*1000:=yD h hb;have e:((n*bytes:U):P)=(n:P)*(bytes:P):=by simp
  omega
 rw[if_pos ⟨by omega,by omega,this,by omega⟩];simp
theorem DS{n:U}(h:n≤1048576):n≤maxLen:=by rw[AO]; omega
theorem A7y{xs:H P}(h:xs.length≤1048576):Nc xs=G xs:=by
 unfold Nc;rw[DU h (by omega)];have:=EO (L:=I1 xs) xs id (DS h) (fun n i acc hi ha=>by simp[I1,AA,hi,ha]) (fun n acc=>by simp[I1]) (zA xs.length 0) (by simp);simpa using this
theorem uA{xs ys:H P}(h:xs.length≤maxLen):MH xs ys=G (decide (xs=ys)):=by
 unfold MH;by_cases hl:xs.length=ys.length
 ·have:=H7 (L:=HL xs ys) xs ys h hl (fun n i h1 h2=>by simp[HL,AA,h1,h2]) (fun n=>by simp[HL]);simp[hl,this]
 ·have:¬(xs.length:P)=ys.length:=by omega
  have:xs≠ys:=fun e=>hl (by rw[e])
  simp_all
theorem Er{α:Type}{row:α→H D}{xs:H α}(h:(D.sl (zX row xs)).Ok):xs.length≤maxLen:=by simpa using h.sl.1
theorem Gt(n:P):CY n=G (decide (0≤n)&&decide (n≤2880)):=by simp[CY,D6]
theorem fA{len:U}(p:U→Q)(K:O Q):∀(k i:U),(zR i k).foldr (fun i r=>if p i=F then r else G E) K=if(zR i k).all p=F then K else G E
 | 0,i=>by simp
 | k+1,i=>by
  rw[yL,yH,fA (len:=len) p K k (i+1),List.all_cons];cases p i<;>rfl
theorem fB{len:U}(p:U→Q)(K:O Q):∀(k i:U),(zR i k).foldr (fun i r=>if p i=F then G E else r) K=if(zR i k).any p=F then G E else K
 | 0,i=>by simp
 | k+1,i=>by
  rw[yL,yH,fB (len:=len) p K k (i+1),List.any_cons];cases p i<;>rfl
theorem FF{L:U→P→O Q}(len:U)(p:U→Q)(K:O Q)(hl:len≤maxLen)
  (hs:∀(n i:U),i<len→L (n+1) (i:P)=if p i=F then L n (yR .i64 ((i:P)+1)) else G E) (he:∀n,L (n+1) (len:P)=K):L bigN 0=if(zB len).all p=F then K else G E:=by
 have:=IY L len hl (fun i r=>if p i=F then r else G E) K hs he len 0 bigN (by omega) (BG hl);rw[fA (len:=len),← List.range_eq_range'] at this
 exact this
theorem YQ{L:U→P→O Q}(len:U)(p:U→Q)(K:O Q)(hl:len≤maxLen)
  (hs:∀(n i:U),i<len→L (n+1) (i:P)=if p i=F then G E else L n (yR .i64 ((i:P)+1))) (he:∀n,L (n+1) (len:P)=K):L bigN 0=if(zB len).any p=F then G E else K:=by
 have:=IY L len hl (fun i r=>if p i=F then G E else r) K hs he len 0 bigN (by omega) (BG hl);rw[fB (len:=len),← List.range_eq_range'] at this
 exact this
def IU(s:H V)(i:U):Q:=match s[i]? with
 | some b=>(decide (97≤(b.toNat:P))&&decide ((b.toNat:P)≤122)) || (!(decide (i=0))&&(decide (48≤(b.toNat:P))&&decide ((b.toNat:P)≤57)))
 | none=>E
def KQ(s:H V):Q:=decide (1≤(s.length:P))&&decide ((s.length:P)≤8)
def DR(s:H V):Q:=KQ s&&(zB s.length).all (IU s)
theorem gV(c:P)(K:O Q)(z':Q)(z:P)(i:U)(hz:z=(i:P)) :
  (if decide (97≤c)=F then(if decide (c≤122)=F then K else if(z==0)=F then G E else if decide (c<48)=F then G E else if decide (57<c)=F then G E else K)
   else if E=F then K else if(z==0)=F then G E else if decide (c<48)=F then G E else if decide (57<c)=F then G E else K) =
  if((decide (97≤c)&&decide (c≤122)) || (!(decide (i=0))&&(decide (48≤c)&&decide (c≤57))))=F then K else G E:=by
 subst hz;have e0:(((i:U):P)==0)=decide (i=0):=by rw[zF]; simp
 have e1:decide (c<48)= !decide (48≤c):=by rw[zF]; simp
 have e2:decide (57<c)= !decide (c≤57):=by rw[zF]; simp
 rw[e0,e1,e2];cases decide (i=0)<;>cases decide (97≤c)<;>cases decide (c≤122)<;>cases decide (48≤c)<;>cases decide (c≤57)<;>rfl
theorem iG{s:H V}(h:s.length≤maxLen):Kh s=G (DR s):=by
 unfold Kh;rw[FF (L:=G7 s) s.length (IU s) (G (KQ s)) h (fun n i hi=> ?_) (fun n=>by simp[G7,BF,KQ])]
 ·unfold DR;cases(zB s.length).all (IU s)<;>simp
 ·simp only[G7,Nw,Nx,AA,IU,Y hi,X,At,hi,decide_true,if_true];exact gV _ _ F (i:P) i rfl
theorem fO{s:H V}(h:s.length≤maxLen):JE s=G (DR s):=by
 unfold JE;rw[D6];rw[FF (L:=FN s) s.length (IU s) (G F) h (fun n i hi=> ?_) (fun n=>by simp[FN])]
 ·unfold DR KQ;simp only[X];cases(zB s.length).all (IU s)<;>cases(decide (1≤(s.length:P))&&decide ((s.length:P)≤8))<;>simp
 ·simp only[FN,M0,M1,AA,IU,Y hi,X,At,hi,decide_true,if_true];exact gV _ _ F (i:P) i rfl
theorem O3{R:Type}(p:U→Q)(f:U→R)(z:R):∀(k i:U),(zR i k).foldr (fun i r=>if p i=F then G (f i) else r) (G z)=G ((zR i k).foldr (fun i r=>if p i=F then f i else r) z)
 | 0,i=>by simp
 | k+1,i=>by
  rw[yL,yH,O3 p f z k (i+1),yH];cases p i<;>simp
def OC(xs:H X9)(s:H V)(i:U):Q:=match xs[i]? with
 | some x=>decide (x.Name=s)
 | none=>E
def OD(xs:H X9)(s:H V):P:=(zR 0 xs.length).foldr (fun i r=>if OC xs s i=F then(i:P) else r) (-1)
theorem A57{c:X6}{s:H V}(h:c.Points.length≤maxLen):NI c s=G (OD c.Points s):=by
 unfold NI;exact(IY (It s c) c.Points.length h (fun i r=>if OC c.Points s i=F then G (i:P) else r) (G (-1)) (fun n i hi=>by simp[It,AA,hi,OC]) (fun n=>by simp[It]) c.Points.length 0 bigN (by omega) (BG h)).trans (O3 _ _ _ _ _)
theorem xy{c:X6}{s:H V}(h:c.Points.length≤maxLen):Mc c s=G (OD c.Points s):=by
 unfold Mc;exact(IY (Hq s c) c.Points.length h (fun i r=>if OC c.Points s i=F then G (i:P) else r) (G (-1)) (fun n i hi=>by simp[Hq,AA,hi,OC]) (fun n=>by simp[Hq]) c.Points.length 0 bigN (by omega) (BG h)).trans (O3 _ _ _ _ _)
def jn(y:X3)(a b:P):Q:=(decide (y.A=a)&&decide (y.B=b)) || (decide (y.A=b)&&decide (y.B=a))
theorem A6e(y:X3)(a b:P):NV y a b=G (jn y a b):=by
 unfold NV jn;by_cases h1:y.A=a<;>by_cases h2:y.B=b<;>by_cases h3:y.A=b<;>by_cases h4:y.B=a<;>simp_all
theorem yf(y:X3)(a b:P):Mf y a b=G (jn y a b):=by
 unfold Mf jn;by_cases h1:y.A=a<;>by_cases h2:y.B=b<;>by_cases h3:y.A=b<;>by_cases h4:y.B=a<;>simp_all
theorem A68{xs:H P}{l:P}(h0:0≤l)(h1:l≤1048576)(hx:xs.length≤maxLen):∃r,N0 xs l=G r∧(0≤r→r≤l∧xs.length≤1048576):=by
 unfold N0;rw[AO] at hx
 rw[Az (by omega) (by omega)];by_cases h:l - (xs.length:P)<0
 ·exact⟨-1,by simp[h],by omega⟩
 ·exact⟨l - xs.length,by simp[h],by omega⟩
theorem KF(i n:P):BM i n=G (decide (0≤i)&&decide (i<n)):=by
 unfold BM;by_cases h:0≤i<;>simp[h]
def idx(i:P)(n:U):Q:=decide (0≤i)&&decide (i<(n:P))
theorem fV(i:P){n:U}(h:n≤1000):(decide (0≤i)&&decide (i≤yR .i64 ((n:P) - 1)))=idx i n:=by
 rw[Az (by omega) (by omega)];unfold idx;congr 1
 rw[zF];simp;omega
def DD(c:X6)(i:U):Q:=match c.Segments[i]? with
 | some x=>idx x.A c.Points.length&&(idx x.B c.Points.length&&(!(decide (x.A=x.B))&&((decide (0≤x.Depth)&&decide (x.Depth≤3000))&&((decide (1≤x.Minutes)&&decide (x.Minutes≤240))&& !((zB i).any fun j=>match c.Segments[j]? with | some y=>jn y x.A x.B | none=>E)))))
 | none=>E
def GD(c:X6)(i:U):Q:=match c.Points[i]? with
 | some x=>DR x.Name&&decide (OD c.Points x.Name=(i:P))
 | none=>E
def Bc(c:X6):Q:=decide (c.Points.length≤8)&&(decide (c.Segments.length≤10)&&((zB c.Points.length).all (GD c)&&(zB c.Segments.length).all (DD c)))
theorem EL{n i:U}(h:i≤n):bnd (n:P) (i:P) (0:P) n=G (0,i):=by
 unfold bnd;rw[if_pos ⟨by omega,by omega,by omega,by omega⟩];simp
theorem iz{α:Type}{l:H α}{i j:U}(hj:j<i):(l.take i)[j]?=l[j]?:=by simp[List.getElem?_take,hj]
theorem Fy{c:X6}(hn:∀x∈c.Points,x.Name.length≤maxLen):Dq c=G (Bc c):=by
 unfold Dq Bc;by_cases h1:c.Points.length≤8
 ·have h1':¬(8:P)<c.Points.length:=by omega
  by_cases h2:c.Segments.length≤10
  ·have h2':¬(10:P)<c.Segments.length:=by omega
   have hp:c.Points.length≤maxLen:=by rw[AO]; omega
   have hs:c.Segments.length≤maxLen:=by rw[AO]; omega
   have inner:Eg c bigN 0=G ((zB c.Segments.length).all (DD c)):=by
    rw[FF (L:=Eg c) c.Segments.length (DD c) (G F) hs (fun n i hi=> ?_) (fun n=>by simp[Eg])]
    ·cases(zB c.Segments.length).all (DD c)<;>rfl
    ·simp only[Eg,AA,Y hi,X,At,hi,decide_true,if_true,BF,fV _ (show c.Points.length≤1000 by omega),EL (Nat.le_of_lt hi),DD,List.drop_zero,Nat.sub_zero];have hl:(c.Segments.take i).length=i:=by simp; omega
     rw[hl]
     rw[YQ (L:=Ie c i c.Segments[i] (c.Segments.take i) (i:P) (Eg c n)) i (fun j=>match c.Segments[j]? with | some y=>jn y c.Segments[i].A c.Segments[i].B | none=>E)
      (Eg c n (yR .i64 ((i:P)+1))) (by omega) (fun m j hj=>by
       have hj2:j<c.Segments.length:=by omega
       simp only[Ie,AA,iz hj,Y hj2,X,At,hj,decide_true,if_true,A6e]) (fun m=>by simp[Ie])]
     have e:(c.Segments[i].A==c.Segments[i].B)=decide (c.Segments[i].A=c.Segments[i].B):=rfl;rw[e]
     cases idx c.Segments[i].A c.Points.length<;>cases idx c.Segments[i].B c.Points.length<;>cases decide (c.Segments[i].A=c.Segments[i].B)<;>cases(decide (0≤c.Segments[i].Depth)&&decide (c.Segments[i].Depth≤3000)) <;>
      cases(decide (1≤c.Segments[i].Minutes)&&decide (c.Segments[i].Minutes≤240))<;>cases((zB i).any fun j=>match c.Segments[j]? with | some y=>jn y c.Segments[i].A c.Segments[i].B | none=>E)<;>rfl
   rw[FF (L:=Ic c) c.Points.length (GD c) _ hp (fun n i hi=> ?_) (fun n=>by simp only[Ic,Int.lt_irrefl,decide_false,Z,if_false]; exact inner)]
   ·simp only[h1,h2,h1',h2',decide_true,decide_false,zD,Z,if_false];cases(zB c.Points.length).all (GD c)<;>rfl
   ·simp only[Ic,AA,Y hi,X,At,hi,decide_true,if_true,iG (hn _ (I hi)),A57 hp,GD];by_cases e:OD c.Points c.Points[i].Name=(i:P)<;>cases DR c.Points[i].Name<;>simp[e]
  ·have h2':(10:P)<c.Segments.length:=by omega
   simp[h1,h1',h2,h2']
 ·have h1':(8:P)<c.Points.length:=by omega
  simp[h1,h1']
theorem IM{c:X6}(hn:∀x∈c.Points,x.Name.length≤maxLen):DM c=G (Bc c):=by
 unfold DM Bc;by_cases h1:c.Points.length≤8
 ·have h1':¬(8:P)<c.Points.length:=by omega
  by_cases h2:c.Segments.length≤10
  ·have h2':¬(10:P)<c.Segments.length:=by omega
   have hp:c.Points.length≤maxLen:=by rw[AO]; omega
   have hs:c.Segments.length≤maxLen:=by rw[AO]; omega
   have inner:E9 c bigN 0=G ((zB c.Segments.length).all (DD c)):=by
    rw[FF (L:=E9 c) c.Segments.length (DD c) (G F) hs (fun n i hi=> ?_) (fun n=>by simp[E9])]
    ·cases(zB c.Segments.length).all (DD c)<;>rfl
    ·simp only[E9,AA,Y hi,X,At,hi,decide_true,if_true,D6,KF,show ∀(a:P) (n:U),(decide (0≤a)&&decide (a<(n:P)))=idx a n from fun _ _=>rfl,EL (Nat.le_of_lt hi),DD,List.drop_zero,Nat.sub_zero];have hl:(c.Segments.take i).length=i:=by simp; omega
     rw[hl]
     rw[YQ (L:=H9 c i c.Segments[i] (c.Segments.take i) (i:P) (E9 c n)) i (fun j=>match c.Segments[j]? with | some y=>jn y c.Segments[i].A c.Segments[i].B | none=>E)
      (E9 c n (yR .i64 ((i:P)+1))) (by omega) (fun m j hj=>by
       have hj2:j<c.Segments.length:=by omega
       simp only[H9,AA,iz hj,Y hj2,X,At,hj,decide_true,if_true,yf]) (fun m=>by simp[H9])]
     have e:(c.Segments[i].A==c.Segments[i].B)=decide (c.Segments[i].A=c.Segments[i].B):=rfl;rw[e]
     cases idx c.Segments[i].A c.Points.length<;>cases idx c.Segments[i].B c.Points.length<;>cases decide (c.Segments[i].A=c.Segments[i].B)<;>cases(decide (0≤c.Segments[i].Depth)&&decide (c.Segments[i].Depth≤3000)) <;>
      cases(decide (1≤c.Segments[i].Minutes)&&decide (c.Segments[i].Minutes≤240))<;>cases((zB i).any fun j=>match c.Segments[j]? with | some y=>jn y c.Segments[i].A c.Segments[i].B | none=>E)<;>rfl
   rw[FF (L:=H8 c) c.Points.length (GD c) _ hp (fun n i hi=> ?_) (fun n=>by simp only[H8,Int.lt_irrefl,decide_false,Z,if_false]; exact inner)]
   ·simp only[h1,h2,h1',h2',decide_true,decide_false,zD,Z,if_false];cases(zB c.Points.length).all (GD c)<;>rfl
   ·simp only[H8,AA,Y hi,X,At,hi,decide_true,if_true,fO (hn _ (I hi)),xy hp,GD];by_cases e:OD c.Points c.Points[i].Name=(i:P)<;>cases DR c.Points[i].Name<;>simp[e]
  ·have h2':(10:P)<c.Segments.length:=by omega
   simp[h1,h1',h2,h2']
 ·have h1':(8:P)<c.Points.length:=by omega
  simp[h1,h1']
theorem A73{xs:H X9}(h:xs.length≤1048576):Nh xs=G xs:=by
 unfold Nh;rw[DU h (by omega)];have:=EO (L:=I5 xs) xs id (DS h) (fun n i acc hi ha=>by simp[I5,AA,hi,ha,Se]) (fun n acc=>by simp[I5]) (zA xs.length ⟨[],E⟩) (by simp);simpa using this
theorem A74{xs:H X3}(h:xs.length≤1048576):Ni xs=G xs:=by
 unfold Ni;rw[DU h (by omega)];have:=EO (L:=I6 xs) xs id (DS h) (fun n i acc hi ha=>by simp[I6,AA,hi,ha,Sg]) (fun n acc=>by simp[I6]) (zA xs.length ⟨0,0,0,0,E⟩) (by simp);simpa using this
theorem A7t{c:X6}(h1:c.Points.length≤1048576)(h2:c.Segments.length≤1048576):Na c=G c:=by
 simp[Na,A73 h1,A74 h2]
theorem uI(x y:X9):MO x y=G (decide (x=y)):=by
 unfold MO;cases x; cases y;simp only[X9.mk.injEq];repeat' split
 all_goals simp_all
theorem uH{xs ys:H X9}(h:xs.length≤maxLen):MP xs ys=G (decide (xs=ys)):=by
 unfold MP;by_cases hl:xs.length=ys.length
 ·have:=H7 (L:=HP xs ys) xs ys h hl (fun n i h1 h2=>by simp[HP,AA,h1,h2,uI]) (fun n=>by simp[HP]);simp[hl,this]
 ·have:¬(xs.length:P)=ys.length:=by omega
  have:xs≠ys:=fun e=>hl (by rw[e])
  simp_all
theorem uK(x y:X3):MQ x y=G (decide (x=y)):=by
 unfold MQ;cases x; cases y;simp only[X3.mk.injEq];repeat' split
 all_goals simp_all
theorem uJ{xs ys:H X3}(h:xs.length≤maxLen):MR xs ys=G (decide (xs=ys)):=by
 unfold MR;by_cases hl:xs.length=ys.length
 ·have:=H7 (L:=HQ xs ys) xs ys h hl (fun n i h1 h2=>by simp[HQ,AA,h1,h2,uK]) (fun n=>by simp[HQ]);simp[hl,this]
 ·have:¬(xs.length:P)=ys.length:=by omega
  have:xs≠ys:=fun e=>hl (by rw[e])
  simp_all
theorem tr{c:X6}(h1:c.Points.length≤maxLen)(h2:c.Segments.length≤maxLen):ME c c=G F:=by
 simp[ME,uH h1,uJ h2]
theorem A7d{x:X9}{l:P}(h0:0≤l)(h1:l≤1048576)(hx:x.Name.length≤maxLen):∃r,N4 x l=G r∧(0≤r→r≤l):=by
 unfold N4;rw[AO] at hx
 rw[Az (by omega) (by omega)];by_cases h:l - (x.Name.length:P)<0
 ·exact⟨-1,by simp[h],by omega⟩
 ·exact⟨l - x.Name.length,by simp[h],by omega⟩
theorem A7c{xs:H X9}{l:P}(h0:0≤l)(h1:l≤1048576)(hx:xs.length≤maxLen)(hn:∀x∈xs,x.Name.length≤maxLen):∃r,N5 xs l=G r∧(0≤r→r≤l∧xs.length≤1048576):=by
 unfold N5;have hx':=hx;rw[AO] at hx'
 rw[Az (by omega) (by omega)];by_cases h:l - (xs.length:P)<0
 ·exact⟨-1,by simp[h],by omega⟩
 ·have key:∀(k i n:U) (v:P),i+k=xs.length→k<n→0≤v→v≤l→∃r,G0 xs n v (i:P)=G r∧(0≤r→r≤l):=by
   intro k
   induction k with
   | zero=>
    intro i n v hi hn2 hv hv2;obtain⟨m,rfl⟩:∃m,n=m+1:=⟨n - 1,by omega⟩;have:i=xs.length:=by omega
    subst this;exact⟨v,by simp[G0],fun _=>hv2⟩
   | succ k ih=>
    intro i n v hi hn2 hv hv2;obtain⟨m,rfl⟩:∃m,n=m+1:=⟨n - 1,by omega⟩;have hlt:i<xs.length:=by omega
    obtain⟨r,e,hr⟩:=A7d (x:=xs[i]) hv (by omega) (hn _ (I hlt));by_cases hr0:r<0
    ·exact⟨-1,by simp[G0,AA,hlt,e,hr0],by omega⟩
    ·obtain⟨r2,e2,h2⟩:=ih (i+1) m r (by omega) (by omega) (by omega) (by have:=hr (by omega); omega);refine⟨r2,?_,h2⟩;rw[← AS hlt hx] at e2
     simp only[G0,AA,Y hlt,X,At,hlt,decide_true,if_true,e,hr0,decide_false,Z,if_false];exact e2
  obtain⟨r,e,hr⟩:=key xs.length 0 bigN (l - xs.length) (by omega) (BG hx) (by omega) (by omega);refine⟨r,?_,fun h=>⟨hr h,by omega⟩⟩;simp only[h,decide_false,Z,if_false];exact e
theorem A7e{xs:H X3}{l:P}(h0:0≤l)(h1:l≤1048576)(hx:xs.length≤maxLen):∃r,N6 xs l=G r∧(0≤r→r≤l∧xs.length≤1048576):=by
 unfold N6;rw[AO] at hx
 rw[Az (by omega) (by omega)];by_cases h:l - (xs.length:P)<0
 ·exact⟨-1,by simp[h],by omega⟩
 ·exact⟨l - xs.length,by simp[h],by omega⟩
theorem A65{c:X6}{l:P}(h0:0≤l)(h1:l≤1048576)(hp:c.Points.length≤maxLen)(hs:c.Segments.length≤maxLen)(hn:∀x∈c.Points,x.Name.length≤maxLen) :
  ∃r,MX c l=G r∧(0≤r→r≤l∧c.Points.length≤1048576∧c.Segments.length≤1048576):=by
 unfold MX;obtain⟨r,e,h⟩:=A7c h0 h1 hp hn;by_cases hr:r<0
 ·exact⟨-1,by simp[e,hr],by omega⟩
 ·obtain⟨k1,k2⟩:=h (by omega);obtain⟨r',e',h'⟩:=A7e (xs:=c.Segments) (l:=r) (by omega) (by omega) hs;by_cases hr':r'<0
  ·exact⟨-1,by simp[e,hr,e',hr'],by omega⟩
  ·obtain⟨k3,k4⟩:=h' (by omega);exact⟨r',by simp[e,hr,e',hr'],fun _=>⟨by omega,k2,k4⟩⟩
def CG(s:X5):Q:=DR s.Name&&((decide (10≤s.Length)&&decide (s.Length≤400))&&((decide (100≤s.Draught)&&decide (s.Draught≤2000))&&((decide (0≤s.Line)&&decide (s.Line≤3))&&(decide (0≤s.Tugs)&&decide (s.Tugs≤4)))))
theorem fL(a b:Q):(if a=F then G b else G E)=G (a&&b):=by cases a<;>rfl
theorem J1{s:X5}(h:s.Name.length≤maxLen):Dr s=G (CG s):=by
 simp only[Dr,iG h,BF,X,fL,CG]
theorem Gs{s:X5}(h:s.Name.length≤maxLen):Ea s=G (CG s):=by
 have e:(decide (0≤s.Line)&&decide (s.Line<4))=(decide (0≤s.Line)&&decide (s.Line≤3)):=by
  congr 1
  rw[zF]; simp; omega
 simp only[Ea,fO h,D6,KF,X,fL,CG,e]
def OI(xs:H X5)(s:H V)(i:U):Q:=match xs[i]? with
 | some x=>decide (x.Name=s)
 | none=>E
def OJ(xs:H X5)(s:H V):P:=(zR 0 xs.length).foldr (fun i r=>if OI xs s i=F then(i:P) else r) (-1)
theorem A58{xs:H X5}{s:H V}(h:xs.length≤maxLen):NL xs s=G (OJ xs s):=by
 unfold NL;exact(IY (Iz s xs) xs.length h (fun i r=>if OI xs s i=F then G (i:P) else r) (G (-1)) (fun n i hi=>by simp[Iz,AA,hi,OI]) (fun n=>by simp[Iz]) xs.length 0 bigN (by omega) (BG h)).trans (O3 _ _ _ _ _)
theorem xz{xs:H X5}{s:H V}(h:xs.length≤maxLen):Mg xs s=G (OJ xs s):=by
 unfold Mg;exact(IY (Hu s xs) xs.length h (fun i r=>if OI xs s i=F then G (i:P) else r) (G (-1)) (fun n i hi=>by simp[Hu,AA,hi,OI]) (fun n=>by simp[Hu]) xs.length 0 bigN (by omega) (BG h)).trans (O3 _ _ _ _ _)
def Kv(xs:H X5)(i:U):Q:=match xs[i]? with
 | some x=>CG x&&decide (OJ xs x.Name=(i:P))
 | none=>E
def Du(xs:H X5):Q:=decide (xs.length≤6)&&(zB xs.length).all (Kv xs)
theorem Jl(a b:P):(a !=b)= !decide (a=b):=rfl
theorem iE{xs:H X5}(hn:∀x∈xs,x.Name.length≤maxLen):Kb xs=G (Du xs):=by
 unfold Kb Du;by_cases h:xs.length≤6
 ·have h':¬(6:P)<xs.length:=by omega
  have hm:xs.length≤maxLen:=by rw[AO]; omega
  simp only[h,h',decide_true,decide_false,Z,if_false,zD];refine La (L:=Ij xs) xs.length (Kv xs) hm (fun n i hi=> ?_) (fun n=>by simp[Ij]);simp only[Ij,At,hi,decide_true,if_true,Aw hi,X,J1 (hn _ (I hi)),A58 hm,Kv,Y hi,Jl];cases CG xs[i]<;>by_cases e:OJ xs xs[i].Name=(i:P)<;>simp[e]
 ·have h':(6:P)<xs.length:=by omega
  simp[h,h']
theorem fM{xs:H X5}(hn:∀x∈xs,x.Name.length≤maxLen):JC xs=G (Du xs):=by
 unfold JC Du;by_cases h:xs.length≤6
 ·have h':¬(6:P)<xs.length:=by omega
  have hm:xs.length≤maxLen:=by rw[AO]; omega
  simp only[h,h',decide_true,decide_false,Z,if_false,zD];refine La (L:=He xs) xs.length (Kv xs) hm (fun n i hi=> ?_) (fun n=>by simp[He]);simp only[He,At,hi,decide_true,if_true,Aw hi,X,Gs (hn _ (I hi)),xz hm,Kv,Y hi,Jl];cases CG xs[i]<;>by_cases e:OJ xs xs[i].Name=(i:P)<;>simp[e]
 ·have h':(6:P)<xs.length:=by omega
  simp[h,h']
theorem Kw{xs:H X5}(h:Du xs=F):xs.length≤6∧∀x∈xs,CG x=F:=by
 simp only[Du,C,decide_eq_true_eq,zN,yQ] at h;refine⟨h.1,fun x hx=> ?_⟩;obtain⟨i,hi,rfl⟩:=zQ hx;have:=h.2 i hi;simp only[Kv,Y hi,C] at this
 exact this.1
def Bn(x:X3)(s:X5):P:=if s.Slow=F then yR .i64 (2*x.Minutes) else x.Minutes
theorem OL(x:X3)(s:X5):Fe x s=G (Bn x s):=by unfold Fe Bn; split<;>rfl
theorem O8(x:X3)(s:X5):ET s x=G (Bn x s):=by unfold ET Bn; split<;>rfl
def B0(c:X6)(i:P):X3:=c.Segments[i.toNat]?.getD ⟨0,0,0,0,E⟩
def BZ(l:H X5)(i:P):X5:=l[i.toNat]?.getD ⟨[],0,0,0,0,E⟩
theorem SQ{α:Type}{l:H α}{i:P}(d:α)(h:idx i l.length=F):ix l i=G (l[i.toNat]?.getD d)∧l[i.toNat]?.getD d∈l:=by
 simp only[idx,C,decide_eq_true_eq] at h;obtain⟨k,rfl⟩:∃k:U,i=(k:P):=⟨i.toNat,by omega⟩;have hk:k<l.length:=by omega
 have e:l[((k:U):P).toNat]?.getD d=l[k]:=by simp[hk]
 rw[Aw hk,e];exact⟨rfl,I hk⟩
theorem C5{c:X6}{i:P}(h:idx i c.Segments.length=F):ix c.Segments i=G (B0 c i)∧B0 c i∈c.Segments:=SQ _ h
theorem IP{l:H X5}{i:P}(h:idx i l.length=F):ix l i=G (BZ l i)∧BZ l i∈l:=SQ _ h
theorem Dv(i:P){n:U}(h:n≤1000):AM i 0 (yR .i64 ((n:P) - 1))=G (idx i n):=by rw[BF,fV i h]
theorem Em(i:P)(n:U):BM i (n:P)=G (idx i n):=KF i n
theorem A75{xs:H X5}(h:xs.length≤1048576):Nj xs=G xs:=by
 unfold Nj;rw[DU h (by omega)];have:=EO (L:=I7 xs) xs id (DS h) (fun n i acc hi ha=>by simp[I7,AA,hi,ha,Sh]) (fun n acc=>by simp[I7]) (zA xs.length ⟨[],0,0,0,0,E⟩) (by simp);simpa using this
theorem uM(x y:X5):MS x y=G (decide (x=y)):=by
 unfold MS;cases x; cases y;simp only[X5.mk.injEq];repeat' split
 all_goals simp_all
theorem uL{xs ys:H X5}(h:xs.length≤maxLen):MT xs ys=G (decide (xs=ys)):=by
 unfold MT;by_cases hl:xs.length=ys.length
 ·have:=H7 (L:=HR xs ys) xs ys h hl (fun n i h1 h2=>by simp[HR,AA,h1,h2,uM]) (fun n=>by simp[HR]);simp[hl,this]
 ·have:¬(xs.length:P)=ys.length:=by omega
  have:xs≠ys:=fun e=>hl (by rw[e])
  simp_all
theorem A7g{x:X5}{l:P}(h0:0≤l)(h1:l≤1048576)(hx:x.Name.length≤maxLen):∃r,N7 x l=G r∧(0≤r→r≤l):=by
 unfold N7;rw[AO] at hx
 rw[Az (by omega) (by omega)];by_cases h:l - (x.Name.length:P)<0
 ·exact⟨-1,by simp[h],by omega⟩
 ·exact⟨l - x.Name.length,by simp[h],by omega⟩
theorem A7f{xs:H X5}{l:P}(h0:0≤l)(h1:l≤1048576)(hx:xs.length≤maxLen)(hn:∀x∈xs,x.Name.length≤maxLen):∃r,N8 xs l=G r∧(0≤r→r≤l∧xs.length≤1048576):=by
 unfold N8;have hx':=hx;rw[AO] at hx'
 rw[Az (by omega) (by omega)];by_cases h:l - (xs.length:P)<0
 ·exact⟨-1,by simp[h],by omega⟩
 ·have key:∀(k i n:U) (v:P),i+k=xs.length→k<n→0≤v→v≤l→∃r,G1 xs n v (i:P)=G r∧(0≤r→r≤l):=by
   intro k
   induction k with
   | zero=>
    intro i n v hi hn2 hv hv2;obtain⟨m,rfl⟩:∃m,n=m+1:=⟨n - 1,by omega⟩;have:i=xs.length:=by omega
    subst this;exact⟨v,by simp[G1],fun _=>hv2⟩
   | succ k ih=>
    intro i n v hi hn2 hv hv2;obtain⟨m,rfl⟩:∃m,n=m+1:=⟨n - 1,by omega⟩;have hlt:i<xs.length:=by omega
    obtain⟨r,e,hr⟩:=A7g (x:=xs[i]) hv (by omega) (hn _ (I hlt));by_cases hr0:r<0
    ·exact⟨-1,by simp[G1,AA,hlt,e,hr0],by omega⟩
    ·obtain⟨r2,e2,h2⟩:=ih (i+1) m r (by omega) (by omega) (by omega) (by have:=hr (by omega); omega);refine⟨r2,?_,h2⟩;rw[← AS hlt hx] at e2
     simp only[G1,AA,Y hlt,X,At,hlt,decide_true,if_true,e,hr0,decide_false,Z,if_false];exact e2
  obtain⟨r,e,hr⟩:=key xs.length 0 bigN (l - xs.length) (by omega) (BG hx) (by omega) (by omega);refine⟨r,?_,fun h=>⟨hr h,by omega⟩⟩;simp only[h,decide_false,Z,if_false];exact e
theorem A5v{xs:H X5}(ok:(D.sl (zX X5.row xs)).Ok):xs.length≤maxLen∧∀x∈xs,x.Name.length≤maxLen:=
 ⟨Er ok,fun x hx=>(ok.sl.2 (X5.row x) (yI hx) (.str x.Name) (by simp[X5.row_eq])).str⟩
def Fv(p:P):Q:=(decide (4≤p)&&decide (p≤2880))&&(yR .i64 (zS p 4)==0)
def GC(x:Xd):Q:=(decide (0≤x.Amp)&&decide (x.Amp≤1000))&&(Fv x.Period&&(decide (0≤x.Phase)&&decide (x.Phase≤yR .i64 (x.Period - 1))))
def EB(t:Xi):Q:=(decide (-1000≤t.Mean)&&decide (t.Mean≤1000))&&(decide (t.Parts.length≤4)&&t.Parts.all GC)
theorem A56(x:Xd):NC x=G (GC x):=by
 simp only[NC,BF,X,GC,Fv];cases(decide (0≤x.Amp)&&decide (x.Amp≤1000))<;>cases(decide (4≤x.Period)&&decide (x.Period≤2880))<;>cases(yR .i64 (zS x.Period 4)==0)<;>rfl
theorem fm(p:P):JO p=G (Fv p):=by
 simp only[JO,D6,X,Fv];cases(decide (4≤p)&&decide (p≤2880))<;>rfl
theorem xw(x:Xd):M9 x=G (GC x):=by
 simp only[M9,D6,fm,X,GC];cases(decide (0≤x.Amp)&&decide (x.Amp≤1000))<;>cases Fv x.Period<;>rfl
theorem A6a(t:Xi):NO t=G (EB t):=by
 simp only[NO,BF,X,EB];cases(decide (-1000≤t.Mean)&&decide (t.Mean≤1000)) with
 | false=>rfl
 | true=>
  by_cases h1:t.Parts.length≤4
  ·have h1':¬(4:P)<t.Parts.length:=by omega
   rw[EH (L:=IA t) t.Parts GC (by rw[AO]; omega) (fun n i hi=>by simp only[IA,AA,Y hi,X,At,hi,decide_true,if_true,A56]) (fun n=>by simp[IA])];simp[h1,h1']
  ·have h1':(4:P)<t.Parts.length:=by omega
   simp[h1,h1']
theorem yb(t:Xi):Mj t=G (EB t):=by
 simp only[Mj,D6,X,EB];cases(decide (-1000≤t.Mean)&&decide (t.Mean≤1000)) with
 | false=>rfl
 | true=>
  by_cases h1:t.Parts.length≤4
  ·have h1':¬(4:P)<t.Parts.length:=by omega
   rw[EH (L:=Hv t) t.Parts GC (by rw[AO]; omega) (fun n i hi=>by simp only[Hv,AA,Y hi,X,At,hi,decide_true,if_true,xw]) (fun n=>by simp[Hv])];simp[h1,h1']
  ·have h1':(4:P)<t.Parts.length:=by omega
   simp[h1,h1']
def Fz(x:Xb):Q:=(decide (0≤x.From)&&decide (x.From≤2880))&&((decide (-500≤x.Low)&&decide (x.Low≤500))&&(decide (x.Low≤x.High)&&decide (x.High≤500)))
theorem A59(x:Xb):NN x=G (Fz x):=by
 simp only[NN,BF,X,Fz];cases(decide (0≤x.From)&&decide (x.From≤2880))<;>cases(decide (-500≤x.Low)&&decide (x.Low≤500))<;>rfl
theorem ya(x:Xb):Mi x=G (Fz x):=by
 simp only[Mi,Gt,X,Fz];cases(decide (0≤x.From)&&decide (x.From≤2880))
 ·rfl
 ·by_cases a1: -500≤x.Low<;>by_cases a2:x.Low≤x.High<;>by_cases a3:x.High≤500<;>by_cases a4:x.Low≤500<;>simp[a1,a2,a3,a4]
  omega
def J2(l:H Xb)(i:U):Q:=match l[i]? with
 | some x=>Fz x&&(match i with | 0=>F | j+1=>match l[j]? with | some y=> !(decide (x.From≤y.From)) | none=>E)
 | none=>E
def XJ(l:H Xb):Q:=match l[0]? with
 | some x=>decide (x.From=0)
 | none=>E
def D9(f:Xc):Q:=EB f.Tide&&((decide (1≤(f.Surges.length:P))&&decide ((f.Surges.length:P)≤6))&&(XJ f.Surges&&(zB f.Surges.length).all (J2 f.Surges)))
theorem kf(j:U)(h:j≤1000):yR .i64 (((j+1:U):P) - 1)=(j:P):=by
 rw[Az (by omega) (by omega)];omega
theorem XE(f:Xc):Ik f=G (D9 f):=by
 simp only[Ik,A6a,BF,X,D9];cases EB f.Tide with
 | false=>rfl
 | true=>
  cases hb:(decide (1≤(f.Surges.length:P))&&decide ((f.Surges.length:P)≤6)) with
  | false=>rfl
  | true=>
   simp only[C,decide_eq_true_eq] at hb
   have h0:0<f.Surges.length:=by omega
   have hl:f.Surges.length≤maxLen:=by rw[AO]; omega
   rw[FF (L:=G5 f) f.Surges.length (J2 f.Surges) (G F) hl (fun n i hi=> ?_) (fun n=>by simp[G5])]
   ·have e0:ix f.Surges 0=G f.Surges[0]:=Aw h0;simp only[e0,X,XJ,Y h0,zD,if_true];by_cases e:f.Surges[0].From=0<;>cases(zB f.Surges.length).all (J2 f.Surges)<;>simp[e]
   ·simp only[G5,AA,Y hi,X,At,hi,decide_true,if_true,A59,J2];cases i with
    | zero=>cases Fz f.Surges[0]<;>simp
    | succ j=>
     have hj:j<f.Surges.length:=by omega
     rw[kf j (by omega)];simp only[AA,Y hj,X];have hp:(0:P)<((j+1:U):P):=by omega
     cases Fz f.Surges[j+1]<;>cases decide (f.Surges[j+1].From≤f.Surges[j].From)<;>simp
theorem O7(f:Xc):FL f=G (D9 f):=by
 simp only[FL,yb,D6,X,D9];cases EB f.Tide with
 | false=>rfl
 | true=>
  cases hb:(decide (1≤(f.Surges.length:P))&&decide ((f.Surges.length:P)≤6)) with
  | false=>rfl
  | true=>
   simp only[C,decide_eq_true_eq] at hb
   have h0:0<f.Surges.length:=by omega
   have hl:f.Surges.length≤maxLen:=by rw[AO]; omega
   rw[FF (L:=FM f) f.Surges.length (J2 f.Surges) (G F) hl (fun n i hi=> ?_) (fun n=>by simp[FM])]
   ·have e0:ix f.Surges 0=G f.Surges[0]:=Aw h0;simp only[e0,X,XJ,Y h0,zD,if_true];by_cases e:f.Surges[0].From=0<;>cases(zB f.Surges.length).all (J2 f.Surges)<;>simp[e]
   ·simp only[FM,AA,Y hi,X,At,hi,decide_true,if_true,ya,J2];cases i with
    | zero=>cases Fz f.Surges[0]<;>simp
    | succ j=>
     have hj:j<f.Surges.length:=by omega
     rw[kf j (by omega)];simp only[AA,Y hj,X];have hp:(0:P)<((j+1:U):P):=by omega
     cases Fz f.Surges[j+1]<;>cases decide (f.Surges[j+1].From≤f.Surges[j].From)<;>simp
def Cq(m:P):Q:=decide (0≤m)&&decide (m≤2880)
theorem A71{xs:H Xd}(h:xs.length≤1048576):Nf xs=G xs:=by
 unfold Nf;rw[DU h (by omega)];have:=EO (L:=I3 xs) xs id (DS h) (fun n i acc hi ha=>by simp[I3,AA,hi,ha,Sc]) (fun n acc=>by simp[I3]) (zA xs.length ⟨0,0,0⟩) (by simp);simpa using this
theorem A76{xs:H Xb}(h:xs.length≤1048576):Nk xs=G xs:=by
 unfold Nk;rw[DU h (by omega)];have:=EO (L:=I8 xs) xs id (DS h) (fun n i acc hi ha=>by simp[I8,AA,hi,ha,Si]) (fun n acc=>by simp[I8]) (zA xs.length ⟨0,0,0⟩) (by simp);simpa using this
theorem A7w{f:Xc}(h1:f.Tide.Parts.length≤1048576)(h2:f.Surges.length≤1048576):Nb f=G f:=by
 simp[Nb,Sj,A71 h1,A76 h2]
theorem uE(x y:Xd):MK x y=G (decide (x=y)):=by
 unfold MK;cases x; cases y;simp only[Xd.mk.injEq];repeat' split
 all_goals simp_all
theorem uD{xs ys:H Xd}(h:xs.length≤maxLen):ML xs ys=G (decide (xs=ys)):=by
 unfold ML;by_cases hl:xs.length=ys.length
 ·have:=H7 (L:=HN xs ys) xs ys h hl (fun n i h1 h2=>by simp[HN,AA,h1,h2,uE]) (fun n=>by simp[HN]);simp[hl,this]
 ·have:¬(xs.length:P)=ys.length:=by omega
  have:xs≠ys:=fun e=>hl (by rw[e])
  simp_all
theorem uP(x y:Xb):MU x y=G (decide (x=y)):=by
 unfold MU;cases x; cases y;simp only[Xb.mk.injEq];repeat' split
 all_goals simp_all
theorem uO{xs ys:H Xb}(h:xs.length≤maxLen):MV xs ys=G (decide (xs=ys)):=by
 unfold MV;by_cases hl:xs.length=ys.length
 ·have:=H7 (L:=HT xs ys) xs ys h hl (fun n i h1 h2=>by simp[HT,AA,h1,h2,uP]) (fun n=>by simp[HT]);simp[hl,this]
 ·have:¬(xs.length:P)=ys.length:=by omega
  have:xs≠ys:=fun e=>hl (by rw[e])
  simp_all
theorem tu{f:Xc}(h1:f.Tide.Parts.length≤maxLen)(h2:f.Surges.length≤maxLen):MF f f=G F:=by
 simp[MF,S4,uD h1,uO h2]
theorem A7b{xs:H Xd}{l:P}(h0:0≤l)(h1:l≤1048576)(hx:xs.length≤maxLen):∃r,N3 xs l=G r∧(0≤r→r≤l∧xs.length≤1048576):=by
 unfold N3;rw[AO] at hx
 rw[Az (by omega) (by omega)];by_cases h:l - (xs.length:P)<0
 ·exact⟨-1,by simp[h],by omega⟩
 ·exact⟨l - xs.length,by simp[h],by omega⟩
theorem A7h{xs:H Xb}{l:P}(h0:0≤l)(h1:l≤1048576)(hx:xs.length≤maxLen):∃r,N9 xs l=G r∧(0≤r→r≤l∧xs.length≤1048576):=by
 unfold N9;rw[AO] at hx
 rw[Az (by omega) (by omega)];by_cases h:l - (xs.length:P)<0
 ·exact⟨-1,by simp[h],by omega⟩
 ·exact⟨l - xs.length,by simp[h],by omega⟩
theorem A66{f:Xc}{l:P}(h0:0≤l)(h1:l≤1048576)(hp:f.Tide.Parts.length≤maxLen)(hs:f.Surges.length≤maxLen) :
  ∃r,MY f l=G r∧(0≤r→r≤l∧f.Tide.Parts.length≤1048576∧f.Surges.length≤1048576):=by
 unfold MY S9;obtain⟨r,e,h⟩:=A7b h0 h1 hp;by_cases hr:r<0
 ·exact⟨-1,by simp[e,hr],by omega⟩
 ·obtain⟨k1,k2⟩:=h (by omega);obtain⟨r',e',h'⟩:=A7h (xs:=f.Surges) (l:=r) (by omega) (by omega) hs;by_cases hr':r'<0
  ·exact⟨-1,by simp[e,hr,e',hr'],by omega⟩
  ·obtain⟨k3,k4⟩:=h' (by omega);exact⟨r',by simp[e,hr,e',hr'],fun _=>⟨by omega,k2,k4⟩⟩
def EP(w:Xj):Q:=(decide (0≤w.Tugs)&&decide (w.Tugs≤12))&&((decide (0≤w.Pilots)&&decide (w.Pilots≤12))&&(Cq w.Rest&&(decide (w.Moves.length=64)&&w.Moves.all fun x=>decide (0≤x)&&decide (x≤240))))
theorem SM(a b:Q):(if a=F then G b else G E)=G (a&&b):=by cases a<;>rfl
theorem gT{l:H P}(h:l.length≤maxLen):Gk l bigN 0=G (l.all fun x=>decide (0≤x)&&decide (x≤240)):=
 EH (L:=Gk l) l _ h (fun n i hi=>by simp[Gk,AA,hi,BF]) (fun n=>by simp[Gk])
theorem gS{l:H P}(h:l.length≤maxLen):FV l bigN 0=G (l.all fun x=>decide (0≤x)&&decide (x≤240)):=
 EH (L:=FV l) l _ h (fun n i hi=>by simp[FV,AA,hi,D6]) (fun n=>by simp[FV])
theorem XD{w:Xj}(h:w.Moves.length≤maxLen):Ig w=G (EP w):=by
 simp only[Ig,Gj,BF,X,gT h,EP,Cq];by_cases e:w.Moves.length=64
 ·have e':((w.Moves.length:P) !=64)=E:=by simp; omega
  simp only[e,e',Z,if_false,decide_true,zD];cases(decide (0≤w.Tugs)&&decide (w.Tugs≤12))<;>cases(decide (0≤w.Pilots)&&decide (w.Pilots≤12))<;>cases(decide (0≤w.Rest)&&decide (w.Rest≤2880))<;>rfl
 ·have e':((w.Moves.length:P) !=64)=F:=by simp; omega
  simp only[e,e',if_true,decide_false,Bool.false_and,Bool.and_false];cases(decide (0≤w.Tugs)&&decide (w.Tugs≤12))<;>cases(decide (0≤w.Pilots)&&decide (w.Pilots≤12))<;>cases(decide (0≤w.Rest)&&decide (w.Rest≤2880))<;>rfl
theorem xr{w:Xj}(h:w.Moves.length≤maxLen):LV w=G (EP w):=by
 simp only[LV,FU,D6,Gt,X,gS h,EP,Cq];by_cases e:w.Moves.length=64
 ·have e':((w.Moves.length:P) !=64)=E:=by simp; omega
  simp only[e,e',Z,if_false,decide_true,zD,X];cases(decide (0≤w.Tugs)&&decide (w.Tugs≤12))<;>cases(decide (0≤w.Pilots)&&decide (w.Pilots≤12))<;>cases(decide (0≤w.Rest)&&decide (w.Rest≤2880))<;>rfl
 ·have e':((w.Moves.length:P) !=64)=F:=by simp; omega
  simp only[e,e',if_true,decide_false,Bool.false_and,Bool.and_false,X];cases(decide (0≤w.Tugs)&&decide (w.Tugs≤12))<;>cases(decide (0≤w.Pilots)&&decide (w.Pilots≤12))<;>cases(decide (0≤w.Rest)&&decide (w.Rest≤2880))<;>rfl
def IZ(r:Xg):Q:=decide (0≤r.Gap)&&decide (r.Gap≤60)
def BQ(h:X7):Q:=D9 h.Forecast&&(Bc h.Chart&&(Du h.Fleet&&(IZ h.Regime&&EP h.Crew)))
structure HSmall (h:X7):Prop where
 pn:∀x∈h.Chart.Points,x.Name.length≤maxLen
 fn:∀x∈h.Fleet,x.Name.length≤maxLen
 mv:h.Crew.Moves.length≤maxLen
theorem iF{h:X7}(s:HSmall h):Kg h=G (BQ h):=by
 simp only[Kg,Iu,XE,Fy s.pn,iE s.fn,XD s.mv,BF,X,SM,BQ,IZ]
theorem fN{h:X7}(s:HSmall h):JD h=G (BQ h):=by
 simp only[JD,RP,O7,IM s.pn,fM s.fn,xr s.mv,D6,X,SM,BQ,IZ]
theorem Fx{c:X6}(h:Bc c=F):c.Points.length≤8∧c.Segments.length≤10∧∀x∈c.Segments,0≤x.Depth∧x.Depth≤3000∧1≤x.Minutes∧x.Minutes≤240:=by
 simp only[Bc,C,decide_eq_true_eq,zN,yQ] at h;obtain⟨h1,h2,h3,h4⟩:=h;refine⟨h1,h2,fun x hx=> ?_⟩;obtain⟨i,hi,rfl⟩:=zQ hx;have:=h4 i hi;simp only[DD,Y hi,C,decide_eq_true_eq] at this
 omega
def Cb(c:X6)(fl:H X5)(p:X1):Q:=idx p.Ship fl.length&&(idx p.Segment c.Segments.length&&(Cq p.Start&&(decide (p.End≤2880)&&decide (p.End=yR .i64 (p.Start+Bn (B0 c p.Segment) (BZ fl p.Ship))))))
theorem iH{c:X6}{s:X5}{i:P}(hn:∀x∈c.Points,x.Name.length≤maxLen)(hs:s.Name.length≤maxLen)(h1:Bc c=F)(h2:CG s=F)(h3:idx i c.Segments.length=F):Kj c i s=G (Bn (B0 c i) s):=by
 have:=(Fx h1).2.1;unfold Kj;simp only[Fy hn,J1 hs,h1,h2,X,if_true,Dv i (show c.Segments.length≤1000 by omega),h3,(C5 h3).1,OL]
theorem iI{c:X6}{fl:H X5}{p:X1}(hn:∀x∈c.Points,x.Name.length≤maxLen)(hf:∀x∈fl,x.Name.length≤maxLen)(h1:Bc c=F)(h2:Du fl=F):Km c fl p=G (Cb c fl p):=by
 unfold Km;simp only[Fy hn,iE hf,X,h1,h2];have s1:=(Fx h1).2.1;have s2:=(Kw h2).1;simp only[if_true,Dv p.Ship (show fl.length≤1000 by omega),Dv p.Segment (show c.Segments.length≤1000 by omega),X,BF,Cb,Cq];cases h3:idx p.Ship fl.length with
 | false=>simp
 | true=>
  cases h4:idx p.Segment c.Segments.length with
  | false=>simp
  | true=>
   cases h5:decide (0≤p.Start)&&decide (p.Start≤2880) with
   | false=>simp
   | true=>
    have hsh:=(Kw h2).2 _ (IP h3).2;simp only[if_true,zD,(IP h3).1,X,iH hn (hf _ (IP h3).2) h1 hsh h4];by_cases e:p.End=yR .i64 (p.Start+Bn (B0 c p.Segment) (BZ fl p.Ship))<;>simp[e]
theorem yh{c:X6}{fl:H X5}{p:X1}:Mw c fl p=G (Cb c fl p):=by
 unfold Mw;simp only[Em,X,Gt,Cb,Cq];cases h3:idx p.Ship fl.length with
 | false=>simp
 | true=>
  cases h4:idx p.Segment c.Segments.length with
  | false=>simp
  | true=>
   cases h5:decide (0≤p.Start)&&decide (p.Start≤2880) with
   | false=>simp
   | true=>
    simp only[if_true,zD,(IP h3).1,(C5 h4).1,X,O8];have e0:decide (2880<p.End)= !decide (p.End≤2880):=by rw[zF]; simp
    rw[e0];cases decide (p.End≤2880)<;>simp;rfl
theorem DA{c:X6}{fl:H X5}{p:X1}(hc:Bc c=F)(h:Cb c fl p=F):idx p.Ship fl.length=F∧idx p.Segment c.Segments.length=F∧0≤p.Start∧p.Start≤p.End∧p.End≤2880:=by
 simp only[Cb,Cq,C,decide_eq_true_eq] at h;obtain⟨h3,h4,h5,h6,h7⟩:=h;refine⟨h3,h4,h5.1,?_,h6⟩;obtain⟨_,_,a,b⟩:=(Fx hc).2.2 _ (C5 h4).2;rw[h7];unfold Bn;split
 ·rw[Az (n:=2*_) (by omega) (by omega),Az (by omega) (by omega)]; omega
 ·rw[Az (by omega) (by omega)]; omega
theorem A67{a:X7}{l:P}(h0:0≤l)(h1:l≤1048576)(q1:a.Forecast.Tide.Parts.length≤maxLen)(q2:a.Forecast.Surges.length≤maxLen)(q3:a.Chart.Points.length≤maxLen)(q4:a.Chart.Segments.length≤maxLen)(q5:a.Fleet.length≤maxLen)(s:HSmall a) :
  ∃r,MZ a l=G r∧(0≤r→r≤l∧a.Forecast.Tide.Parts.length≤1048576∧a.Forecast.Surges.length≤1048576∧a.Chart.Points.length≤1048576∧a.Chart.Segments.length≤1048576∧a.Fleet.length≤1048576∧a.Crew.Moves.length≤1048576):=by
 unfold MZ S7;obtain⟨r1,e1,k1⟩:=A66 (f:=a.Forecast) h0 h1 q1 q2;by_cases c1:r1<0
 ·exact⟨-1,by simp[e1,c1],by omega⟩
 obtain⟨b1,b2,b3⟩:=k1 (by omega);obtain⟨r2,e2,k2⟩:=A65 (c:=a.Chart) (l:=r1) (by omega) (by omega) q3 q4 s.pn;by_cases c2:r2<0
 ·exact⟨-1,by simp[e1,c1,e2,c2],by omega⟩
 obtain⟨b4,b5,b6⟩:=k2 (by omega);obtain⟨r3,e3,k3⟩:=A7f (xs:=a.Fleet) (l:=r2) (by omega) (by omega) q5 s.fn;by_cases c3:r3<0
 ·exact⟨-1,by simp[e1,c1,e2,c2,e3,c3],by omega⟩
 obtain⟨b7,b8⟩:=k3 (by omega);obtain⟨r4,e4,k4⟩:=A68 (xs:=a.Crew.Moves) (l:=r3) (by omega) (by omega) s.mv;by_cases c4:r4<0
 ·exact⟨-1,by simp[e1,c1,e2,c2,e3,c3,e4,c4],by omega⟩
 obtain⟨b9,b10⟩:=k4 (by omega);exact⟨r4,by simp[e1,c1,e2,c2,e3,c3,e4,c4],fun _=>⟨by omega,b2,b3,b5,b6,b8,b10⟩⟩
theorem A7x{a:X7}(q1:a.Forecast.Tide.Parts.length≤1048576)(q2:a.Forecast.Surges.length≤1048576)(q3:a.Chart.Points.length≤1048576)(q4:a.Chart.Segments.length≤1048576)(q5:a.Fleet.length≤1048576)(q6:a.Crew.Moves.length≤1048576):G3 a=G a:=by
 simp[G3,Sf,Sb,A7w q1 q2,A7t q3 q4,A75 q5,A7y q6]
theorem tz{a:X7}(q1:a.Forecast.Tide.Parts.length≤maxLen)(q2:a.Forecast.Surges.length≤maxLen)(q3:a.Chart.Points.length≤maxLen)(q4:a.Chart.Segments.length≤maxLen)(q5:a.Fleet.length≤maxLen)(q6:a.Crew.Moves.length≤maxLen):MG a a=G F:=by
 simp[MG,S3,S2,tu q1 q2,tr q3 q4,uL q5,uA q6]
theorem xN{a:X7}(ok:∀d∈X7.row a,d.Ok):a.Forecast.Tide.Parts.length≤maxLen∧a.Forecast.Surges.length≤maxLen∧a.Chart.Points.length≤maxLen∧a.Chart.Segments.length≤maxLen∧a.Fleet.length≤maxLen∧HSmall a:=by
 have h1:=ok (D.sl (zX Xd.row a.Forecast.Tide.Parts)) (by simp[X7.row_eq]);have h2:=ok (D.sl (zX Xb.row a.Forecast.Surges)) (by simp[X7.row_eq]);have h3:=ok (D.sl (zX X9.row a.Chart.Points)) (by simp[X7.row_eq]);have h4:=ok (D.sl (zX X3.row a.Chart.Segments)) (by simp[X7.row_eq]);have h5:=ok (D.sl (zX X5.row a.Fleet)) (by simp[X7.row_eq]);have h6:=ok (D.sl (zX rI a.Crew.Moves)) (by simp[X7.row_eq]);refine⟨Er h1,Er h2,Er h3,Er h4,Er h5,⟨fun x hx=> ?_,(A5v h5).2,Er h6⟩⟩;exact(h3.sl.2 (X9.row x) (yI hx) (.str x.Name) (by simp[X9.row_eq])).str
theorem A72{xs:H X1}(h:xs.length≤1048576):Ng xs=G xs:=by
 unfold Ng;rw[DU h (by omega)];have:=EO (L:=I4 xs) xs id (DS h) (fun n i acc hi ha=>by simp[I4,AA,hi,ha,Sd]) (fun n acc=>by simp[I4]) (zA xs.length ⟨0,0,E,0,0⟩) (by simp);simpa using this
theorem uG(x y:X1):MM x y=G (decide (x=y)):=by
 unfold MM;cases x; cases y;simp only[X1.mk.injEq];repeat' split
 all_goals simp_all
theorem uF{xs ys:H X1}(h:xs.length≤maxLen):MN xs ys=G (decide (xs=ys)):=by
 unfold MN;by_cases hl:xs.length=ys.length
 ·have:=H7 (L:=HO xs ys) xs ys h hl (fun n i h1 h2=>by simp[HO,AA,h1,h2,uG]) (fun n=>by simp[HO]);simp[hl,this]
 ·have:¬(xs.length:P)=ys.length:=by omega
  have:xs≠ys:=fun e=>hl (by rw[e])
  simp_all
theorem A70{x:X2}(h:x.Passages.length≤1048576):Nd x=G x:=by
 simp[Nd,A72 h]
theorem A7z{xs:H X2}(h:xs.length≤1048576)(hp:∀x∈xs,x.Passages.length≤1048576):G4 xs=G xs:=by
 unfold G4;rw[DU h (by omega)];have:=EO (L:=I2 xs) xs id (DS h) (fun n i acc hi ha=>by simp[I2,AA,hi,ha,A70 (hp _ (I hi))]) (fun n acc=>by simp[I2]) (zA xs.length ⟨0,0,0,[]⟩) (by simp);simpa using this
theorem uC{x:X2}(h:x.Passages.length≤maxLen):MI x x=G F:=by
 simp[MI,uF h]
theorem uB{xs:H X2}(h:xs.length≤maxLen)(hp:∀x∈xs,x.Passages.length≤maxLen):MJ xs xs=G F:=by
 unfold MJ;have:=EH (L:=HM xs xs) xs (fun _=>F) h (fun n i hi=>by simp[HM,AA,hi,uC (hp _ (I hi))]) (fun n=>by simp[HM]);simp[this]
theorem A7a{x:X2}{l:P}(h0:0≤l)(h1:l≤1048576)(hx:x.Passages.length≤maxLen):∃r,N1 x l=G r∧(0≤r→r≤l∧x.Passages.length≤1048576):=by
 unfold N1 S8;rw[AO] at hx
 rw[Az (by omega) (by omega)];by_cases h:l - (x.Passages.length:P)<0
 ·exact⟨-1,by simp[h],by omega⟩
 ·exact⟨l - x.Passages.length,by simp[h],by omega⟩
theorem A69{xs:H X2}{l:P}(h0:0≤l)(h1:l≤1048576)(hx:xs.length≤maxLen)(hn:∀x∈xs,x.Passages.length≤maxLen):∃r,N2 xs l=G r∧(0≤r→r≤l∧xs.length≤1048576∧∀x∈xs,x.Passages.length≤1048576):=by
 unfold N2;have hx':=hx;rw[AO] at hx'
 rw[Az (by omega) (by omega)];by_cases h:l - (xs.length:P)<0
 ·exact⟨-1,by simp[h],by omega⟩
 ·have key:∀(k i n:U) (v:P),i+k=xs.length→k<n→0≤v→v≤l→∃r,FZ xs n v (i:P)=G r∧(0≤r→r≤l∧∀j (hj:j<xs.length),i≤j→xs[j].Passages.length≤1048576):=by
   intro k
   induction k with
   | zero=>
    intro i n v hi hn2 hv hv2;obtain⟨m,rfl⟩:∃m,n=m+1:=⟨n - 1,by omega⟩;have:i=xs.length:=by omega
    subst this;exact⟨v,by simp[FZ],fun _=>⟨hv2,fun j hj h=>by omega⟩⟩
   | succ k ih=>
    intro i n v hi hn2 hv hv2;obtain⟨m,rfl⟩:∃m,n=m+1:=⟨n - 1,by omega⟩;have hlt:i<xs.length:=by omega
    obtain⟨r,e,hr⟩:=A7a (x:=xs[i]) hv (by omega) (hn _ (I hlt));by_cases hr0:r<0
    ·exact⟨-1,by simp[FZ,AA,hlt,e,hr0],by omega⟩
    ·obtain⟨g1,g2⟩:=hr (by omega);obtain⟨r2,e2,h2⟩:=ih (i+1) m r (by omega) (by omega) (by omega) (by omega);refine⟨r2,?_,fun h0=>⟨(h2 h0).1,fun j hj hij=> ?_⟩⟩
     ·rw[← AS hlt hx] at e2
      simp only[FZ,AA,Y hlt,X,At,hlt,decide_true,if_true,e,hr0,decide_false,Z,if_false];exact e2
     ·by_cases hji:j=i
      ·subst hji; exact g2
      ·exact(h2 h0).2 j hj (by omega)
  obtain⟨r,e,hr⟩:=key xs.length 0 bigN (l - xs.length) (by omega) (BG hx) (by omega) (by omega);refine⟨r,?_,fun h0=>⟨(hr h0).1,by omega,fun x hx2=> ?_⟩⟩
  ·simp only[h,decide_false,Z,if_false];exact e
  ·obtain⟨j,hj,rfl⟩:=zQ hx2;exact(hr h0).2 j hj (yP _)
theorem A3m{xs:H X2}(ok:(D.sl (zX X2.row xs)).Ok):xs.length≤maxLen∧∀x∈xs,x.Passages.length≤maxLen:=
 ⟨Er ok,fun x hx=>Er (row:=X1.row) (ok.sl.2 (X2.row x) (yI hx) (.sl (zX X1.row x.Passages)) (by simp[X2.row_eq]))⟩
theorem pO{m n b:U}(h:m+n≤2000000)(hb:b≤1000):AJ m n b=F:=by
 unfold AJ;rw[decide_eq_true_eq];have:(m+n)*b≤2000000*1000:=yD h hb;omega
theorem O6{α:Type}{m n b:U}(h:m+n≤2000000)(hb:b≤1000)(x y:α):(if AJ m n b=F then x else y)=x:=by rw[if_pos (pO h hb)]
theorem ED{n:P}(h0:0≤n)(h1:n<18446744073709551616):IntKind.u64.wrap n=n:=by
 simp only[IntKind.wrap,IntKind.bits,IntKind.signed];have:n % 18446744073709551616=n:=Int.emod_eq_of_lt h0 h1;simp[this]
theorem DW{n:U}(h:n<2 ^ 63):yR .i64 (n:P)=n:=Az (by omega) (by omega)
theorem KO{n:U}(h:n<2 ^ 64):IntKind.u64.wrap (n:P)=n:=ED (by omega) (by omega)
theorem Ot{s n:U}(h:∀i,s.testBit i=F→i<n):s<2 ^ n:=Nat.lt_pow_two_of_testBit s fun i hi=>by
 cases hb:s.testBit i with
 | false=>rfl
 | true=>have:=h i hb; omega
theorem YP{a b n:U}(h:a<2 ^ n):AW a b<2 ^ n:=Ot fun i hi=>by
 rw[EA,C] at hi
 exact GJ h hi.1
theorem GB{w n:U}(h:n<2 ^ w):(BitVec.ofInt w (n:P)).toNat=n:=by
 rw[BitVec.ofInt_natCast,BitVec.toNat_ofNat,Nat.mod_eq_of_lt h]
theorem Z8{w a b:U}(ha:a<2 ^ w)(hb:b<2 ^ w):(BitVec.ofInt w (a:P) &&& ~~~ BitVec.ofInt w (b:P)).toNat=AW a b:=by
 rw[BitVec.toNat_and,BitVec.toNat_not,GB ha,GB hb];apply zW
 intro i;rw[show 2 ^ w - 1 - b=2 ^ w - (b+1) by omega,yB,Nat.testBit_two_pow_sub_succ hb,EA];cases hi:a.testBit i with
 | false=>rfl
 | true=>simp[GJ ha hi]
theorem pD{a b:U}(ha:a<2 ^ 63)(hb:b<2 ^ 63):Bq .and .i64 (a:P) (b:P)=((a &&& b:U):P):=by
 show yR .i64 ((BitVec.ofInt 64 (a:P) &&& BitVec.ofInt 64 (b:P)).toNat:P)=_
 rw[BitVec.toNat_and,GB (zL ha (by decide)),GB (zL hb (by decide)),DW (Nat.and_lt_two_pow a hb)]
theorem A3n{a b:U}(ha:a<2 ^ 63)(hb:b<2 ^ 63):Bq .or .i64 (a:P) (b:P)=((a ||| b:U):P):=by
 show yR .i64 ((BitVec.ofInt 64 (a:P) ||| BitVec.ofInt 64 (b:P)).toNat:P)=_
 rw[BitVec.toNat_or,GB (zL ha (by decide)),GB (zL hb (by decide)),DW (yE ha hb)]
theorem YN{a b:U}(ha:a<2 ^ 63)(hb:b<2 ^ 63):Bq .andNot .i64 (a:P) (b:P)=((AW a b:U):P):=by
 show yR .i64 ((BitVec.ofInt 64 (a:P) &&& ~~~ BitVec.ofInt 64 (b:P)).toNat:P)=_
 rw[Z8 (zL ha (by decide)) (zL hb (by decide)),DW (YP ha)]
theorem WX{a b:U}(ha:a<2 ^ 64)(hb:b<2 ^ 64):Bq .or .u64 (a:P) (b:P)=((a ||| b:U):P):=by
 show IntKind.u64.wrap ((BitVec.ofInt 64 (a:P) ||| BitVec.ofInt 64 (b:P)).toNat:P)=_
 rw[BitVec.toNat_or,GB ha,GB hb,KO (yE ha hb)]
theorem Lb{a b:U}(ha:a<2 ^ 64)(hb:b<2 ^ 64):Bq .andNot .u64 (a:P) (b:P)=((AW a b:U):P):=by
 show IntKind.u64.wrap ((BitVec.ofInt 64 (a:P) &&& ~~~ BitVec.ofInt 64 (b:P)).toNat:P)=_
 rw[Z8 ha hb,KO (YP ha)]
theorem Th{n:U}(h:n≤20):Bw .i64 (1:P) (n:P)=((2 ^ n:U):P):=by
 have hp:2 ^ n<2 ^ 63:=zY (by omega) (by omega);unfold Bw;rw[zE,show min n IntKind.i64.bits=n by simp[IntKind.bits]; omega,Int.one_mul];have:((2:P) ^ n)=((2 ^ n:U):P):=by simp
 rw[this,DW hp]
theorem XA{n:U}(h:n≤20):Bw .u64 (1:P) (n:P)=((2 ^ n:U):P):=by
 have hp:2 ^ n<2 ^ 64:=zY (by omega) (by omega);unfold Bw;rw[zE,show min n IntKind.u64.bits=n by simp[IntKind.bits]; omega,Int.one_mul];have:((2:P) ^ n)=((2 ^ n:U):P):=by simp
 rw[this,KO hp]
theorem qH(n:U):((n:P)==(0:P))=decide (n=0):=by
 rw[zF];simp
def gD:H V:= [0,1,2,2,3,3,3,3,4,4,4,4,4,4,4,4,5,5,5,5,5,5,5,5,5,5,5,5,5,5,5,5,6,6,6,6,6,6,6,6,6,6,6,6,6,6,6,6,6,6,6,6,6,6,6,6,6,6,6,6,6,6,6,6,7,7,7,7,7,7,7,7,7,7,7,7,7,7,7,7,7,7,7,7,7,7,7,7,7,7,7,7,7,7,7,7,7,7,7,7,7,7,7,7,7,7,7,7,7,7,7,7,7,7,7,7,7,7,7,7,7,7,7,7,7,7,7,7,8,8,8,8,8,8,8,8,8,8,8,8,8,8,8,8,8,8,8,8,8,8,8,8,8,8,8,8,8,8,8,8,8,8,8,8,8,8,8,8,8,8,8,8,8,8,8,8,8,8,8,8,8,8,8,8,8,8,8,8,8,8,8,8,8,8,8,8,8,8,8,8,8,8,8,8,8,8,8,8,8,8,8,8,8,8,8,8,8,8,8,8,8,8,8,8,8,8,8,8,8,8,8,8,8,8,8,8,8,8,8,8,8,8,8,8,8,8,8,8,8,8,8,8,8,8,8,8]
theorem A1g(v8 v9:P):K6 v8 v9=(ix gD (IntKind.u8.wrap v8)).bind fun b10=>G (yR .i64 (v9+(yR .i64 (b10.toNat:P)))):=rfl
def gC(x:U):Q:=match gD[x]? with
 | some b=>decide (b.toNat≤8)&&(decide (x<2 ^ b.toNat)&&(x==0 || (decide (1≤b.toNat)&&decide (2 ^ (b.toNat - 1)≤x))))
 | none=>E
theorem A1h:(zB 256).all gC=F:=by kernel_rfl
theorem gB{x:U}(hx:x<256)(n:P):∃l:U,K6 (x:P) n=G (yR .i64 (n+(l:P)))∧l≤8∧x<2 ^ l∧(0<x→1≤l∧2 ^ (l - 1)≤x):=by
 have h:=zN.1 A1h x (by simpa using hx);unfold gC at h;split at h
 ·rename_i b hb
  simp only[C,decide_eq_true_eq,yO,beq_iff_eq] at h
  have hw:IntKind.u8.wrap (x:P)=(x:P):=by
   simp only[IntKind.wrap,IntKind.bits,IntKind.signed];have:(x:P) % 256=x:=Int.emod_eq_of_lt (by omega) (by omega);simp[this]
  refine⟨b.toNat,?_,h.1,h.2.1,fun h0=> ?_⟩
  ·rw[A1g,hw,AA,hb,X,DW (n:=b.toNat) (by omega)]
  ·rcases h.2.2 with h3|h3
   ·omega
   ·exact h3
 ·cases h
theorem A1m{s:U}(h1:1≤s)(h2:s<4096):∃t:U,K5 (s:P)=G ((t+1:U):P)∧2 ^ t≤s∧s<2 ^ (t+1)∧t<12:=by
 have key:∃l:U,K5 (s:P)=G ((l:U):P)∧1≤l∧2 ^ (l - 1)≤s∧s<2 ^ l:=by
  unfold K5 Sk;rw[if_neg (by simp; omega)];unfold Nl;rw[if_neg (by simp; omega)];unfold Nm;by_cases hs:s<256
  ·rw[if_neg (by simp; omega)];obtain⟨l,e,l8,a1,a2⟩:=gB hs 0;obtain⟨a3,a4⟩:=a2 h1;refine⟨l,?_,a3,a4,a1⟩;rw[e,X,Int.zero_add,DW (by omega)]
  ·rw[if_pos (by simp; omega)]
   have e8:CH .u64 (s:P) 8=((s / 256:U):P):=by
    unfold CH;rw[show min 8 IntKind.u64.bits=8 by rfl,Int.fdiv_eq_ediv_of_nonneg _ (by decide)];have:((s:P) / 2 ^ 8)=((s / 256:U):P):=by simp
    rw[this,KO (by omega)]
   have e9:yR .i64 ((0:P)+8)=((8:U):P):=by rw[Az (by omega) (by omega)]; rfl
   rw[e8,e9];obtain⟨l,e,l8,a1,a2⟩:=gB (x:=s / 256) (by omega) ((8:U):P);obtain⟨a3,a4⟩:=a2 (by omega);refine⟨8+l,?_,by omega,?_,?_⟩
   ·have:((8:U):P)+(l:P)=((8+l:U):P):=by omega
    rw[e,X,this,DW (by omega)]
   ·rw[show 8+l - 1=(l - 1)+8 by omega,Nat.pow_add];omega
   ·rw[Nat.add_comm,Nat.pow_add];omega
 obtain⟨l,e,a1,a2,a3⟩:=key;obtain⟨t,rfl⟩:∃t,l=t+1:=⟨l - 1,by omega⟩;refine⟨t,e,by simpa using a2,a3,?_⟩;rcases zJ t 12 with h|h
 ·exact h
 ·have:=zV (show 0<2 by omega) h;simp at a2
  omega
theorem XS{s t:U}(h1:2 ^ t≤s)(h2:s<2 ^ (t+1)):s.testBit t=F∧AW s (2 ^ t)<2 ^ t∧(∀i,(AW s (2 ^ t)).testBit i=F→s.testBit i=F)∧(∀i,s.testBit i=F→i=t∨(AW s (2 ^ t)).testBit i=F):=by
 have hb:∀i,(AW s (2 ^ t)).testBit i=(s.testBit i&& !decide (t=i)):=fun i=>by rw[EA,J5]
 refine⟨Nat.testBit_of_two_pow_le_and_two_pow_add_one_gt h1 h2,Ot fun i hi=> ?_,fun i hi=> ?_,fun i hi=> ?_⟩
 ·rw[hb,C] at hi
  have:=GJ h2 hi.1;have h3:t≠i:=by simpa using hi.2
  omega
 ·rw[hb,C] at hi
  exact hi.1
 ·by_cases h:i=t
  ·exact .inl h
  ·right
   rw[hb,hi];simpa using fun e:t=i=>h e.symm
theorem KX{α β R:Type}{L:U→P→H β→O R}(xs:H α)(g:α→β)(K:H β→O R)(hl:xs.length≤maxLen)
  (hs:∀(n i:U) (acc:H β) (h:i<xs.length),acc.length=i→L (n+1) (i:P) acc=L n (yR .i64 ((i:P)+1)) (acc++ [g xs[i]])) (he:∀n acc,acc.length=xs.length→L (n+1) (xs.length:P) acc=K acc):L bigN 0 []=K (xs.map g):=by
 have key:∀(k i n:U) (acc:H β),i+k=xs.length→k<n→acc=(xs.take i).map g→L n (i:P) acc=K (xs.map g):=by
  intro k
  induction k with
  | zero=>
   intro i n acc hi hn ha;obtain⟨m,rfl⟩:∃m,n=m+1:=⟨n - 1,by omega⟩;have:i=xs.length:=by omega
   subst this;rw[yM] at ha
   rw[he m acc (by rw[ha]; simp),ha]
  | succ k ih=>
   intro i n acc hi hn ha;obtain⟨m,rfl⟩:∃m,n=m+1:=⟨n - 1,by omega⟩;have hlt:i<xs.length:=by omega
   rw[hs m i acc hlt (by rw[ha]; simp; omega),AS hlt hl];refine ih (i+1) m _ (by omega) (by omega) ?_;rw[zI hlt,List.map_append,ha];rfl
 exact key xs.length 0 bigN [] (by omega) (BG hl) (by simp)
def Bu(d:X8):Q:=decide (0≤d.From)&&(decide (d.From<d.To)&&(decide (d.To≤2880)&&((decide (0≤d.A)&&decide (d.A<8))&&(decide (0≤d.B)&&decide (d.B<8)))))
theorem XF(d:X8):II d=G (Bu d):=by
 unfold II Bu;have e7:∀x:P,decide (x≤7)=decide (x<8):=fun x=>decide_eq_decide.2 (by omega)
 simp only[BF,X,e7];by_cases h2:d.From<d.To
 ·by_cases h3:d.To≤2880
  ·have h8:d.From≤2880:=by omega
   simp only[h2,h3,h8,decide_true,if_true,Bool.and_true,zD];cases decide (0≤d.From)<;>cases(decide (0≤d.A)&&decide (d.A<8))<;>rfl
  ·simp[h2,h3]
 ·simp[h2]
theorem A53{l:H X8}:Nt l=G (decide (l.length≤12)&&l.all Bu):=by
 unfold Nt;by_cases h:l.length≤12
 ·rw[if_neg (by simp; omega),EH (L:=Ii l) l Bu (by rw[AO]; omega) (fun n i hi=>by simp[Ii,AA,hi,XF]) (fun n=>by simp[Ii])];simp[h]
 ·rw[if_pos (by simp; omega)];simp[h]
theorem xp{R:Type}(a b c d e:Q)(x y:R):(if(!a)=F then y else if(!b)=F then y else if(!c)=F then y else if d=F then(if e=F then x else y) else y)=if(a&&(b&&(c&&(d&&e))))=F then x else y:=by
 cases a<;>cases b<;>cases c<;>cases d<;>cases e<;>rfl
theorem Ws{l:H X8}:Hc l=G (decide (l.length≤12)&&l.all Bu):=by
 unfold Hc;by_cases h:l.length≤12
 ·rw[if_neg (by simp; omega),EH (L:=Hd l) l Bu (by rw[AO]; omega) (fun n i hi=> ?_) (fun n=>by simp[Hd])]
  ·simp[h]
  ·simp only[Hd,At,hi,decide_true,if_true,Aw hi,X,KF,Bu];generalize l[i]=d
   have g1:decide (d.From<0)= !decide (0≤d.From):=by by_cases h:0≤d.From<;>simp[h]<;>omega
   have g2:decide (d.To≤d.From)= !decide (d.From<d.To):=by by_cases h:d.From<d.To<;>simp[h]<;>omega
   have g3:decide (2880<d.To)= !decide (d.To≤2880):=by by_cases h:d.To≤2880<;>simp[h]<;>omega
   simp only[g1,g2,g3];exact xp _ _ _ _ _ _ _
 ·rw[if_pos (by simp; omega)];simp[h]
def Eu(m:H P):Q:=decide (m.length=64)&&m.all fun x=>decide (0≤x)&&decide (x≤240)
def DE(p:P)(m:H P):Q:=Cq p&&Eu m
theorem iJ{p:P}{m:H P}(h:m.length≤maxLen):Gj p m=G (DE p m):=by
 unfold Gj DE Eu Cq;rw[BF,X,gT h];by_cases h1:m.length=64
 ·cases(decide (0≤p)&&decide (p≤2880))<;>simp[h1]
 ·have:((m.length:P) !=64)=F:=by simpa using(by omega:¬((m.length:P)=64))
  cases(decide (0≤p)&&decide (p≤2880))<;>simp[h1,this]
theorem fT{m:H P}(h:m.length≤maxLen):FU m=G (Eu m):=by
 unfold FU Eu;rw[gS h];by_cases h1:m.length=64
 ·simp[h1]
 ·have:((m.length:P) !=64)=F:=by simpa using(by omega:¬((m.length:P)=64))
  simp[h1,this]
theorem gM(p:P):CY p=G (Cq p):=by rw[Gt]; rfl
def CO(p:P)(m:H P)(d e:X8):Q:=decide (yR .i64 (d.To+yR .i64 (p+m[(8*d.B+e.A).toNat]?.getD 0))≤e.From)
theorem RL{d:X8}(h:Bu d=F):0≤d.From∧d.From<d.To∧d.To≤2880∧0≤d.A∧d.A<8∧0≤d.B∧d.B<8:=by
 simp only[Bu,C,decide_eq_true_eq] at h;omega
theorem gR{m:H P}(hm:Eu m=F){b a:P}(h0:0≤b)(h1:b<8)(h2:0≤a)(h3:a<8):ix m (8*b+a)=G (m[(8*b+a).toNat]?.getD 0):=by
 simp only[Eu,C,decide_eq_true_eq] at hm
 obtain⟨k,hk⟩:∃k:U,8*b+a=(k:P):=⟨(8*b+a).toNat,by omega⟩;rw[hk,AA,zE,Y (by omega)];rfl
theorem iL{p:P}{m:H P}{d e:X8}(hl:m.length≤maxLen)(ht:DE p m=F)(hd:Bu d=F)(he:Bu e=F):Ka p m d e=G (CO p m d e):=by
 obtain⟨_,_,_,_,_,b0,b1⟩:=RL hd;obtain⟨_,_,_,a0,a1,_,_⟩:=RL he;have ht':=ht;simp only[DE,C] at ht'
 unfold Ka Sn;have c1:(decide (0≤d.B)&&decide (d.B≤7))=F:=by simp; omega
 have c2:(decide (0≤e.A)&&decide (e.A≤7))=F:=by simp; omega
 rw[iJ hl,ht,X,if_pos rfl,BF,c1,X,if_pos rfl,BF,c2,X];unfold Kf;rw[if_neg (by simp),Int.mul_comm d.B 8,Az (n:=8*d.B) (by omega) (by omega),Az (n:=8*d.B+e.A) (by omega) (by omega),gR ht'.2 b0 b1 a0 a1,X,X,if_pos rfl,XF,hd,X,if_pos rfl,XF,he,X,if_pos rfl];rfl
theorem fS{p:P}{m:H P}{d e:X8}(hl:m.length≤maxLen)(ht:DE p m=F)(hd:Bu d=F)(he:Bu e=F):JB p m d e=G (CO p m d e):=by
 obtain⟨_,_,_,_,_,b0,b1⟩:=RL hd;obtain⟨_,_,_,a0,a1,_,_⟩:=RL he;have ht':=ht;simp only[DE,C] at ht'
 unfold JB RN;have c1:(decide (0≤d.B)&&decide (d.B<8))=F:=by simp; omega
 have c2:(decide (0≤e.A)&&decide (e.A<8))=F:=by simp; omega
 have o1:(decide ([d].length≤12)&& [d].all Bu)=F:=by simp[hd]
 have o2:(decide ([e].length≤12)&& [e].all Bu)=F:=by simp[he]
 rw[gM,ht'.1,X,if_pos rfl,fT hl,ht'.2,X,if_pos rfl,KF,c1,X,if_pos rfl,KF,c2,X];unfold Hf;rw[if_neg (by simp),Az (n:=8*d.B) (by omega) (by omega),Az (n:=8*d.B+e.A) (by omega) (by omega),gR ht'.2 b0 b1 a0 a1,X,X,if_pos rfl,Ws,o1,X,if_pos rfl,Ws,o2,X,if_pos rfl];rfl
def Bj(p:P)(m:H P)(l:H X8)(i k:U):Q:=match l[i]?,l[k]? with
 | some d,G e=>CO p m d e || CO p m e d
 | _,_=>E
theorem Z7(p:P)(m:H P)(l:H X8)(i k:U):Bj p m l i k=Bj p m l k i:=by
 unfold Bj;cases l[i]?<;>cases l[k]?<;>simp[Bool.or_comm]
theorem EJ{n m b:U}(h:n+m≤1000000)(hb:b≤100):AJ n m b=F:=by
 unfold AJ;have:(n+m)*b≤1000000*100:=yD h hb;simp;omega
def nn(ms:H U):H P:=ms.map fun x:U=>(x:P)
theorem Ca(ms:H U):(nn ms).length=ms.length:=by simp[nn]
theorem Di{ms:H U}{i:U}(h:i<ms.length):ix (nn ms) (i:P)=G ((ms[i]:U):P):=by
 rw[AA,nn,yF,Y h]; rfl
theorem IV(ms:H U)(i a:U):(nn ms).set i (a:P)=nn (ms.set i a):=by simp[nn,List.map_set]
theorem gW(ms:H U)(a:U):nn ms++ [(a:P)]=nn (ms++ [a]):=by simp[nn]
section
variable {p : P} {m : H P} {l : H X8}
theorem Z6{i k:U}(hi:i<l.length)(hk:k<l.length):Bj p m l i k=(CO p m l[i] l[k] || CO p m l[k] l[i]):=by
 unfold Bj;rw[Y hi,Y hk]
def Ch(p:P)(m:H P)(l:H X8):H (H Q):=l.map fun d=>l.map fun e=>CO p m d e || CO p m e d
theorem A46{i k:U}(hi:i<l.length)(hk:k<l.length):∃x,ix (Ch p m l) (i:P)=G x∧ix x (k:P)=G (Bj p m l i k):=by
 refine⟨l.map fun e=>CO p m l[i] e || CO p m e l[i],?_,?_⟩
 ·rw[AA,Ch,yF,Y hi]; rfl
 ·rw[AA,yF,Y hk,Z6 hi hk]; rfl
theorem A52(hl:m.length≤maxLen)(ht:DE p m=F)(hd:∀d∈l,Bu d=F)(hN:l.length≤12):NY p m l=G (Ch p m l):=by
 have hm:l.length≤maxLen:=by rw[AO]; omega
 unfold NY;refine KX (L:=Fg p m l) l (fun d=>l.map fun e=>CO p m d e || CO p m e d) G hm (fun n i acc h ha=> ?_) (fun n acc ha=>by simp[Fg]);rw[Fg,At,if_pos (by simpa using h),Aw h,X];rw[KX (L:=Gh p m l (i:P) l[i] acc (Fg p m l n)) l (fun e=>CO p m l[i] e || CO p m e l[i]) (fun row=>Fg p m l n (yR .i64 ((i:P)+1)) (acc++ [row])) hm (fun n2 k acc2 hk ha2=> ?_) (fun n2 acc2 ha2=> ?_)]
 ·rw[Gh,At,if_pos (by simpa using hk),Aw hk,X,iL hl ht (hd _ (I h)) (hd _ (I hk)),X,iL hl ht (hd _ (I hk)) (hd _ (I h))];have a1:∀b:Q,AJ acc2.length [b].length 1=F:=fun b=>EJ (by simp; omega) (by omega)
  cases CO p m l[i] l[k] with
  | true=>rw[if_pos rfl,if_pos (a1 F)]; rfl
  | false=>rw[if_neg (by simp),X,if_pos (a1 _)]; rfl
 ·rw[Gh,if_neg (by simp),if_pos (EJ (by simp; omega) (by omega))]
def GR(p:P)(m:H P)(l:H X8)(i j:U):Q:=decide (j<l.length)&&(decide (i≠j)&&Bj p m l i j)
theorem A3w(hl:m.length≤maxLen)(ht:DE p m=F)(hd:∀d∈l,Bu d=F)(hN:l.length≤12)(K:P→H P→O (H P)){i:U}(hi:i<l.length)(ms:H U)(hms:ms.length=l.length) :
  ∀(r k n a:U),k+r=l.length→r<n→(∀j,a.testBit j=(decide (j<k)&&(decide (i≠j)&&Bj p m l i j)))→
   ∃q,(∀j,q.testBit j=GR p m l i j)∧DO p m l (i:P) l[i] K n (k:P) (nn (ms.set i a))=K (yR .i64 ((i:P)+1)) (nn (ms.set i q)):=by
 have hm:l.length≤maxLen:=by rw[AO]; omega
 intro r
 induction r with
 | zero=>
  intro k n a hk hn ha;obtain⟨n,rfl⟩:∃n',n=n'+1:=⟨n - 1,by omega⟩;refine⟨a,fun j=> ?_,?_⟩
  ·rw[ha,show k=l.length by omega]; rfl
  ·rw[DO,if_neg (by simp; omega)]
 | succ r ih=>
  intro k n a hk hn ha;obtain⟨n,rfl⟩:∃n',n=n'+1:=⟨n - 1,by omega⟩;have hlt:k<l.length:=by omega
  have a12:a<2 ^ 12:=Ot fun j hj=>by
   rw[ha,C,decide_eq_true_eq] at hj; omega
  have step:∀v:Q,v=(decide (i≠k)&&Bj p m l i k)→∃q,(∀j,q.testBit j=GR p m l i j)∧HD p m l (i:P) (k:P) l[i] (nn (ms.set i a)) (DO p m l (i:P) l[i] K n) v=K (yR .i64 ((i:P)+1)) (nn (ms.set i q)):=by
   intro v hv;unfold HD;cases v with
   | true=>
    rw[if_pos rfl,Di (by simp; omega),X,if_neg (by simp),XA (by omega),yG];have h12:2 ^ k<2 ^ 64:=zY (by omega) (by omega);rw[WX (zL a12 (by decide)) h12,zE,IV,List.set_set,AS hlt hm];refine ih (k+1) n _ (by omega) (by omega) fun j=> ?_
    rw[zT,ha,J5];by_cases hjk:k=j
    ·subst hjk;have hx:¬i=k∧Bj p m l i k=F:=by simpa using hv.symm
     simp[hx.1,hx.2]
    ·have e:decide (j<k+1)=decide (j<k):=decide_eq_decide.2 (by omega);rw[e];simp[hjk]
   | false=>
    rw[if_neg (by simp),AS hlt hm];refine ih (k+1) n a (by omega) (by omega) fun j=> ?_
    rw[ha];by_cases hjk:k=j
    ·subst hjk;rw[← hv];simp
    ·have e:decide (j<k+1)=decide (j<k):=decide_eq_decide.2 (by omega);rw[e]
  rw[DO,At,if_pos (by simpa using hlt),Aw hlt,X];by_cases hik:i=k
  ·subst hik;rw[if_neg (by simp)];exact step E (by simp)
  ·have hne:((i:P) !=(k:P))=F:=by simp; omega
   rw[if_pos hne,fS hl ht (hd _ (I hi)) (hd _ (I hlt)),X];have hb:=Z6 (p:=p) (m:=m) hi hlt;cases hf:CO p m l[i] l[k] with
   | true=>
    rw[if_pos rfl];exact step F (by rw[hb,hf]; simp[hik])
   | false=>
    rw[if_neg (by simp),fS hl ht (hd _ (I hlt)) (hd _ (I hi)),X];exact step _ (by rw[hb,hf]; simp[hik])
theorem yg(hl:m.length≤maxLen)(ht:DE p m=F)(hd:∀d∈l,Bu d=F)(hN:l.length≤12):∃ms:H U,ms.length=l.length∧(∀i j:U,i<l.length→(ms[i]?.getD 0).testBit j=GR p m l i j)∧Mv p m l=G (nn ms):=by
 have hm:l.length≤maxLen:=by rw[AO]; omega
 have key:∀(r i n:U) (ms:H U),i+r=l.length→r<n→ms.length=l.length→(∀i' j:U,i'<i→(ms[i']?.getD 0).testBit j=GR p m l i' j)→(∀i':U,i≤i'→ms[i']?.getD 0=0)→
   ∃ms':H U,ms'.length=l.length∧(∀i j:U,i<l.length→(ms'[i]?.getD 0).testBit j=GR p m l i j)∧EY p m l n (i:P) (nn ms)=G (nn ms'):=by
  intro r
  induction r with
  | zero=>
   intro i n ms hi hn hms h1 h2;obtain⟨n,rfl⟩:∃n',n=n'+1:=⟨n - 1,by omega⟩;exact⟨ms,hms,fun i' j h=>h1 i' j (by omega),by rw[EY,if_neg (by simp; omega)]⟩
  | succ r ih=>
   intro i n ms hi hn hms h1 h2;obtain⟨n,rfl⟩:∃n',n=n'+1:=⟨n - 1,by omega⟩;have hlt:i<l.length:=by omega
   obtain⟨q,hq,e⟩:=A3w hl ht hd hN (EY p m l n) hlt ms hms l.length 0 bigN 0 (by omega) (BG hm) (fun j=>by simp)
   have e0:ms.set i 0=ms:=by
    have h3:=h2 i (yA _);rw[Y (by omega)] at h3
    have h3:ms[i]'(by omega)=0:=h3;apply List.ext_getElem (by simp)
    intro j hj1 hj2;by_cases hij:i=j
    ·subst hij; simp[h3]
    ·rw[List.getElem_set_ne hij]
   rw[e0] at e
   rw[EY,At,if_pos (by simpa using hlt),Aw hlt,X];have e:DO p m l (i:P) l[i] (EY p m l n) bigN 0 (nn ms)=_:=e;rw[e,AS hlt hm];refine ih (i+1) n (ms.set i q) (by omega) (by omega) (by simpa using hms) (fun i' j h=> ?_) (fun i' h=> ?_)
   ·by_cases hii:i=i'
    ·subst hii;rw[zO (by omega)];exact hq j
    ·rw[zM hii];exact h1 i' j (by omega)
   ·rw[zM (by omega)];exact h2 i' (by omega)
 unfold Mv;rw[DU (by omega) (by omega),X];have hz:zA l.length (0:P)=nn (zA l.length 0):=by simp[nn]
 rw[hz]
 exact key l.length 0 bigN _ (by omega) (BG hm) (by simp) (fun i' j h=>by omega) (fun i' h=>by
  rw[List.getElem?_replicate];split<;>rfl)
end
section
variable {B : U → U → Q} {N : U} {ms : H U}
def ou(B:U→U→Q)(N:U)(ms:H U):Prop:=ms.length=N∧∀i j:U,i<N→(ms[i]?.getD 0).testBit j=(decide (j<N)&&(decide (i≠j)&&B i j))
theorem qo:EF B 0:=fun i j hi=>by simp at hi
theorem qn(hB:∀i j,B i j=B j i){s t:U}(h1:2 ^ t≤s)(h2:s<2 ^ (t+1)):EF B s↔EF B (AW s (2 ^ t))∧∀i,(AW s (2 ^ t)).testBit i=F→B t i=F:=by
 obtain⟨a1,a2,a3,a4⟩:=XS h1 h2;constructor
 ·intro h;exact⟨fun i j hi hj=>h i j (a3 i hi) (a3 j hj),fun i hi=>h t i a1 (a3 i hi) (by have:=GJ a2 hi; omega)⟩
 ·rintro⟨k1,k2⟩ i j hi hj hne
  rcases a4 i hi with rfl|hi
  ·rcases a4 j hj with rfl|hj
   ·exact absurd rfl hne
   ·exact k2 j hj
  ·rcases a4 j hj with rfl|hj
   ·rw[hB]; exact k2 i hi
   ·exact k1 i j hi hj hne
theorem TQ{a b:U}:AW a b=0↔∀i,a.testBit i=F→b.testBit i=F:=by
 constructor
 ·intro h i hi;have:=EA a b i;rw[h,hi] at this
  cases hb:b.testBit i with
  | true=>rfl
  | false=>rw[hb] at this; simp at this
 ·intro h;apply zW
  intro i;rw[EA,Nat.zero_testBit];cases hi:a.testBit i with
  | false=>rfl
  | true=>rw[h i hi]; rfl
theorem YO(a b:U):AW a b≤a:=by
 rcases zJ a (AW a b) with h|h
 ·obtain⟨i,h1,h2⟩:=Nat.exists_testBit_ne_of_ne (Nat.ne_of_lt h) |>.elim fun i hi=>(⟨i,hi,⟨⟩⟩:∃i,a.testBit i≠(AW a b).testBit i∧True)
  exfalso
  have:AW a b &&& a=AW a b:=WT fun i hi=>by
   rw[EA,C] at hi
   exact hi.1
  have h3:= @Nat.and_le_right (AW a b) a;omega
 ·exact h
def TH(B:U→U→Q)(tg:H Q)(s:U):Prop:=∀x,x<s→(tg[x]?.getD E=F↔EF B x)
def YH(B:U→U→Q)(ls:H U)(s:U):Prop:=∀x,x<s→Ck B x (ls[x]?.getD 0)
theorem fy(hN:N≤12){x n:U}(hx:x<2 ^ N)(h:Ck B x n):n≤12:=Nat.le_trans (h.2 N (RG hx)) hN
theorem SU{tg:H Q}{x:U}(h:x<tg.length):ix tg (x:P)=G (tg[x]?.getD E):=by
 rw[AA,Y h]; rfl
theorem SR{ls:H U}{x:U}(h:x<ls.length):ix (nn ls) (x:P)=G (((ls[x]?.getD 0:U)):P):=by
 rw[Di h,Y h]; rfl
theorem gn(hN:N≤12):2 ^ N≤4096:=by
 have:=zV (show 0<2 by omega) hN;simpa using this
theorem A1f(hN:N≤12)(y5:P){s t:U}(hs:s<2 ^ N)(h1:2 ^ t≤s)(h2:s<2 ^ (t+1)){tg:H Q}{ls:H U}(htl:tg.length=2 ^ N)(hll:ls.length=2 ^ N)(ht:TH B tg (s+1))(hl:YH B ls s)(K:P→H Q→H P→O P) :
  ∀(n q c:U),q<n→q &&& AW s (2 ^ t)=q→E1 B s c→c≤100→(∀q',q' &&& AW s (2 ^ t)=q'→q<q'→EF B (q' ||| 2 ^ t)→c≤1+ls[AW (AW s (2 ^ t)) q']?.getD 0)→
   ∃c',Ck B s c'∧FT (nn ms) y5 (s:P) (t:P) ((AW s (2 ^ t):U):P) tg K n (q:P) (nn (ls.set s c))=K (yR .i64 ((s:P)+1)) tg (nn (ls.set s c')):=by
 obtain⟨a1,a2,a3,a4⟩:=XS h1 h2;have hp:=gn hN;have h2s:AW s (2 ^ t)<s:=yC a2 h1;generalize hr:AW s (2 ^ t)=r at a2 a3 a4 h2s
 intro n
 induction n with
 | zero=>intro q c hq; omega
 | succ n ih=>
  intro q c hq hsub hc hc1 hall
  have ht12:t<12:=by
   rcases zJ t 12 with h|h
   ·exact h
   ·have:=zV (show 0<2 by omega) h;simp at this
    omega
  have hqr:q≤r:=by have:= @Nat.and_le_right q r; omega
  have hor:q ||| 2 ^ t≤s:=by
   have hsb:(q ||| 2 ^ t) &&& s=q ||| 2 ^ t:=WT fun i hi=>by
    rw[zT,J5,yO,decide_eq_true_eq] at hi
    rcases hi with h|h
    ·exact a3 i (A63 hsub h)
    ·subst h; exact a1
   have:= @Nat.and_le_right (q ||| 2 ^ t) s;omega
  have hsml:∀x:U,x≤s→x<2 ^ 63:=fun x hx=>yK hx (yC hs (Nat.le_trans hp (by decide)))
  have hand:AW r q<s:=yK (YO r q) h2s;have hset:s<(ls.set s c).length:=by simp; omega
  have hnext:∀c1:U,E1 B s c1→c1≤100→(∀q',q' &&& r=q'→q≤q'→EF B (q' ||| 2 ^ t)→c1≤1+ls[AW r q']?.getD 0)→
    ∃c',Ck B s c'∧JQ (nn ms) y5 (s:P) (t:P) (r:P) (q:P) tg K (FT (nn ms) y5 (s:P) (t:P) (r:P) tg K n) (nn (ls.set s c1))=K (yR .i64 ((s:P)+1)) tg (nn (ls.set s c')):=by
   intro c1 g1 g2 g3;unfold JQ;by_cases h0:q=0
   ·subst h0;refine⟨c1,⟨g1,fun m hm=> ?_⟩,by rw[if_pos (by simp)]⟩;obtain⟨q',n',e1,e2,e3,e4⟩:=qz a1 a3 hm;have:=(hl (AW r q') (yK (YO r q') h2s)).2 n' e4;have:=g3 q' e1 (yP _) e2;omega
   ·rw[if_neg (by simpa using h0)]
    have ew:yR .i64 ((q:P) - 1)=((q - 1:U):P):=by
     rw[show(q:P) - 1=((q - 1:U):P) by omega];exact DW (hsml _ (by omega))
    rw[ew,pD (hsml _ (by omega)) (hsml _ (by omega))];have hlt:= @pE q r (by omega);refine ih ((q - 1) &&& r) c1 (by omega) (pF _ _) g1 g2 fun q' e1 e2 e3=> ?_
    refine g3 q' e1 ?_ e3;rcases zJ q' q with h|h
    ·have:=A2z r r q q' (yA _) hsub e1 h;omega
    ·exact h
  rw[FT,if_neg (by simp),Th (by omega),A3n (hsml _ (by omega)) (hsml _ (by omega)),SU (by omega),X];have hk:=ht (q ||| 2 ^ t) (by omega);cases hb:tg[q ||| 2 ^ t]?.getD E with
  | false=>
   rw[if_neg (by simp)];refine hnext c hc hc1 fun q' e1 e2 e3=> ?_
   rcases zJ q q' with h|h
   ·exact hall q' e1 h e3
   ·have:q'=q:=by omega
    subst this;rw[hb] at hk
    exact absurd (hk.2 e3) (by simp)
  | true=>
   rw[if_pos rfl];have hcq:=hk.1 hb
   have e26:ix (nn (ls.set s c)) (s:P)=G (c:P):=by
    rw[Di hset,yG]
   have e27:ix (nn (ls.set s c)) (Bq .andNot .i64 (r:P) (q:P))=G ((ls[AW r q]?.getD 0:U):P):=by
    rw[YN (hsml _ (by omega)) (hsml _ (by omega)),SR (by simp; omega),zM (by omega)]
   rw[e26,X,e27,X];have hle:=hl (AW r q) hand;have h12:=fy hN (zL hand hs) hle;generalize hv:ls[AW r q]?.getD 0=v at hle h12
   have ew:yR .i64 ((1:P)+(v:P))=((1+v:U):P):=by
    rw[show(1:P)+(v:P)=((1+v:U):P) by omega];exact DW (by omega)
   have emin:(if yR .i64 ((1:P)+(v:P))<(c:P) then yR .i64 ((1:P)+(v:P)) else(c:P))=((if 1+v<c then 1+v else c:U):P):=by
    rw[ew];by_cases h:1+v<c
    ·rw[if_pos (by omega),if_pos h]
    ·rw[if_neg (by omega),if_neg h]
   rw[emin,zE,IV,List.set_set];refine hnext _ ?_ (by split<;>omega) fun q' e1 e2 e3=> ?_
   ·split
    ·exact qy a4 hcq hle.1
    ·exact hc
   ·rcases zJ q q' with h|h
    ·have:=hall q' e1 h e3;split<;>omega
    ·have:q'=q:=by omega
     subst this;rw[hv];split<;>omega
theorem A1e(hB:∀i j,B i j=B j i)(hN:N≤12)(hm:ou B N ms):∃n:U,Ck B (2 ^ N - 1) n∧n≤12∧Mu (nn ms)=G (n:P):=by
 have hp:=gn hN;have hp0:0<2 ^ N:=Nat.pow_pos (by omega);obtain⟨hml,hmb⟩:=hm
 have key:∀(k s n:U) (tg:H Q) (ls:H U),s+k=2 ^ N→k<n→1≤s→tg.length=2 ^ N→ls.length=2 ^ N→TH B tg s→YH B ls s→
   ∃v:U,Ck B (2 ^ N - 1) v∧v≤12∧Ed (nn ms) ((2 ^ N:U):P) n (s:P) tg (nn ls)=G (v:P):=by
  intro k
  induction k with
  | zero=>
   intro s n tg ls hs hn hs1 htl hll ht hl;obtain⟨n,rfl⟩:∃n',n=n'+1:=⟨n - 1,by omega⟩;have:=hl (2 ^ N - 1) (by omega);refine⟨_,this,fy hN (by omega) this,?_⟩
   have ew:yR .i64 (((2 ^ N:U):P) - 1)=((2 ^ N - 1:U):P):=by
    rw[show((2 ^ N:U):P) - 1=((2 ^ N - 1:U):P) by omega];exact DW (by omega)
   rw[Ed,if_neg (by simp only[At,decide_eq_true_eq]; omega),ew,SR (by omega),X]
  | succ k ih=>
   intro s n tg ls hs hn hs1 htl hll ht hl;obtain⟨n,rfl⟩:∃n',n=n'+1:=⟨n - 1,by omega⟩;obtain⟨t,e1,h1,h2,ht12⟩:=A1m hs1 (show s<4096 by omega);obtain⟨a1,a2,a3,a4⟩:=XS h1 h2;have htN:t<N:=GJ (show s<2 ^ N by omega) a1;have h2s:AW s (2 ^ t)<s:=yC a2 h1
   have hsml:∀x:U,x≤s→x<2 ^ 63:=fun x hx=>by
    have:(4096:U)<2 ^ 63:=by decide
    omega
   have ew:yR .i64 (((t+1:U):P) - 1)=(t:P):=by
    rw[show((t+1:U):P) - 1=(t:P) by omega];exact DW (by omega)
   have er:Bq .andNot .i64 (s:P) (Bw .i64 (1:P) (t:P))=((AW s (2 ^ t):U):P):=by
    rw[Th (by omega),YN (hsml _ (yA _)) (hsml _ h1)]
   have hu:IntKind.u64.wrap (s:P)=(s:P):=KO (by omega);have hct:=qn hB h1 h2
   have rest:∀b:Q,(b=F↔EF B s)→∃v:U,Ck B (2 ^ N - 1) v∧v≤12∧
     JP (nn ms) ((2 ^ N:U):P) (s:P) (nn ls) (Ed (nn ms) ((2 ^ N:U):P) n) (t:P) ((AW s (2 ^ t):U):P) (tg.set s b)=G (v:P):=by
    intro b hb
    have ht':TH B (tg.set s b) (s+1):=fun x hx=>by
     by_cases h:s=x
     ·subst h;rw[zO (by omega)];exact hb
     ·rw[zM h];exact ht x (by omega)
    unfold JP;rw[SR (by omega),X,Ca,hml,zE,IV]
    obtain⟨c',k1,k2⟩:=A1f (ms:=ms) hN ((2 ^ N:U):P) (show s<2 ^ N by omega) h1 h2 (tg:=tg.set s b) (ls:=ls) (by simpa using htl) hll ht' hl (Ed (nn ms) ((2 ^ N:U):P) n) bigN (AW s (2 ^ t)) N (by rw[Cw]; omega) (Nat.and_self _) (RG (by omega)) (by omega) (fun q' g1 g2=>by
     have:= @Nat.and_le_right q' (AW s (2 ^ t));omega)
    rw[k2,AS (show s<4096 by omega) (by rw[AO]; omega)];refine ih (s+1) n (tg.set s b) (ls.set s c') (by omega) (by omega) (by omega) (by simpa using htl) (by simpa using hll) ht' fun x hx=> ?_
    by_cases h:s=x
    ·subst h;rw[zO (by omega)];exact k1
    ·rw[zM h];exact hl x (by omega)
   rw[Ed,At,if_pos (by simp; omega),hu,e1,X,ew,if_neg (by simp),er,SU (by omega),X,zE];have hk:=ht (AW s (2 ^ t)) h2s;cases hb:tg[AW s (2 ^ t)]?.getD E with
   | true=>
    rw[if_pos rfl,SR (by omega),X,SU (by omega),X]
    have hmt:ms[t]?.getD 0<2 ^ 12:=Ot fun j hj=>by
     rw[hmb t j htN,C,decide_eq_true_eq] at hj
     omega
    rw[KO (n:=AW s (2 ^ t)) (by omega),Lb (by omega) (zL hmt (by decide)),qH];refine rest _ ?_;rw[decide_eq_true_eq,TQ,hct];constructor
    ·intro h;refine⟨hk.1 hb,fun i hi=> ?_⟩;have:=h i hi;rw[hmb t i htN] at this
     simp at this
     exact this.2.2
    ·rintro⟨_,h⟩ i hi
     have hit:=GJ a2 hi;rw[hmb t i htN,h i hi];simp;omega
   | false=>
    rw[if_neg (by simp),SU (by omega),X];refine rest E ?_;rw[hct];constructor
    ·intro h; cases h
    ·rintro⟨h,_⟩
     have:=hk.2 h;rw[hb] at this
     cases this
 unfold Mu
 have hm1:∀b:U,b≤1000→C9 (Bw .i64 (1:P) ((N:U):P)) (Bw .i64 (1:P) ((N:U):P)) b=G (2 ^ N):=fun b hb=>by
  rw[Th (by omega)]; exact DU (by omega) hb
 rw[Ca,hml,if_neg (by simp),hm1 1 (by omega),X,hm1 8 (by omega),X,Th (by omega)]
 have e0:ix (zA (2 ^ N) E) (0:P)=G E:=by
  have:=Aw (l:=zA (2 ^ N) E) (i:=0) (by simpa using hp0);simpa using this
 have hz:zA (2 ^ N) (0:P)=nn (zA (2 ^ N) 0):=by simp[nn]
 rw[e0,X,hz]
 obtain⟨v,k1,k2,k3⟩:=key (2 ^ N - 1) 1 bigN ((zA (2 ^ N) E).set 0 F) (zA (2 ^ N) 0) (by omega) (by rw[Cw]; omega) (by omega) (by simp) (by simp)
  (fun x hx=>by
   have:x=0:=by omega
   subst this;rw[zO (by simpa using hp0)];exact⟨fun _=>qo,fun _=>rfl⟩)
  (fun x hx=>by
   have:x=0:=by omega
   subst this;rw[List.getElem?_replicate,if_pos hp0];exact WG)
 exact⟨v,k1,k2,k3⟩
end
theorem pH{g i:U}(h:g<2 ^ i):AW (g ||| 2 ^ i) (2 ^ i)=g:=by
 apply zW
 intro j;rw[EA,zT,J5];by_cases hj:i=j
 ·subst hj;rw[Nat.testBit_lt_two_pow h];simp
 ·simp[hj]
theorem A5u{α:Type}{l:H α}{i:U}{x:α}(h:l[i]?=G x):l.set i x=l:=by
 apply List.ext_getElem?
 intro j;by_cases hij:i=j
 ·subst hij;rw[zO (List.getElem?_eq_some_iff.1 h).1,h]
 ·rw[zM hij]
theorem rC:∀(d fuel:U) (sm gs:H U) (most:P) (who:H P),who.length+d=sm.length→d<fuel→(∀x∈sm,x<2 ^ 12)→sm.length≤12→(∀g∈gs,0<g∧g<2 ^ who.length)→gs.length≤who.length→
  ∃b r,DN fuel ⟨nn sm,most,nn gs,who⟩=G (b,r)∧r.most=most∧(b=E→r=⟨nn sm,most,nn gs,who⟩):=by
 intro d
 induction d with
 | zero=>
  intro fuel sm gs most who hd hf h1 h2 h3 h4;obtain⟨fuel,rfl⟩:∃n',fuel=n'+1:=⟨fuel - 1,by omega⟩;refine⟨F,⟨nn sm,most,nn gs,who⟩,?_,rfl,fun h=>by cases h⟩;rw[DN,Mr,if_pos (by simp[Ca]; omega)]
 | succ d ih=>
  intro fuel sm gs most who hd hf h1 h2 h3 h4;obtain⟨fuel,rfl⟩:∃n',fuel=n'+1:=⟨fuel - 1,by omega⟩;rw[DN,Mr,if_neg (by simp[Ca]; omega)];have hi12:who.length≤11:=by omega
  have hpw:2 ^ who.length<2 ^ 64:=zY (by omega) (by omega);have hp0:0<2 ^ who.length:=Nat.pow_pos (by omega);have hpd:2 ^ (who.length+1)=2 ^ who.length+2 ^ who.length:=by rw[Nat.pow_succ]; omega
  have hsi:who.length<sm.length:=by omega
  have hsm:sm[who.length]<2 ^ 64:=zL (h1 _ (I hsi)) (by decide)
  have key:∀(k p n:U),p+k=gs.length+1→k<n→∃b r,EX (DN fuel) ⟨nn sm,most,nn gs,who⟩ n (p:P) (nn sm) most (nn gs) who=G (b,r)∧r.most=most∧(b=E→r=⟨nn sm,most,nn gs,who⟩):=by
   intro k
   induction k with
   | zero=>
    intro p n hp hn;obtain⟨n,rfl⟩:∃n',n=n'+1:=⟨n - 1,by omega⟩;refine⟨E,_,?_,rfl,fun _=>rfl⟩;rw[EX,if_neg (by simp[Ca]; omega)]
   | succ k ihk=>
    intro p n hp hn;obtain⟨n,rfl⟩:∃n',n=n'+1:=⟨n - 1,by omega⟩;have hpl:p≤gs.length:=by omega
    rw[EX,if_pos (by simp[Ca]; omega)];cases hmost:decide ((p:P)<most) with
    | false=>exact⟨E,_,by rw[if_neg (by simp)],rfl,fun _=>rfl⟩
    | true=>
     rw[if_pos rfl];by_cases hpe:p=gs.length
     ·-- a new person
      rw[if_pos (by simp[Ca]; omega),if_pos (EJ (by simp[Ca]; omega) (by omega))];have e0:nn gs++ [(0:P)]=nn (gs++ [0]):=gW gs 0;rw[e0];unfold JM;dsimp only
      have hpg:p<(gs++ [0]).length:=by simp; omega
      have hg0:(gs++ [0])[p]=0:=by simp[hpe]
      rw[Di hpg,X,hg0,Di hsi,X,Lb (by decide) hsm];have ez:AW 0 sm[who.length]=0:=TQ.2 fun i hi=>by simp at hi
      rw[ez,if_pos (by simp),if_neg (by simp),if_pos (EJ (by simp; omega) (by omega)),XA (by omega),WX (by decide) hpw,Nat.zero_or,zE,IV]
      have es:(gs++ [0]).set p (2 ^ who.length)=gs++ [2 ^ who.length]:=by
       rw[List.set_append_right _ _ (by omega)];simp[hpe]
      rw[es]
      obtain⟨b,r,k1,k2,k3⟩:=ih fuel sm (gs++ [2 ^ who.length]) most (who++ [(p:P)]) (by simp; omega) (by omega) h1 h2 (fun g hg=>by
       rw[zP,zU,hpd];rcases List.mem_append.1 hg with hg|hg
       ·have:=h3 g hg; omega
       ·rw[List.mem_singleton] at hg; omega) (by simp; omega)
      rw[k1,X];cases b with
      | true=>exact⟨F,r,by rw[if_pos rfl],k2,fun h=>by cases h⟩
      | false=>
       have:=k3 rfl;subst this;rw[if_neg (by simp)];have hw:((who++ [(p:P)]).length:P)=((who.length+1:U):P):=by simp
       simp only[zP,zU];rw[show bnd ((who.length+1:U):P) (who.length:P) 0 (who.length+1)=G (0,who.length) from EL (by omega),X];have hpg2:p<(gs++ [2 ^ who.length]).length:=by simp; omega
       have hg2:(gs++ [2 ^ who.length])[p]=2 ^ who.length:=by simp[hpe]
       rw[Di hpg2,X,hg2,if_neg (by simp),Lb hpw hpw,IV];have ez2:AW (2 ^ who.length) (2 ^ who.length)=0:=TQ.2 fun i hi=>hi
       have es2:(gs++ [2 ^ who.length]).set p 0=gs++ [0]:=by
        rw[List.set_append_right _ _ (by omega)];simp[hpe]
       have et:(who++ [(p:P)]).take who.length=who:=by simp
       rw[ez2,es2,et];unfold HA;rw[Di hpg,X,hg0,if_pos (by simp),Ca];have hl1:(gs++ [0]).length=gs.length+1:=by simp
       rw[hl1,show bnd ((gs.length+1:U):P) (p:P) 0 (gs.length+1)=G (0,p) from EL (by omega),X];have et2:(nn (gs++ [0])).take p=nn gs:=by rw[hpe]; simp[nn]
       show ∃b r,G (E,(⟨nn sm,most,(nn (gs++ [0])).take p,who⟩:Xf))=G (b,r)∧_
       rw[et2];exact⟨E,_,rfl,rfl,fun _=>rfl⟩
     ·-- one that is there
      rw[if_neg (by simp[Ca]; omega)];have hpg:p<gs.length:=by omega
      have hgm:=h3 _ (I hpg)
      have hnext:∃b r,HA (DN fuel) ⟨nn sm,most,nn gs,who⟩ (p:P) (EX (DN fuel) ⟨nn sm,most,nn gs,who⟩ n) (nn sm) most (nn gs) who=G (b,r)∧r.most=most∧(b=E→r=⟨nn sm,most,nn gs,who⟩):=by
       unfold HA;rw[Di hpg,X,if_neg (by simp; omega),AS hpg (by rw[AO]; omega)];exact ihk (p+1) n (by omega) (by omega)
      unfold JM;dsimp only
      rw[Di hpg,X,Di hsi,X,Lb (by omega) hsm];cases hfit:(((AW gs[p] sm[who.length]:U):P)==0) with
      | false=>rw[if_neg (by simp)]; exact hnext
      | true=>
       rw[if_pos rfl,if_neg (by simp),if_pos (EJ (by simp; omega) (by omega)),XA (by omega),WX (by omega) hpw,zE,IV];have hor:gs[p] ||| 2 ^ who.length<2 ^ (who.length+1):=yE (by omega) (by omega)
       have hop:0<gs[p] ||| 2 ^ who.length:=by
        have:= @Nat.left_le_or gs[p] (2 ^ who.length);omega
       have hor64:gs[p] ||| 2 ^ who.length<2 ^ 64:=yE (by omega) hpw
       obtain⟨b,r,k1,k2,k3⟩:=ih fuel sm (gs.set p (gs[p] ||| 2 ^ who.length)) most (who++ [(p:P)]) (by simp; omega) (by omega) h1 h2 (fun g hg=>by
        rw[zP,zU];rcases List.mem_or_eq_of_mem_set hg with hg|hg
        ·have:=h3 g hg; omega
        ·subst hg; exact⟨hop,hor⟩) (by simp; omega)
       rw[k1,X];cases b with
       | true=>exact⟨F,r,by rw[if_pos rfl],k2,fun h=>by cases h⟩
       | false=>
        have:=k3 rfl;subst this;rw[if_neg (by simp)];simp only[zP,zU];have hps:p<(gs.set p (gs[p] ||| 2 ^ who.length)).length:=by simp; omega
        rw[show bnd ((who.length+1:U):P) (who.length:P) 0 (who.length+1)=G (0,who.length) from EL (by omega),X,Di hps,X,yG,if_neg (by simp),Lb hor64 hpw,IV,pH hgm.2,List.set_set,A5u (Y hpg)];have et:(who++ [(p:P)]).take who.length=who:=by simp
        rw[et];exact hnext
  exact key (gs.length+1) 0 bigN (by omega) (by rw[Cw]; omega)
section
variable {p : P} {m : H P} {l : H X8}
def ov(B:U→U→Q)(w:H U):Prop:=∀(i k:U) (hi:i<w.length) (hk:k<i),w[i]=w[k]→B i k=F
theorem A5m(rec_:(H (H Q))→(H P)→P→O ((H P) × Q))(a2 v2:P)(K:P→O ((H P) × Q))(c:U){w:H U}(hw:w.length<l.length)(hN:l.length≤12) :
  ∀(r k n:U) (v:Q),k+r=w.length→r<n→∃b:Q,(b=F↔v=F∧∀(k':U) (h:k'<w.length),k≤k'→w[k']=c→Bj p m l w.length k'=F)∧
   Ds rec_ (Ch p m l) (nn w) a2 v2 (c:P) K n v (k:P)=Ds rec_ (Ch p m l) (nn w) a2 v2 (c:P) K 1 b (w.length:P):=by
 intro r
 induction r with
 | zero=>
  intro k n v hk hn;obtain⟨n,rfl⟩:∃n',n=n'+1:=⟨n - 1,by omega⟩;have:k=w.length:=by omega
  subst this;refine⟨v,⟨fun h=>⟨h,fun k' h1 h2=>by omega⟩,fun h=>h.1⟩,?_⟩;simp only[Ds,Ca,At,Nat.lt_irrefl,decide_false,Z,if_false]
 | succ r ih=>
  intro k n v hk hn;obtain⟨n,rfl⟩:∃n',n=n'+1:=⟨n - 1,by omega⟩;have hlt:k<w.length:=by omega
  rw[Ds,if_pos (by simp[Ca]; omega),Di hlt,X];have hwr:=AS hlt (show w.length≤maxLen by rw[AO]; omega);by_cases hc:w[k]=c
  ·obtain⟨x,x1,x2⟩:=A46 (p:=p) (m:=m) hw (show k<l.length by omega);rw[if_pos (by simp; omega),Ca,x1,X,x2,X];cases hb:Bj p m l w.length k with
   | true=>
    rw[if_pos rfl,hwr];obtain⟨b,b1,b2⟩:=ih (k+1) n v (by omega) (by omega);refine⟨b,b1.trans ⟨fun⟨g1,g2⟩=>⟨g1,fun k' h1 h2 h3=> ?_⟩,fun⟨g1,g2⟩=>⟨g1,fun k' h1 h2=>g2 k' h1 (by omega)⟩⟩,b2⟩;by_cases hkk:k=k'
    ·subst hkk; exact hb
    ·exact g2 k' h1 (by omega) h3
   | false=>
    rw[if_neg (by simp),hwr];obtain⟨b,b1,b2⟩:=ih (k+1) n E (by omega) (by omega);refine⟨b,b1.trans ⟨fun⟨g1,g2⟩=>(by cases g1),fun⟨g1,g2⟩=> ?_⟩,b2⟩;have:=g2 k hlt (yA _) hc;rw[hb] at this
    cases this
  ·rw[if_neg (by simp; omega),hwr];obtain⟨b,b1,b2⟩:=ih (k+1) n v (by omega) (by omega);refine⟨b,b1.trans ⟨fun⟨g1,g2⟩=>⟨g1,fun k' h1 h2 h3=> ?_⟩,fun⟨g1,g2⟩=>⟨g1,fun k' h1 h2=>g2 k' h1 (by omega)⟩⟩,b2⟩;by_cases hkk:k=k'
   ·subst hkk; exact absurd h3 hc
   ·exact g2 k' h1 (by omega) h3
theorem A5n(rec_:(H (H Q))→(H P)→P→O ((H P) × Q))(a0:H (H Q))(a2:P){w:H U}(hw:w.length≤12)(hx:∀x∈w,x<12) :
  ∀(r k n v:U),k+r=w.length→r<n→v≤12→∃u:U,u≤12∧v≤u∧(∀x∈w.drop k,x<u)∧Gi rec_ a0 (nn w) a2 n (v:P) (k:P)=DP rec_ a0 (nn w) a2 (u:P) bigN 0:=by
 intro r
 induction r with
 | zero=>
  intro k n v hk hn hv;obtain⟨n,rfl⟩:∃n',n=n'+1:=⟨n - 1,by omega⟩;refine⟨v,hv,yA _,fun x h=> ?_,?_⟩
  ·rw[List.drop_eq_nil_of_le (by omega)] at h; cases h
  ·rw[Gi,if_neg (by simp[Ca]; omega)]
 | succ r ih=>
  intro k n v hk hn hv;obtain⟨n,rfl⟩:∃n',n=n'+1:=⟨n - 1,by omega⟩;have hlt:k<w.length:=by omega
  have hk12:=hx _ (I hlt);rw[Gi,if_pos (by simp[Ca]; omega),Di hlt,X,AS hlt (by rw[AO]; omega)];have ew:yR .i64 (((w[k]:U):P)+1)=((w[k]+1:U):P):=AS (n:=12) hk12 (by rw[AO]; omega)
  have em:(if(v:P)<yR .i64 (((w[k]:U):P)+1) then yR .i64 (((w[k]:U):P)+1) else(v:P))=((if v<w[k]+1 then w[k]+1 else v:U):P):=by
   rw[ew];by_cases h:v<w[k]+1
   ·rw[if_pos (by omega),if_pos h]
   ·rw[if_neg (by omega),if_neg h]
  rw[em];obtain⟨u,u1,u2,u3,u4⟩:=ih (k+1) n (if v<w[k]+1 then w[k]+1 else v) (by omega) (by omega) (by split<;>omega);refine⟨u,u1,by split at u2<;>omega,fun x hx2=> ?_,u4⟩;rw[List.drop_eq_getElem_cons hlt] at hx2
  rcases List.mem_cons.1 hx2 with rfl|hx2
  ·split at u2<;>omega
  ·exact u3 x hx2
theorem iC(mm:U)(hmm:mm≤12)(hN:l.length≤12):∀(d fuel:U) (w:H U),w.length+d=l.length→d<fuel→(∀x∈w,x<mm)→ov (Bj p m l) w→
  ∃out ok,CA fuel (Ch p m l) (nn w) (mm:P)=G (out,ok)∧(ok=F↔CX (Bj p m l) l.length mm w):=by
 have hrl:(Ch p m l).length=l.length:=by simp[Ch]
 intro d
 induction d with
 | zero=>
  intro fuel w hd hf hx hv;obtain⟨fuel,rfl⟩:∃n',fuel=n'+1:=⟨fuel - 1,by omega⟩;refine⟨nn w,F,?_,⟨fun _=>uZ (by omega) hx (Z7 p m l) hv,fun _=>rfl⟩⟩;rw[CA,NZ,if_pos (by simp[Ca,hrl]; omega)]
 | succ d ih=>
  intro fuel w hd hf hx hv;obtain⟨fuel,rfl⟩:∃n',fuel=n'+1:=⟨fuel - 1,by omega⟩;have hw:w.length<l.length:=by omega
  rw[CA,NZ,if_neg (by simp[Ca,hrl]; omega)];obtain⟨u,u1,_,u3,u4⟩:=A5n (CA fuel) (Ch p m l) (mm:P) (w:=w) (by omega) (fun x h=>by have:=hx x h; omega) w.length 0 bigN 0 (by omega) (by rw[Cw]; omega) (by omega);have u4:Gi (CA fuel) (Ch p m l) (nn w) (mm:P) bigN 0 0=_:=u4;rw[u4]
  have key:∀(k c n:U),c+k=u+1→k<n→(∀c',c'<c→c'<mm→Jd (Bj p m l) w c'→¬CX (Bj p m l) l.length mm (w++ [c']))→
    ∃out ok,DP (CA fuel) (Ch p m l) (nn w) (mm:P) (u:P) n (c:P)=G (out,ok)∧(ok=F↔CX (Bj p m l) l.length mm w):=by
   have fin:∀c:U,(u<c∨mm≤c)→(∀c',c'<c→c'<mm→Jd (Bj p m l) w c'→¬CX (Bj p m l) l.length mm (w++ [c']))→¬CX (Bj p m l) l.length mm w:=fun c hc hno h=>by
    obtain⟨c',g1,g2,g3,g4⟩:=ua hw (fun x h=>u3 x (by simpa using h)) h;exact hno c' (by omega) g2 g3 g4
   intro k
   induction k with
   | zero=>
    intro c n hc hn hno;obtain⟨n,rfl⟩:∃n',n=n'+1:=⟨n - 1,by omega⟩;refine⟨[],E,?_,⟨fun h=>(by cases h),fun h=>absurd h (fin c (by omega) hno)⟩⟩;rw[DP,if_neg (by simp; omega)]
   | succ k ihk=>
    intro c n hc hn hno;obtain⟨n,rfl⟩:∃n',n=n'+1:=⟨n - 1,by omega⟩;rw[DP,if_pos (by simp; omega)];by_cases hcm:c<mm
    ·rw[if_pos (by simpa using hcm)];obtain⟨b,b1,b2⟩:=A5m (p:=p) (m:=m) (CA fuel) (mm:P) (u:P) (DP (CA fuel) (Ch p m l) (nn w) (mm:P) (u:P) n) c hw hN w.length 0 bigN F (by omega) (by rw[Cw]; omega);have b2:Ds (CA fuel) (Ch p m l) (nn w) (mm:P) (u:P) (c:P) (DP (CA fuel) (Ch p m l) (nn w) (mm:P) (u:P) n) bigN F 0=_:=b2;have hfit:b=F↔Jd (Bj p m l) w c:=b1.trans ⟨fun h k' h1 h2=>h.2 k' h1 (yP _) h2,fun h=>⟨rfl,fun k' h1 _ h2=>h k' h1 h2⟩⟩;have hwr:=AS (i:=c) (n:=12) (by omega) (by rw[AO]; omega)
     have hon:(Jd (Bj p m l) w c→¬CX (Bj p m l) l.length mm (w++ [c]))→∃out ok,Kt (CA fuel) (Ch p m l) (nn w) (mm:P) (u:P) (c:P) (DP (CA fuel) (Ch p m l) (nn w) (mm:P) (u:P) n)=G (out,ok)∧(ok=F↔CX (Bj p m l) l.length mm w):=fun h=>by
      unfold Kt;rw[hwr];refine ihk (c+1) n (by omega) (by omega) fun c' h1 h2 h3=> ?_
      by_cases hcc:c'=c
      ·subst hcc; exact h h3
      ·exact hno c' (by omega) h2 h3
     rw[b2,Ds,if_neg (by simp[Ca])];cases b with
     | false=>
      rw[if_neg (by simp)];exact hon fun h=>absurd (hfit.2 h) (by simp)
     | true=>
      have hf2:=hfit.1 rfl;rw[if_pos rfl,if_pos (EJ (by simp[Ca]; omega) (by omega)),if_pos (EJ (by simp[Ca]; omega) (by omega)),gW]
      obtain⟨out,ok,o1,o2⟩:=ih fuel (w++ [c]) (by simp; omega) (by omega) (fun x h=>by
       rcases List.mem_append.1 h with h|h
       ·exact hx x h
       ·rw[List.mem_singleton] at h; omega) (fun i k' hi hk' e=>by
       rcases zJ i w.length with h|h
       ·rw[zK h,zK (by omega)] at e
        exact hv i k' h hk' e
       ·have:i=w.length:=by simp at hi; omega
        subst this;rw[zK hk'] at e
        simp at e
        exact hf2 k' hk' e.symm)
      rw[o1,X];cases ok with
      | true=>exact⟨out,F,by rw[if_pos rfl],⟨fun _=>uY (o2.1 rfl),fun _=>rfl⟩⟩
      | false=>
       rw[if_neg (by simp)];exact hon fun _ h=>absurd (o2.2 h) (by simp)
    ·refine⟨[],E,by rw[if_neg (by simpa using hcm)],⟨fun h=>(by cases h),fun h=>absurd h (fin c (by omega) hno)⟩⟩
  exact key (u+1) 0 bigN (by omega) (by rw[Cw]; omega) (fun c' h=>by omega)
def P7(p:P)(m:H P)(l:H X8):Q:=(decide (l.length≤12)&&l.all Bu)&&DE p m
theorem ot(hl:m.length≤maxLen)(ho:P7 p m l=F):∃(n:U) (w1 w2:H P),n≤12∧Ck (Bj p m l) (2 ^ l.length - 1) n∧In p m l=G (w1,(n:P),F)∧M3 p m l=G (w2,(n:P),F):=by
 have ho':=ho;simp only[P7,C,decide_eq_true_eq] at ho'
 obtain⟨⟨hN,hda⟩,ht⟩:=ho';have hd:∀d∈l,Bu d=F:=fun d h=>zN.1 hda d h
 have hdo:(decide (l.length≤12)&&l.all Bu)=F:=by simp[hN,hda]
 obtain⟨ms,m1,m2,m3⟩:=yg hl ht hd hN;obtain⟨n,n1,n2,n3⟩:=A1e (Z7 p m l) hN (ms:=ms) ⟨m1,m2⟩
 have hmx:∀x∈ms,x<2 ^ 12:=fun x hx=>by
  obtain⟨i,hi,rfl⟩:=zQ hx;refine Ot fun j hj=> ?_
  have:=m2 i j (by omega);rw[Y hi] at this
  have this:ms[i].testBit j=GR p m l i j:=this;rw[this,GR,C,decide_eq_true_eq] at hj
  omega
 obtain⟨b,r,c1,c2,_⟩:=rC ms.length bigN ms [] (n:P) [] (by simp) (by rw[Cw]; omega) hmx (by omega) (fun g h=>by cases h) (by simp)
 have hsp:∀(k v fu:U),v+k=n→k<fu→∃w1,Io l (Ch p m l) fu (v:P)=G (w1,(n:P),F):=by
  have hnN:n≤l.length:=n1.2 _ (RG (by have:=Nat.pow_pos (n:=l.length) (show 0<2 by omega); omega));intro k
  induction k with
  | zero=>
   intro v fu hv hfu;obtain⟨fu,rfl⟩:∃n',fu=n'+1:=⟨fu - 1,by omega⟩;have:v=n:=by omega
   subst this;obtain⟨out,ok,s1,s2⟩:=iC (p:=p) (m:=m) v n2 hN l.length bigN [] (by simp) (by rw[Cw]; omega) (fun x h=>by cases h) (fun i k hi=>by simp at hi);have s1:Sv (Ch p m l) [] (v:P)=G (out,ok):=s1;have hok:ok=F:=s2.2 (eN.1 n1.1);subst hok;exact⟨out,by rw[Io,if_pos (by simp; omega),s1,X,if_pos rfl]⟩
  | succ k ihk=>
   intro v fu hv hfu;obtain⟨fu,rfl⟩:∃n',fu=n'+1:=⟨fu - 1,by omega⟩;obtain⟨out,ok,s1,s2⟩:=iC (p:=p) (m:=m) v (by omega) hN l.length bigN [] (by simp) (by rw[Cw]; omega) (fun x h=>by cases h) (fun i k hi=>by simp at hi);have s1:Sv (Ch p m l) [] (v:P)=G (out,ok):=s1
   have hok:ok=E:=by
    cases ok with
    | false=>rfl
    | true=>
     have:=n1.2 v (eN.2 (s2.1 rfl));omega
   subst hok;obtain⟨w1,e⟩:=ihk (v+1) fu (by omega) (by omega);refine⟨w1,?_⟩;rw[Io,if_pos (by simp; omega),s1,X,if_neg (by simp),AS (i:=v) (n:=13) (by omega) (by rw[AO]; omega)];exact e
 obtain⟨w1,e1⟩:=hsp n 0 bigN (by omega) (by rw[Cw]; omega);refine⟨n,w1,r.who,n2,n1,?_,?_⟩
 ·unfold In;rw[A53,hdo,X,if_pos rfl,iJ hl,ht,X];unfold Nz;rw[if_neg (by simp),A52 hl ht hd hN,X];exact e1
 ·unfold M3 RY;have ht':=ht;simp only[DE,C] at ht'
  rw[Ws,hdo,X,if_pos rfl,gM,ht'.1,X,if_pos rfl,fT hl,ht'.2,X,X,if_pos rfl,m3,X,n3,X];have c1:Wg ⟨nn ms,(n:P),[],[]⟩=G (b,r):=c1;rw[c1,X,c2]
end
section
variable {c : X6} {fl : H X5}
def Cz(c:X6)(p:X1):P × P:=if p.Toward=F then((B0 c p.Segment).A,(B0 c p.Segment).B) else((B0 c p.Segment).B,(B0 c p.Segment).A)
theorem OK{p:X1}(h:idx p.Segment c.Segments.length=F):Ff c p=G (Cz c p):=by
 unfold Ff Cz;rw[(C5 h).1,X];split<;>rfl
theorem fR{p:X1}(h:idx p.Segment c.Segments.length=F):JI p c=G (Cz c p):=by
 unfold JI Cz;rw[(C5 h).1,X];split<;>rfl
theorem eQ{p:X1}(hc:Bc c=F)(h:idx p.Segment c.Segments.length=F):0≤(Cz c p).1∧(Cz c p).1<8∧0≤(Cz c p).2∧(Cz c p).2<8:=by
 have hp:=(Fx hc).1;have hx:=(C5 h).2;simp only[Bc,C,decide_eq_true_eq,zN,yQ] at hc
 obtain⟨i,hi,e⟩:=zQ hx;have:=hc.2.2.2 i hi;simp only[DD,Y hi,e,idx,C,decide_eq_true_eq] at this
 unfold Cz;split<;>(simp only; omega)
theorem OB{p:X1}(hc:Bc c=F)(h:Cb c fl p=F):p.Start<p.End:=by
 simp only[Cb,Cq,C,decide_eq_true_eq] at h;obtain⟨h3,h4,h5,h6,h7⟩:=h;obtain⟨_,_,a,b⟩:=(Fx hc).2.2 _ (C5 h4).2;rw[h7];unfold Bn;split
 ·rw[Az (n:=2*_) (by omega) (by omega),Az (by omega) (by omega)]; omega
 ·rw[Az (by omega) (by omega)]; omega
theorem xx{p:X1}(hn:∀x∈c.Points,x.Name.length≤maxLen)(hf:∀x∈fl,x.Name.length≤maxLen)(h1:Bc c=F)(h2:Du fl=F):Ma c fl p=G (Cb c fl p):=by
 unfold Ma;rw[IM hn,h1,X,if_pos rfl,fM hf,h2,X,if_pos rfl,yh,X]
def CN(c:X6)(p q:X1):X8:=⟨p.Start,q.End,(Cz c p).1,(Cz c q).2⟩
theorem fQ{p q:X1}(h1:idx p.Segment c.Segments.length=F)(h2:idx q.Segment c.Segments.length=F):JN c p q=G (CN c p q):=by
 unfold JN;rw[fR h1,X,fR h2,X];rfl
theorem eO{p q:X1}(hc:Bc c=F)(h1:idx p.Segment c.Segments.length=F)(h2:idx q.Segment c.Segments.length=F)(h3:0≤p.Start)(h4:p.Start<q.End)(h5:q.End≤2880):Bu (CN c p q)=F:=by
 obtain⟨a1,a2,_,_⟩:=eQ hc h1;obtain⟨_,_,b1,b2⟩:=eQ hc h2;unfold Bu CN;simp only[C,decide_eq_true_eq];exact⟨h3,h4,h5,⟨a1,a2⟩,b1,b2⟩
theorem A8d{p:X1}{s:X5}(hs:ix fl p.Ship=G s)(h1:idx p.Segment c.Segments.length=F)(all:H X1)(v1:P)(K:P→H X8→O (H X8 × Q)){T:U}(hT:s.Tugs=(T:P))(hT4:T≤4) :
  ∀(r k n:U) (acc:H X8),k+r=T→r<n→acc.length≤12+k→Gl fl (Cz c p) all v1 c p K n (k:P) acc =
   if(decide ((12:P)<((acc++zA r (CN c p p)).length:P))) then G (([]:H X8),E) else K (yR .i64 (v1+(1:P))) (acc++zA r (CN c p p)):=by
 intro r
 induction r with
 | zero=>
  intro k n acc hk hn ha;obtain⟨n,rfl⟩:∃n',n=n'+1:=⟨n - 1,by omega⟩;rw[Gl,hs,X,if_neg (by rw[hT]; simp; omega)];simp
 | succ r ih=>
  intro k n acc hk hn ha;obtain⟨n,rfl⟩:∃n',n=n'+1:=⟨n - 1,by omega⟩;rw[Gl,hs,X,if_pos (by rw[hT]; simp; omega),if_pos (EJ (by simp; omega) (by omega)),AS (i:=k) (n:=5) (by omega) (by rw[AO]; omega)];have:=ih (k+1) n (acc++ [CN c p p]) (by omega) (by omega) (by simp; omega);refine this.trans ?_;rw[List.append_assoc];rfl
theorem A8c{p:X1}{s:X5}(h1:idx p.Segment c.Segments.length=F)(all:H X1)(v1:P)(K:P→H X8→O (H X8 × Q)){T:U}(hT:s.Tugs=(T:P))(hT4:T≤4) :
  ∀(r k n:U) (acc:H X8),k+r=T→r<n→acc.length≤12+k→FX fl all v1 s c p K n (k:P) acc =
   if(decide ((12:P)<((acc++zA r (CN c p p)).length:P))) then G (([]:H X8),E) else K (yR .i64 (v1+(1:P))) (acc++zA r (CN c p p)):=by
 intro r
 induction r with
 | zero=>
  intro k n acc hk hn ha;obtain⟨n,rfl⟩:∃n',n=n'+1:=⟨n - 1,by omega⟩;rw[FX,if_neg (by rw[hT]; simp; omega)];simp
 | succ r ih=>
  intro k n acc hk hn ha;obtain⟨n,rfl⟩:∃n',n=n'+1:=⟨n - 1,by omega⟩;rw[FX,if_pos (by rw[hT]; simp; omega),fQ h1 h1,X,if_pos (EJ (by simp; omega) (by omega)),AS (i:=k) (n:=5) (by omega) (by rw[AO]; omega)];have:=ih (k+1) n (acc++ [CN c p p]) (by omega) (by omega) (by simp; omega);refine this.trans ?_;rw[List.append_assoc];rfl
theorem W8{w:Xj}(h:EP w=F):Cq w.Rest=F∧Eu w.Moves=F:=by
 simp only[EP,C] at h;exact⟨h.2.2.1,by simp only[Eu,C]; exact h.2.2.2⟩
theorem pA{p:P}{m:H P}{l:H X8}(h1:l.length≤12)(h2:∀d∈l,Bu d=F)(h3:Cq p=F)(h4:Eu m=F):P7 p m l=F:=by
 simp only[P7,DE,h3,h4,Bool.and_self,Bool.and_true,C,decide_eq_true_eq,zN];exact⟨h1,h2⟩
end
theorem Pg{n m b:U}(h:n+m≤3000000000000)(hb:b≤40):AJ n m b=F:=by
 unfold AJ;have:(n+m)*b≤3000000000000*40:=yD h hb;simp;omega
def BU(l:H X2):H (H X1):=l.map fun o=>o.Passages
theorem A6c{l:H X2}(hl:l.length≤1048576)(hp:∀o∈l,o.Passages.length≤1048576):Nq l=G (BU l):=by
 unfold Nq;refine KX (L:=Ib l) l (fun o=>o.Passages) G (by rw[AO]; omega) (fun n i acc h ha=> ?_) (fun n acc ha=>by simp[Ib]);have:=hp _ (I h);rw[Ib,At,if_pos (by simpa using h),Aw h,X,if_pos (Pg (by simp; omega) (by omega)),if_pos (Pg (by simp; omega) (by omega))]
theorem vC{α R:Type}{L:U→P→H α→O R}(cs:H (H α))(K:O R)(hl:cs.length≤1048576)(hb:∀x∈cs,x.length≤1048576)
  (hs:∀(n i:U) (acc:H α) (h:i<cs.length),acc.length≤i*1048576→L (n+1) (i:P) acc=L n (yR .i64 ((i:P)+1)) (acc++cs[i])) (he:∀n,L (n+1) (cs.length:P) cs.flatten=K):L bigN 0 []=K∧cs.flatten.length≤1099511627776:=by
 have key:∀(k i n:U),i+k=cs.length→k<n→L n (i:P) (cs.take i).flatten=K:=by
  have hlen:∀i:U,i≤cs.length→(cs.take i).flatten.length≤i*1048576:=by
   intro i
   induction i with
   | zero=>intro _; simp
   | succ i ih=>
    intro hi;rw[zI (by omega),yJ,zP];have h1:=ih (by omega);have h2:=hb _ (I (show i<cs.length by omega));have e3: [cs[i]].flatten.length=cs[i].length:=by simp
    rw[e3];omega
  intro k
  induction k with
  | zero=>
   intro i n hi hn;obtain⟨m,rfl⟩:∃m,n=m+1:=⟨n - 1,by omega⟩;have:i=cs.length:=by omega
   subst this;rw[yM,he]
  | succ k ih=>
   intro i n hi hn;obtain⟨m,rfl⟩:∃m,n=m+1:=⟨n - 1,by omega⟩;have hlt:i<cs.length:=by omega
   rw[hs m i _ hlt (hlen i (by omega)),AS hlt (by rw[AO]; omega)];have:=ih (i+1) m (by omega) (by omega);rw[zI hlt,yJ] at this
   simpa using this
 have hall:∀(k:U),k≤cs.length→(cs.take k).flatten.length≤k*1048576:=by
  intro i
  induction i with
  | zero=>intro _; simp
  | succ i ih=>
   intro hi;rw[zI (by omega),yJ,zP];have h1:=ih (by omega);have h2:=hb _ (I (show i<cs.length by omega));have e3: [cs[i]].flatten.length=cs[i].length:=by simp
   rw[e3];omega
 refine⟨key cs.length 0 bigN (by omega) (by rw[Cw]; omega),?_⟩;have:=hall cs.length (yA _);rw[yM] at this
 omega
theorem A2h{α:Type}{Lm:U→P→P→H α→O (P × H α)}{Lh:H α→U→P→P→O P}(xs:H α)(c:U)(e:P→α)(k0:P)(h0:0≤k0)(hc:c≤100)(hl:xs.length≤1048576)(hk:k0≤10000000000)
  (hm:∀(n i:U) (k:P) (acc:H α),i<acc.length→acc.length≤1048576→0≤k→k≤100000000000→Lm (n+1) k (i:P) acc=Lm n (k+c) ((i+1:U):P) (acc.set i (e k)))
  (hme:∀(n:U) (k:P) (acc:H α),Lm (n+1) k (acc.length:P) acc=G (k,acc))
  (hh:∀(n i:U) (k:P) (ys:H α) (hi:i<ys.length),ys.length≤1048576→0≤k→k≤100000000000→ys[i]=e k→Lh ys (n+1) k (i:P)=Lh ys n (k+c) ((i+1:U):P))
  (hhe:∀(n:U) (k:P) (ys:H α),Lh ys (n+1) k (ys.length:P)=G k) :
  ∃ys,Lm bigN k0 0 xs=G (k0+c*(xs.length:P),ys)∧ys.length=xs.length∧Lh ys bigN k0 0=G (k0+c*(xs.length:P)):=by
 have bnd:∀i:U,i≤xs.length→k0+(c:P)*(i:P)≤100000000000∧0≤k0+(c:P)*(i:P):=by
  intro i hi;have h1:c*i≤100*1048576:=yD hc (by omega);have h2:((c*i:U):P)=(c:P)*(i:P):=by simp
  omega
 have keym:∀(k i n:U) (acc:H α),i+k=acc.length→acc.length=xs.length→k<n→(∀j (hj:j<acc.length),j<i→acc[j]=e (k0+c*(j:P)))→
   ∃ys,Lm n (k0+c*(i:P)) (i:P) acc=G (k0+c*(xs.length:P),ys)∧ys.length=xs.length∧∀j (hj:j<ys.length),ys[j]=e (k0+c*(j:P)):=by
  intro k
  induction k with
  | zero=>
   intro i n acc hi ha hn hj;obtain⟨m,rfl⟩:∃m,n=m+1:=⟨n - 1,by omega⟩;have:i=acc.length:=by omega
   subst this;exact⟨acc,by rw[hme,ha],ha,fun j hj2=>hj j hj2 hj2⟩
  | succ k ih=>
   intro i n acc hi ha hn hj;obtain⟨m,rfl⟩:∃m,n=m+1:=⟨n - 1,by omega⟩;have hb:=bnd i (by omega);rw[hm m i _ acc (by omega) (by omega) hb.2 hb.1]
   obtain⟨ys,e1,e2,e3⟩:=ih (i+1) m (acc.set i (e (k0+c*(i:P)))) (by simp; omega) (by simpa using ha) (by omega) (fun j hj2 hlt=>by
    by_cases e1:j=i
    ·subst e1; simp
    ·rw[List.getElem_set_ne (Ne.symm e1)];exact hj j (by simpa using hj2) (by omega))
   refine⟨ys,?_,e2,e3⟩;rw[← e1];congr 1
   rw[show(((i+1:U):P))=(i:P)+1 from rfl,Int.mul_add,Int.mul_one];omega
 obtain⟨ys,e1,e2,e3⟩:=keym xs.length 0 bigN xs (by omega) rfl (BG (by rw[AO]; omega)) (fun j _ h=>by omega)
 have keyh:∀(k i n:U),i+k=ys.length→k<n→Lh ys n (k0+c*(i:P)) (i:P)=G (k0+c*(xs.length:P)):=by
  intro k
  induction k with
  | zero=>
   intro i n hi hn;obtain⟨m,rfl⟩:∃m,n=m+1:=⟨n - 1,by omega⟩;have:i=ys.length:=by omega
   subst this;rw[hhe,e2]
  | succ k ih=>
   intro i n hi hn;obtain⟨m,rfl⟩:∃m,n=m+1:=⟨n - 1,by omega⟩;have hb:=bnd i (by omega);rw[hh m i _ ys (by omega) (by omega) hb.2 hb.1 (e3 i (by omega))];rw[← ih (i+1) m (by omega) (by omega)];congr 1
   rw[show(((i+1:U):P))=(i:P)+1 from rfl,Int.mul_add,Int.mul_one];omega
 refine⟨ys,?_,e2,?_⟩
 ·simpa using e1
 ·have:=keyh ys.length 0 bigN (by omega) (BG (by rw[AO]; omega));simpa using this
theorem A2x{s:H V}(h:DR s=F):1≤s.length∧s.length≤8:=by
 simp only[DR,KQ,C,decide_eq_true_eq] at h;omega
def OU(x p:P):P:=if x<yR .i64 (zC p 2) then
  yR .i64 (zC (yR .i64 (yR .i64 (40000*x)*yR .i64 (yR .i64 (zC p 2) - x))) (yR .i64 (yR .i64 (zC p 2)*yR .i64 (zC p 2))))
 else yR .i64 (0 - yR .i64 (zC (yR .i64 (yR .i64 (40000*yR .i64 (x - yR .i64 (zC p 2)))*yR .i64 (yR .i64 (zC p 2) - yR .i64 (x - yR .i64 (zC p 2))))) (yR .i64 (yR .i64 (zC p 2)*yR .i64 (zC p 2)))))
theorem Xt{p:P}(h:Fv p=F):4≤p∧p≤2880∧yR .i64 (zS p 4)=0:=by
 simp only[Fv,C,decide_eq_true_eq,beq_iff_eq] at h;exact⟨h.1.1,h.1.2,h.2⟩
theorem fG{p:P}(h1:4≤p)(h2:p≤2880):(yR .i64 (yR .i64 (zC p 2)*yR .i64 (zC p 2))==0)=E:=by
 have e:zC p 2=p / 2:=zZ (by omega);rw[e,Az (n:=p / 2) (by omega) (by omega)];generalize hq:p / 2=q
 have q1:2≤q:=by omega
 have q2:q≤1440:=by omega
 have m1:2*2≤q*q:=Int.mul_le_mul q1 q1 (by omega) (by omega);have m2:q*q≤1440*1440:=Int.mul_le_mul q2 q2 (by omega) (by omega);rw[Az (by omega) (by omega)];simp only[beq_eq_false_iff_ne,ne_eq];omega
theorem A6b{n p:P}(hp:Fv p=F)(hn:0≤n)(hn2:n≤100000):NP n p=G (OU (zS n p) p):=by
 obtain⟨p1,p2,p3⟩:=Xt hp;have hm:zS n p=n % p:=zH hn;have r1:=Int.emod_nonneg n (show p≠0 by omega);have r2:=Int.emod_lt_of_pos n (show 0<p by omega);unfold NP;rw[hm,Az (n:=n % p) (by omega) (by omega),p3];have k1:¬p<4:=by omega
 have k2:¬2880<p:=by omega
 have k3:(p==0)=E:=by simp; omega
 have k4:¬n % p<0:=by omega
 simp only[k1,k2,k3,k4,decide_false,Z,if_false,bne_self_eq_false];unfold NQ OU;rw[fG p1 p2];simp only[Z,if_false,decide_eq_true_eq];split<;>rfl
theorem yc{n p:P}(hp:Fv p=F)(hn:0≤n)(hn2:n≤100000):Ml n p=G (OU (zS n p) p):=by
 obtain⟨p1,p2,p3⟩:=Xt hp;have hm:zS n p=n % p:=zH hn;have r1:=Int.emod_nonneg n (show p≠0 by omega);have r2:=Int.emod_lt_of_pos n (show 0<p by omega);have k3:(p==0)=E:=by simp; omega
 have hmm:zS (n % p+p) p=n % p:=by
  rw[zH (by omega),Int.add_emod_right,Int.emod_emod]
 unfold Ml;rw[fm,hp,X,hm,Az (n:=n % p) (by omega) (by omega),Az (n:=n % p+p) (by omega) (by omega),hmm,Az (n:=n % p) (by omega) (by omega),fG p1 p2];simp only[k3,Z,if_false,if_true,decide_eq_true_eq];unfold OU;by_cases hx:n % p<yR .i64 (zC p 2)
 ·rw[if_pos hx,if_neg (by omega)]
 ·rw[if_neg hx,if_pos (by omega)]
theorem A1x{t:Xi}{m:P}(ht:EB t=F)(h0:0≤m)(h1:m≤2880):∃r,Kq t m=G r∧RW t m=G r:=by
 simp only[EB,C,decide_eq_true_eq,zN] at ht
 obtain⟨_,hl,hp⟩:=ht;have hlm:t.Parts.length≤maxLen:=by rw[AO]; omega
 have key:∀(k i n:U) (v:P),i+k=t.Parts.length→k<n→∃r,IB m t n v (i:P)=G r∧Hw m t n v (i:P)=G r:=by
  intro k
  induction k with
  | zero=>
   intro i n v hi hn;obtain⟨q,rfl⟩:∃q,n=q+1:=⟨n - 1,by omega⟩;have:i=t.Parts.length:=by omega
   subst this;exact⟨v,by simp[IB],by simp[Hw]⟩
  | succ k ih=>
   intro i n v hi hn;obtain⟨q,rfl⟩:∃q,n=q+1:=⟨n - 1,by omega⟩;have hlt:i<t.Parts.length:=by omega
   have hx:=hp _ (I hlt);simp only[GC,C,decide_eq_true_eq] at hx
   obtain⟨_,hx1,hx2,hx3⟩:=hx;obtain⟨p1,p2,_⟩:=Xt hx1;rw[Az (by omega) (by omega)] at hx3
   have hw:=Az (n:=m+t.Parts[i].Phase) (by omega) (by omega);obtain⟨r,e1,e2⟩:=ih (i+1) q (yR .i64 (v+yR .i64 (zC (yR .i64 (t.Parts[i].Amp*OU (zS (m+t.Parts[i].Phase) t.Parts[i].Period) t.Parts[i].Period)) 10000))) (by omega) (by omega);rw[← AS hlt hlm] at e1 e2
   refine⟨r,?_,?_⟩
   ·simp only[IB,AA,Y hlt,X,At,hlt,decide_true,if_true,hw,A6b hx1 (show 0≤m+t.Parts[i].Phase by omega) (by omega)];exact e1
   ·simp only[Hw,AA,Y hlt,X,At,hlt,decide_true,if_true,hw,yc hx1 (show 0≤m+t.Parts[i].Phase by omega) (by omega)];exact e2
 exact key t.Parts.length 0 bigN t.Mean (by omega) (BG hlm)
theorem um{f:Xc}(h:D9 f=F):EB f.Tide=F∧0<f.Surges.length∧f.Surges.length≤6:=by
 simp only[D9,C,decide_eq_true_eq] at h;refine⟨h.1,?_,?_⟩<;>omega
theorem A64{f:Xc}{m:P}(h0:0<f.Surges.length)(h6:f.Surges.length≤6):∃(a:U) (ha:a<f.Surges.length),LX f m=G (a:P)∧IC f m=G f.Surges[a]:=by
 have hl:f.Surges.length≤maxLen:=by rw[AO]; omega
 have key:∀(k i n a:U) (ha:a<f.Surges.length),i+k=f.Surges.length→k<n→∃(a':U) (ha':a'<f.Surges.length),ER m f n (a:P) (i:P)=G (a':P)∧
   Fc m f n (i:P) f.Surges[a].From f.Surges[a].Low f.Surges[a].High=G f.Surges[a']:=by
  intro k
  induction k with
  | zero=>
   intro i n a ha hi hn;obtain⟨q,rfl⟩:∃q,n=q+1:=⟨n - 1,by omega⟩;have:i=f.Surges.length:=by omega
   subst this;exact⟨a,ha,by simp[ER],by simp[Fc]⟩
  | succ k ih=>
   intro i n a ha hi hn;obtain⟨q,rfl⟩:∃q,n=q+1:=⟨n - 1,by omega⟩;have hlt:i<f.Surges.length:=by omega
   by_cases hm:f.Surges[i].From≤m
   ·obtain⟨a',ha',e1,e2⟩:=ih (i+1) q i hlt (by omega) (by omega);rw[← AS hlt hl] at e1 e2
    refine⟨a',ha',?_,?_⟩
    ·simp only[ER,AA,Y hlt,X,At,hlt,decide_true,if_true,hm];exact e1
    ·simp only[Fc,AA,Y hlt,X,At,hlt,decide_true,if_true,hm];exact e2
   ·obtain⟨a',ha',e1,e2⟩:=ih (i+1) q a ha (by omega) (by omega);rw[← AS hlt hl] at e1 e2
    refine⟨a',ha',?_,?_⟩
    ·simp only[ER,AA,Y hlt,X,At,hlt,decide_true,if_true,hm,decide_false,Z,if_false];exact e1
    ·simp only[Fc,AA,Y hlt,X,At,hlt,decide_true,if_true,hm,decide_false,Z,if_false];exact e2
 obtain⟨a,ha,e1,e2⟩:=key f.Surges.length 0 bigN 0 h0 (by omega) (BG hl);have z:((0:U):P)=0:=rfl;rw[z] at e1 e2
 have e0:ix f.Surges 0=G f.Surges[0]:=Aw h0;refine⟨a,ha,?_,?_⟩
 ·unfold LX;exact e1
 ·unfold IC;rw[e0,X];exact e2
def XH(s:X5):P:=if s.Slow=F then yR .i64 (zC s.Draught 50) else yR .i64 (zC s.Draught 20)
def KP(c:X6)(i:P)(s:X5):P:=yR .i64 (yR .i64 (yR .i64 (s.Draught+XH s)+50) - (B0 c i).Depth)
theorem A54{c:X6}{s:X5}{i:P}(hn:∀x∈c.Points,x.Name.length≤maxLen)(hs:s.Name.length≤maxLen)(h1:Bc c=F)(h2:CG s=F)(h3:idx i c.Segments.length=F):NA c i s=G (KP c i s):=by
 have:=(Fx h1).2.1;unfold NA IG So Sq;simp only[Fy hn,J1 hs,h1,h2,X,if_true,Dv i (show c.Segments.length≤1000 by omega),h3,(C5 h3).1,KP,XH];cases s.Slow<;>rfl
theorem xu{c:X6}{s:X5}{i:P}(hn:∀x∈c.Points,x.Name.length≤maxLen)(hs:s.Name.length≤maxLen)(h1:Bc c=F)(h2:CG s=F)(h3:idx i c.Segments.length=F):M4 c i s=G (KP c i s):=by
 unfold M4 HC RQ RS;simp only[IM hn,Gs hs,h1,h2,X,if_true,Em,h3,(C5 h3).1,KP,XH];cases s.Slow<;>rfl
def OV(l:H X4)(i:U):Q:=match l[i]? with
 | some x=>decide (0≤x.From)&&(decide (x.From≤x.To)&&(decide (x.To≤2880)&&(match l[i - 1]? with | some y=>decide (i=0) || !(decide (x.From≤yR .i64 (y.To+1))) | none=>F)))
 | none=>E
def OW(l:H X4):Q:=(zB l.length).all (OV l)
theorem gp{α:Type}{l:H α}{i:U}(h0:0<i)(hi:i<l.length)(hl:l.length≤maxLen):ix l (yR .i64 ((i:P) - 1))=G (l[i - 1]'(by omega)):=by
 rw[AO] at hl
 rw[Az (by omega) (by omega),show(i:P) - 1=((i - 1:U):P) by omega,Aw (by omega)]
theorem iK{l:H X4}(hl:l.length≤maxLen):Ko l=G (OW l):=by
 unfold Ko OW;refine La (L:=Fb l) l.length (OV l) hl (fun n i hi=> ?_) (fun n=>by simp[Fb]);have hp:i - 1<l.length:=by omega
 simp only[Fb,At,hi,decide_true,if_true,Aw hi,X,BF,OV,Y hi,Y hp];generalize Fb l n (yR .i64 ((i:P)+1))=K
 by_cases h0:i=0
 ·subst h0;have hz:¬(0:P)<((0:U):P):=by omega
  simp only[hz,decide_false,Z,if_false,decide_true,Bool.true_or];by_cases a1:0≤l[0].From<;>by_cases a2:l[0].From≤l[0].To<;>by_cases a3:l[0].To≤2880<;>by_cases a4:l[0].From≤2880<;>simp[a1,a2,a3,a4]<;>omega
 ·have hz:(0:P)<(i:P):=by omega
  simp only[hz,decide_true,if_true,gp (by omega) hi hl,X,h0,decide_false,Bool.false_or];by_cases a1:0≤l[i].From<;>by_cases a2:l[i].From≤l[i].To<;>by_cases a3:l[i].To≤2880<;>by_cases a4:l[i].From≤2880<;>by_cases a5:l[i].From≤yR .i64 (l[i - 1].To+1)<;>simp[a1,a2,a3,a4,a5]<;>omega
theorem fP{l:H X4}(hl:l.length≤maxLen):JK l=G (OW l):=by
 unfold JK OW;refine La (L:=EV l) l.length (OV l) hl (fun n i hi=> ?_) (fun n=>by simp[EV]);have hp:i - 1<l.length:=by omega
 simp only[EV,At,hi,decide_true,if_true,Aw hi,X,OV,Y hi,Y hp];generalize EV l n (yR .i64 ((i:P)+1))=K
 have b1:decide (l[i].From<0)= !decide (0≤l[i].From):=by rw[zF]; simp
 have b2:decide (l[i].To<l[i].From)= !decide (l[i].From≤l[i].To):=by rw[zF]; simp
 have b3:decide (2880<l[i].To)= !decide (l[i].To≤2880):=by rw[zF]; simp
 rw[b1,b2,b3];by_cases h0:i=0
 ·subst h0;have hz:¬(0:P)<((0:U):P):=by omega
  simp only[hz,decide_false,Z,if_false,decide_true,Bool.true_or];cases decide (0≤l[0].From)<;>cases decide (l[0].From≤l[0].To)<;>cases decide (l[0].To≤2880)<;>rfl
 ·have hz:(0:P)<(i:P):=by omega
  simp only[hz,decide_true,if_true,gp (by omega) hi hl,X,h0,decide_false,Bool.false_or];cases decide (0≤l[i].From)<;>cases decide (l[i].From≤l[i].To)<;>cases decide (l[i].To≤2880)<;>cases decide (l[i].From≤yR .i64 (l[i - 1].To+1))<;>rfl
def D3(g:U→Q)(n:U):Q:=decide (0<n)&&g (n - 1)
def Xy(v:H X4)(n:P):H X4:=v.dropLast++ [⟨(v.getLast?.getD ⟨0,0⟩).From,n⟩]
def Bi(g:U→Q):U→H X4
 | 0=> []
 | n+1=>if g n=F then(if D3 g n=F then Xy (Bi g n) (n:P) else Bi g n++ [⟨(n:P),(n:P)⟩]) else Bi g n
theorem gZ(g:U→Q)(n:U):D3 g (n+1)=g n:=by simp[D3]
theorem Xz(l:H X4)(x:X4)(n:P):Xy (l++ [x]) n=l++ [⟨x.From,n⟩]:=by simp[Xy]
theorem Tu(g:U→Q):∀n,(Bi g n).length≤n∧(D3 g n=F→∃l x,Bi g n=l++ [x]∧x.To=(n:P) - 1)∧(D3 g n=E→Bi g n= []∨∃l x,Bi g n=l++ [x]∧x.To<(n:P) - 1)
 | 0=>⟨by simp[Bi],by simp[D3],fun _=> .inl rfl⟩
 | n+1=>by
  obtain⟨h1,h2,h3⟩:=Tu g n;rw[gZ];by_cases hg:g n=F
  ·by_cases ho:D3 g n=F
   ·obtain⟨l,x,e,ht⟩:=h2 ho;have ew:Bi g (n+1)=l++ [⟨x.From,(n:P)⟩]:=by simp only[Bi,hg,if_true,ho,e,Xz]
    refine⟨by rw[ew]; rw[e] at h1; simp at h1 ⊢; omega,fun _=>⟨l,_,ew,by simp only; omega⟩,fun h=>by rw[hg] at h; cases h⟩
   ·have ew:Bi g (n+1)=Bi g n++ [⟨(n:P),(n:P)⟩]:=by simp only[Bi,hg,if_true,ho,if_false]; rfl
    refine⟨by rw[ew]; simp; omega,fun _=>⟨_,_,ew,by simp only; omega⟩,fun h=>by rw[hg] at h; cases h⟩
  ·have ew:Bi g (n+1)=Bi g n:=by simp[Bi,hg]
   rw[ew];refine⟨by omega,fun h=>absurd h hg,fun _=> ?_⟩;cases ho:D3 g n with
   | true=>
    obtain⟨l,x,e,ht⟩:=h2 ho;exact .inr ⟨l,x,e,by omega⟩
   | false=>
    rcases h3 ho with e|⟨l,x,e,ht⟩
    ·exact .inl e
    ·exact .inr ⟨l,x,e,by omega⟩
theorem kb{g g':U→Q}:∀n,(∀j,j<n→g j=g' j)→Bi g n=Bi g' n
 | 0,_=>rfl
 | n+1,h=>by
  have e1:D3 g n=D3 g' n:=by
   unfold D3;by_cases h0:0<n
   ·rw[h (n - 1) (by omega)]
   ·simp[h0]
  simp only[Bi,h n (by omega),e1,kb n fun j hj=>h j (by omega)]
theorem T6{l:H X4}{x:X4}(h:l.length≤100000):ix (l++ [x]) (yR .i64 (((l++ [x]).length:P) - 1))=G x∧Int.toNat (yR .i64 (((l++ [x]).length:P) - 1))=l.length:=by
 have e:yR .i64 (((l++ [x]).length:P) - 1)=((l.length:U):P):=by
  rw[Az (by simp<;>omega) (by simp<;>omega)];simp
 rw[e];exact⟨by rw[Aw (by simp)]; simp,by simp⟩
theorem A55{L:H Q}(hl:L.length≤3000):NT L=G (Bi (fun i=>L.getD i E) L.length):=by
 unfold NT
 have key:∀(k i n:U),i+k=L.length→k<n→Ei L n (i:P) (Bi (fun i=>L.getD i E) i)=G (Bi (fun i=>L.getD i E) L.length):=by
  intro k
  induction k with
  | zero=>
   intro i n hi hn;obtain⟨m,rfl⟩:∃m,n=m+1:=⟨n - 1,by omega⟩;have:i=L.length:=by omega
   subst this;simp[Ei]
  | succ k ih=>
   intro i n hi hn;obtain⟨m,rfl⟩:∃m,n=m+1:=⟨n - 1,by omega⟩;have hlt:i<L.length:=by omega
   have ih':=ih (i+1) m (by omega) (by omega);have hw:=AS hlt (show L.length≤maxLen by rw[AO]; omega);obtain⟨w1,w2,w3⟩:=Tu (fun i=>L.getD i E) i;have hgi:L.getD i E=L[i]:=by simp[hlt]
   rw[Bi] at ih'
   simp only[hgi] at ih'
   simp only[Ei,At,hlt,decide_true,if_true,Aw hlt,X];have hwm:yR .i64 ((i:P) - 1)=(i:P) - 1:=Az (by omega) (by omega);generalize hwi:Bi (fun i=>L.getD i E) i=v at *
   cases hb:L[i] with
   | false=>
    rw[hb] at ih'
    simp only[Z,if_false] at ih' ⊢
    rw[hw];exact ih'
   | true=>
    rw[hb] at ih'
    simp only[if_true] at ih' ⊢
    cases ho:D3 (fun i=>L.getD i E) i with
    | true=>
     rw[ho] at ih'
     obtain⟨l,x,rfl,ht⟩:=w2 ho;obtain⟨q1,q2⟩:=T6 (l:=l) (x:=x) (by simp at w1; omega);have hpos:0<(l++ [x]).length:=by simp
     have hpos':decide ((0:P)<((l++ [x]).length:P))=F:=decide_eq_true (by omega);rw[if_pos hpos',q1];simp only[X,ID,hwm,ht,beq_self_eq_true,if_true,q1,q2];rw[hw];simp only[if_true,Xz] at ih'
     simpa using ih'
    | false=>
     rw[ho] at ih'
     simp only[Z,if_false] at ih'
     have fin:∀w:H X4,w=v→ID (i:P) L w (Ei L m) E=G (Bi (fun i=>L.getD i E) L.length):=by
      rintro w rfl
      simp only[ID,Z,if_false];rw[O6 (by simp; omega) (by omega),hw];exact ih'
     rcases w3 ho with rfl|⟨l,x,rfl,ht⟩
     ·exact fin [] rfl
     ·obtain⟨q1,q2⟩:=T6 (l:=l) (x:=x) (by simp at w1; omega);have hpos':decide ((0:P)<((l++ [x]).length:P))=F:=decide_eq_true (by simp<;>omega);have hne:(x.To==(i:P) - 1)=E:=by simp<;>omega
      rw[if_pos hpos',q1];simp only[X,hwm,hne];exact fin _ rfl
 exact key L.length 0 bigN (by omega) (BG (by rw[AO]; omega))
theorem xv{a0:P→O Q}{g:U→Q}(h:∀i:U,i≤2880→a0 (i:P)=G (g i)):Mz a0=G (Bi g 2881):=by
 unfold Mz
 have key:∀(k i n:U),i+k=2881→k<n→F0 a0 n (D3 g i) (i:P) (Bi g i)=G (Bi g 2881):=by
  intro k
  induction k with
  | zero=>
   intro i n hi hn;obtain⟨m,rfl⟩:∃m,n=m+1:=⟨n - 1,by omega⟩;have:i=2881:=by omega
   subst this;simp[F0]
  | succ k ih=>
   intro i n hi hn;obtain⟨m,rfl⟩:∃m,n=m+1:=⟨n - 1,by omega⟩;have hle:decide ((i:P)≤2880)=F:=decide_eq_true (by omega);have ih':=ih (i+1) m (by omega) (by omega);have hw:yR .i64 ((i:P)+1)=((i+1:U):P):=AS (n:=2881) (by omega) (by rw[AO]; omega);obtain⟨w1,w2,w3⟩:=Tu g i;rw[gZ,Bi] at ih'
   simp only[F0,hle,if_true,h i (by omega),X];generalize hwi:Bi g i=v at *
   cases hb:g i with
   | false=>
    rw[hb] at ih'
    simp only[Z,if_false,HI] at ih' ⊢
    rw[hw];exact ih'
   | true=>
    rw[hb] at ih'
    simp only[if_true] at ih' ⊢
    cases ho:D3 g i with
    | true=>
     rw[ho] at ih'
     obtain⟨l,x,rfl,ht⟩:=w2 ho;obtain⟨q1,q2⟩:=T6 (l:=l) (x:=x) (by simp at w1; omega);simp only[if_true,JS,q1,X,HI,q2];rw[hw];simp only[if_true,Xz] at ih'
     simpa using ih'
    | false=>
     rw[ho] at ih'
     simp only[Z,if_false] at ih' ⊢
     rw[O6 (by simp; omega) (by omega)];obtain⟨q1,q2⟩:=T6 (l:=v) (x:=⟨(i:P),0⟩) (by omega);simp only[JS,q1,X,HI,q2];rw[hw];simpa using ih'
 have:=key 2881 0 bigN (by omega) (BG (by rw[AO]; omega));exact this
def Dx(f:Xc)(m:U):P:=yR .i64 ((Kq f.Tide (m:P)).getD 0+((IC f (m:P)).getD ⟨0,0,0⟩).Low)
theorem gF{f:Xc}(hf:D9 f=F){m:U}(hm:m≤2880):∃r x,Kq f.Tide (m:P)=G r∧IC f (m:P)=G x∧Dx f m=yR .i64 (r+x.Low)∧LW f (m:P)=G (Dx f m):=by
 obtain⟨ht,h0,h6⟩:=um hf;obtain⟨r,r1,r2⟩:=A1x ht (show(0:P)≤(m:P) by omega) (by omega);obtain⟨a,ha,a1,a2⟩:=A64 (m:=(m:P)) h0 h6;refine⟨r,_,r1,a2,by simp[Dx,r1,a2],?_⟩;unfold LW;simp[r2,a1,Aw ha,Dx,r1,a2]
theorem A1y{f:Xc}(hf:D9 f=F)(lv:P):NR f lv E=G (Bi (fun i=>decide (lv≤Dx f i)) 2881):=by
 unfold NR
 have key:∀(k i n:U),i+k=2881→k<n→Ge lv f n E (i:P) ((zB i).map fun j=>decide (lv≤Dx f j))=G (Bi (fun i=>decide (lv≤Dx f i)) 2881):=by
  intro k
  induction k with
  | zero=>
   intro i n hi hn;obtain⟨m,rfl⟩:∃m,n=m+1:=⟨n - 1,by omega⟩;have:i=2881:=by omega
   subst this;have hd:decide (((2881:U):P)≤2880)=E:=by decide
   simp only[Ge,hd,Z,if_false];rw[A55 (by simp)];simp only[X,List.length_map,List.length_range];refine congrArg G (kb 2881 fun j hj=> ?_);show(((zB 2881).map fun j=>decide (lv≤Dx f j)).getD j E)=_
   rw[List.getD_eq_getElem?_getD,yF,List.getElem?_range hj];rfl
  | succ k ih=>
   intro i n hi hn;obtain⟨m,rfl⟩:∃m,n=m+1:=⟨n - 1,by omega⟩;have hle:decide ((i:P)≤2880)=F:=decide_eq_true (by omega);have hw:yR .i64 ((i:P)+1)=((i+1:U):P):=AS (n:=2881) (by omega) (by rw[AO]; omega);obtain⟨r,x,e1,e2,e3,_⟩:=gF hf (show i≤2880 by omega);simp only[Ge,hle,if_true,e2,X,Z,if_false,NS,e1];rw[O6 (by simp; omega) (by omega),hw];have:=ih (i+1) m (by omega) (by omega);rw[List.range_succ,List.map_append] at this
   simpa[e3] using this
 have:=key 2881 0 bigN (by omega) (BG (by rw[AO]; omega));exact this
theorem A18{f:Xc}(hf:D9 f=F)(lv:P):M5 f lv=G (Bi (fun i=>decide (lv≤Dx f i)) 2881):=by
 unfold M5;rw[O7,hf];simp only[X,if_true];rw[xv (g:=fun i=>decide (lv≤Dx f i)) fun i hi=> ?_]
 ·rfl
 ·obtain⟨_,_,_,_,_,e⟩:=gF hf hi;simp[RO,e]
theorem A5w(a1:P)(a0:H X4)(hl:a0.length≤100000):∃r,Fa a1 a0 bigN 0 []=G r∧EU a1 a0 bigN 0 []=G r∧r.length≤a0.length:=by
 have key:∀(k i n:U) (acc:H X4),i+k=a0.length→k<n→acc.length≤i→∃r,Fa a1 a0 n (i:P) acc=G r∧EU a1 a0 n (i:P) acc=G r∧r.length≤a0.length:=by
  intro k
  induction k with
  | zero=>
   intro i n acc hi hn ha;obtain⟨m,rfl⟩:∃m,n=m+1:=⟨n - 1,by omega⟩;have:i=a0.length:=by omega
   subst this;exact⟨acc,by simp[Fa],by simp[EU],ha⟩
  | succ k ih=>
   intro i n acc hi hn ha;obtain⟨m,rfl⟩:∃m,n=m+1:=⟨n - 1,by omega⟩;have hlt:i<a0.length:=by omega
   simp only[Fa,EU,At,hlt,decide_true,if_true,Aw hlt,X];rw[AS hlt (show a0.length≤maxLen by rw[AO]; omega)];by_cases hc:a1≤yR .i64 (a0[i].To - a0[i].From)
   ·simp only[hc,decide_true,if_true];rw[O6 (by simp; omega) (by omega),O6 (by simp; omega) (by omega)];exact ih (i+1) m _ (by omega) (by omega) (by simp; omega)
   ·simp only[hc,decide_false,Z,if_false];exact ih (i+1) m _ (by omega) (by omega) (by omega)
 exact key a0.length 0 bigN [] (by omega) (BG (by rw[AO]; omega)) (by simp)
theorem A6k{f:Xc}{c:X6}{s:X5}{i:P}(hf:D9 f=F)(hn:∀x∈c.Points,x.Name.length≤maxLen)(hs:s.Name.length≤maxLen)(h1:Bc c=F)(h2:CG s=F)(h3:idx i c.Segments.length=F) :
  ∃r,NM f c i s=G r∧Mh f c i s=G r∧r.length≤2881:=by
 have hsg:=(Fx h1).2.1;have hW:=(Tu (fun j=>decide (KP c i s≤Dx f j)) 2881).1
 have hmin:M6 c i s=G (Bn (B0 c i) s):=by
  unfold M6;simp only[IM hn,Gs hs,h1,h2,X,if_true,Em,h3,(C5 h3).1,O8]
 have hok1:IG c i s=G F:=by
  unfold IG;simp only[Fy hn,J1 hs,h1,h2,X,if_true,Dv i (show c.Segments.length≤1000 by omega),h3]
 have hok2:HC c i s=G F:=by
  unfold HC;simp only[IM hn,Gs hs,h1,h2,X,if_true,Em,h3]
 unfold NM Ss Mh;simp only[XE,O7,hf,X,if_true,hok1,hok2,A54 hn hs h1 h2 h3,xu hn hs h1 h2 h3,A1y hf,A18 hf,iH hn hs h1 h2 h3,hmin];generalize Bi (fun j=>decide (KP c i s≤Dx f j)) 2881=W at hW
 have hWm:W.length≤maxLen:=by rw[AO]; omega
 unfold Sp RU;simp only[iK hWm,fP hWm,X,BF,Gt];obtain⟨r,r1,r2,r3⟩:=A5w (Bn (B0 c i) s) W (by omega);by_cases hw:OW W=F
 ·by_cases hm:(decide (0≤Bn (B0 c i) s)&&decide (Bn (B0 c i) s≤2880))=F
  ·exact⟨r,by simp only[hw,hm,if_true,r1,X],by simp only[hw,hm,if_true,r2,X],by omega⟩
  ·exact⟨[],by simp[hw,hm],by simp[hw,hm],by simp⟩
 ·exact⟨[],by simp[hw],by simp[hw],by simp⟩
def XG(c:V):H V→H V→H (H V)
 | cur,[]=> [cur]
 | cur,b::r=>if b=c then cur::XG c [] r else XG c (cur++ [b]) r
def split(c:V)(s:H V):H (H V):=XG c [] s
theorem B4f{n:P}(h0:0≤n)(h1:n≤255):IntKind.u8.wrap n=n:=by
 rw[IntKind.wrap_u8];omega
theorem qd{m n:U}(h:m+n≤140737488355328):Ce m n=F:=by
 unfold Ce;rw[decide_eq_true_eq];omega
theorem ifc{α:Type}{m n:U}(h:m+n≤140737488355328)(x y:α):(if Ce m n=F then x else y)=x:=by rw[if_pos (qd h)]
theorem RI{k:U}(h:k<10):([IntKind.u8.wrap (48+(k:P))]:H P).map GK= [UInt8.ofNat (48+k)]:=by
 rw[B4f (by omega) (by omega)];simp only[List.map_cons,List.map_nil,GK];congr 2
theorem A0h(u:U):itoa (u:P)=decDigits u:=itoa_nonneg u
theorem vD(rec_:P→O (H V)):∀(u n:U) (s:H V),u<n→u≤9223372036854775807→s.length+(decDigits u).length≤1000→Kd rec_ n (u:P) s=G (decDigits u++s):=by
 intro u
 induction u using Nat.strongRecOn with
 | _ u ih=>
  intro n s hn hu hs;obtain⟨m,rfl⟩:∃m,n=m+1:=⟨n - 1,by omega⟩;have hd1:1≤(decDigits u).length:=by have:=sW u; cases h:decDigits u<;>simp_all
  rw[Kd];by_cases h:u<10
  ·have hd:¬((9:P)<(u:P)):=by omega
   simp only[hd,decide_false,Z,if_false];rw[Az (by omega) (by omega),RI h,ifc (by simp; omega),decDigits_one h]
  ·have hd:(9:P)<(u:P):=by omega
   simp only[hd,decide_true,if_true];have e1:zS (u:P) 10=((u % 10:U):P):=by rw[zH (by omega)]; rfl
   have e2:zC (u:P) 10=((u / 10:U):P):=by rw[zZ (by omega)]; rfl
   rw[e1,e2,Az (show -9223372036854775808≤((u % 10:U):P) by omega) (by omega),Az (by omega) (by omega),Az (by omega) (by omega),RI (by omega),ifc (by simp; omega)];rw[W9 h] at hs
   rw[ih (u / 10) (by omega) m _ (by omega) (by omega) (by simp at hs ⊢; omega),W9 h];simp
theorem gU:∀(k u:U),u<10 ^ (k+1)→nDigits u≤k+1
 | 0,u,h=>by rw[nDigits_small (by simpa using h)]; exact yA _
 | k+1,u,h=>by
  by_cases h9:u<10
  ·rw[nDigits_small h9]; omega
  ·rw[nDigits_big h9];have:=gU k (u / 10) (by rw[Nat.pow_succ] at h; omega);omega
theorem Wa(u:U)(h:u≤9223372036854775808):(decDigits u).length≤19:=by
 rw[decDigits_length];exact gU 18 u (by omega)
theorem A7p(u:U):zC (-(u:P)) 10= -((u / 10:U):P):=by
 rw[Int.neg_tdiv,zZ (by omega)]; rfl
theorem A7q(u:U):zS (-(u:P)) 10= -((u % 10:U):P):=by
 rw[Int.neg_tmod,zH (by omega)]; rfl
theorem A0g{u:U}(h:1≤u):itoa (-(u:P))=45::decDigits u:=itoa_neg u h
theorem vE:∀(u n:U),u<n→1≤u→u≤9223372036854775808→Eh n (-(u:P))=G (45::decDigits u):=by
 intro u
 induction u using Nat.strongRecOn with
 | _ u ih=>
  intro n hn h1 hu;obtain⟨m,rfl⟩:∃m,n=m+1:=⟨n - 1,by omega⟩;have hl:=Wa u hu;rw[Eh,Ke];have hd: -(u:P)<0:=by omega
  simp only[hd,decide_true,if_true];rw[A7p,A7q,Az (show -9223372036854775808≤ -((u / 10:U):P) by omega) (by omega)];by_cases h:u<10
  ·have e0:u / 10=0:=by omega
   rw[e0];simp only[Int.ofNat_zero,Int.neg_zero,beq_self_eq_true,if_true];rw[show(48:P) - -(u:P)=48+(u:P) by omega,Az (by omega) (by omega),RI h,ifc (by simp),decDigits_one h];rfl
  ·have hne:(-((u / 10:U):P)==0)=E:=by simp; omega
   simp only[hne,Z,if_false];rw[ih (u / 10) (by omega) m (by omega) (by omega) (by omega)];have hl2:=Wa (u / 10) (by omega);simp only[X];rw[Az (show -9223372036854775808≤ -((u % 10:U):P) by omega) (by omega),show(48:P) - -((u % 10:U):P)=48+((u % 10:U):P) by omega,Az (by omega) (by omega),RI (by omega),ifc (by simp; omega),W9 h];simp
theorem Wj{n:P}(h:i64 n):Kc n=G (itoa n):=by
 obtain⟨h1,h2⟩:=h;unfold Kc;by_cases hn:n<0
 ·obtain⟨u,rfl⟩:∃u:U,n= -(u:P):=⟨n.natAbs,by omega⟩;rw[vE u bigN (by rw[Cw]; omega) (by omega) (by omega),A0g (by omega)]
 ·obtain⟨u,rfl⟩:∃u:U,n=(u:P):=⟨n.toNat,by omega⟩;obtain⟨m,hm⟩:∃m,bigN=m+1:=⟨bigN - 1,by rw[Cw]⟩;have e:Eh bigN (u:P)=Ke (Eh m) u:=by rw[hm,Eh]
  have hd:¬(u:P)<0:=by omega
  have hl:=Wa u (by omega);rw[e,Ke];simp only[hd,decide_false,Z,if_false];rw[vD _ u bigN [] (by rw[Cw]; omega) (by omega) (by simp; omega),A0h];simp
theorem yd{n:P}(h:i64 n):LY n=G (itoa n):=by
 simp[LY,SA,h]
theorem ye{l:H (H V)}{sep:H V}(hl:l.length≤140737488355328)(hj:(join l sep).length≤140737488355328):JF l sep=G (join l sep):=by
 simp[JF,SB,hl,hj]
def mk(k:P):H V:=(Ef k).getD []
theorem uN{xs:H (H V)}(h:xs.length≤maxLen):FY xs xs=G F:=by
 have key:∀(k i n:U),i+k=xs.length→k<n→HS xs xs n (i:P)=G F:=by
  intro k
  induction k with
  | zero=>
   intro i n hi hn;obtain⟨m,rfl⟩:∃m,n=m+1:=⟨n - 1,by omega⟩;have:i=xs.length:=by omega
   subst this;simp[HS]
  | succ k ih=>
   intro i n hi hn;obtain⟨m,rfl⟩:∃m,n=m+1:=⟨n - 1,by omega⟩;have hlt:i<xs.length:=by omega
   simp only[HS,At,hlt,decide_true,if_true,Aw hlt,X,bne_self_eq_false,beq_self_eq_true,Z,if_false];rw[AS hlt h];exact ih (i+1) m (by omega) (by omega)
 unfold FY;have:=key xs.length 0 bigN (by omega) (BG h);simpa using this
end Go.Vi
