/-
Plain laws. No condition.
-/
import Derived.Test.YtfoohbeloilepaaGreatRNf
import Derived.Test.YtfoohbeloilepaaGreatRVi33
import Derived.KernelRfl
import Derived.Test.YtfoohbeloilepaaGreatRLa
namespace Go.Vi
open Go.Lib
set_option linter.all false
open Option renaming bind_some → zB, some → O
open List renaming getElem?_eq_getElem → zC, getElem_mem → zF, getElem?_append_left → zH, replicate → zI, take_succ_eq_append_getElem → zJ, length_append → zK, range → zM, getElem_append_left → zN, getElem_of_mem → zO, mem_singleton → zS, getElem?_append_right → zT, length_pos_iff → zU, mem_append → zV, drop_eq_getElem_cons → zW, getLast?_eq_getElem? → zX, length_singleton → zY, all_eq_true → yB, getElem?_set_ne → yE, take_length → yF, getElem?_set_self → yG, mem_cons_of_mem → yH, getElem_append_right → yI, mem_cons_self → yJ, map → yK, range' → yL, append_assoc → yM, flatten_append → yT, nil_append → yV, drop_zero → kA, getElem?_cons_zero → kB, getElem?_map → kD, head?_eq_getElem? → kF, getElem_set_self → kG, foldr_cons → kH, take_append_of_le_length → kI, mem_range → kJ, getElem?_eq_some_iff → kL, getLast?_eq_none_iff → kM, range'_succ → kN, any_eq_true → kP, getElem_map → kQ, mem_map → kR, length_cons → kS, length_take → kT, map_append → kW, length_nil → kY
open Bool renaming false_eq_true → zD, and_eq_true → zE, true_and → zQ, eq_iff_iff → zR, or_eq_true → kV, true → E, false → G
open Option.some renaming injEq → zG, inj → kX
open Nat renaming zero_le → zL, mod_two_eq_zero_or_one → yA, lt_or_ge → yC, lt_trans → yD, testBit_or → yN, testBit_two_pow_sub_one → yO, pow_le_pow_right → yP, eq_of_testBit_eq → yQ, pow_lt_pow_right → yR, testBit_and → yU, lt_of_lt_of_le → yW, lt_of_le_of_lt → yY, mul_le_mul → yZ, or_lt_two_pow → kC, le_refl → kE, pow_pos → kK, sub_zero → kO, and_div_two → kU
open Int renaming toNat_natCast → zP, tdiv → zZ, tmod_eq_emod_of_nonneg → yS, tmod → yX, lt_irrefl → kZ
open _root_ renaming List → Q, Option → U, Int → X, Bool → Y, Nat → Z, UInt8 → I, rfl → zA
def AB(a b:Z):Z:=a ^^^ (a &&& b)
theorem EE(a b i:Z):(AB a b).testBit i=(a.testBit i&& !b.testBit i):=by
 simp only[AB,Nat.testBit_xor,yU];cases a.testBit i<;>cases b.testBit i<;>rfl
theorem J6(n i:Z):(2 ^ n).testBit i=decide (n=i):=Nat.testBit_two_pow
theorem GU{s n i:Z}(h:s<2 ^ n)(hi:s.testBit i=E):i<n:=by
 rcases yC i n with h1|h1
 ·exact h1
 ·have:s<2 ^ i:=yW h (yP (by omega) h1);rw[Nat.testBit_lt_two_pow this] at hi
  cases hi
theorem wY{s i:Z}(hi:s.testBit i=E):i<s:=GU Nat.lt_two_pow_self hi
theorem XS(p:Z→Y):∀k:Z,∃q:Z,∀i,q.testBit i=(decide (i<k)&&p i)
 | 0=>⟨0,fun i=>by simp⟩
 | k+1=>by
  obtain⟨q,hq⟩:=XS p k;refine⟨q ||| (if p k then 2 ^ k else 0),fun i=> ?_⟩;rw[yN,hq];by_cases hp:p k=E
  ·rw[if_pos hp,J6];by_cases h:k=i
   ·subst h; simp[hp]
   ·have:decide (i<k+1)=decide (i<k):=by simp; omega
    simp[h,this]
  ·rw[if_neg hp,Nat.zero_testBit];by_cases h:k=i
   ·subst h; simp[hp]
   ·have:decide (i<k+1)=decide (i<k):=by simp; omega
    simp[this]
theorem wF{q r:Z}(h:q &&& r=q){i:Z}(hi:q.testBit i=E):r.testBit i=E:=by
 have:=congrArg (fun x=>x.testBit i) h;simp only[yU,hi,zQ] at this
 exact this
theorem SG{q r:Z}(h:∀i,q.testBit i=E→r.testBit i=E):q &&& r=q:=by
 apply yQ
 intro i;rw[yU];cases hq:q.testBit i with
 | false=>rfl
 | true=>rw[h i hq]; rfl
theorem sd:∀(n r p q:Z),r≤n→p &&& r=p→q &&& r=q→q<p→q≤(p - 1) &&& r:=by
 intro n
 induction n with
 | zero=>
  intro r p q hr hp hq hlt;have:r=0:=by omega
  subst this;rw[Nat.and_zero] at hp hq
  omega
 | succ n ih=>
  intro r p q hr hp hq hlt;by_cases h0:r=0
  ·subst h0;rw[Nat.and_zero] at hp hq
   omega
  have hp2:(p / 2) &&& (r / 2)=p / 2:=by rw[← kU,hp]
  have hq2:(q / 2) &&& (r / 2)=q / 2:=by rw[← kU,hq]
  have e2:∀a b:Z,(a &&& b) % 2=(a % 2)*(b % 2):=fun a b=>by
   have h:=yU a b 0;simp only[Nat.testBit_zero] at h;rcases yA a with ha|ha<;>rcases yA b with hb|hb<;>rcases yA (a &&& b) with hc|hc<;>simp_all
  have hpm:=e2 p r;have hqm:=e2 q r;rw[hp] at hpm
  rw[hq] at hqm
  have hd:((p - 1) &&& r) / 2=((p - 1) / 2) &&& (r / 2):=kU;have hm:=e2 (p - 1) r;rcases yA p with h1|h1
  ·-- an even one
   have i1:=ih (r / 2) (p / 2) (q / 2) (by omega) hp2 hq2 (by omega);have e3:(p - 1) / 2=p / 2 - 1:=by omega
   rw[e3] at hd
   have e4:(p - 1) % 2=1:=by omega
   rw[e4,Nat.one_mul] at hm
   have hqr:q % 2≤r % 2:=by
    rcases yA q with h2|h2
    ·omega
    ·rw[h2,Nat.one_mul] at hqm; omega
   omega
  ·have e3:(p - 1) / 2=p / 2:=by omega
   rw[e3,hp2] at hd
   omega
theorem eq{p r:Z}(h:0<p):(p - 1) &&& r<p:=by
 have:= @Nat.and_le_left (p - 1) r;omega
theorem eu(p r:Z):(p &&& r) &&& r=p &&& r:=by rw[Nat.and_assoc,Nat.and_self]
def E4(B:Z→Z→Y)(S m:Z):Prop:=∃f:Z→Z,(∀i,S.testBit i=E→f i<m)∧∀i j,S.testBit i=E→S.testBit j=E→i≠j→f i=f j→B i j=E
def EL(B:Z→Z→Y)(S:Z):Prop:=∀i j,S.testBit i=E→S.testBit j=E→i≠j→B i j=E
def Ca(B:Z→Z→Y)(S n:Z):Prop:=E4 B S n∧∀m,E4 B S m→n≤m
theorem P1{B:Z→Z→Y}{S n:Z}(h:S<2 ^ n):E4 B S n:=⟨id,fun i hi=>GU h hi,fun i j _ _ hne e=>absurd e hne⟩
theorem Sy{B:Z→Z→Y}:Ca B 0 0:=⟨⟨id,fun i hi=>by simp at hi,fun i j hi=>by simp at hi⟩,fun m _=>zL m⟩
theorem gz{B:Z→Z→Y}{S t rest q n:Z}(hS:∀i,S.testBit i=E→i=t∨rest.testBit i=E)(hq:EL B (q ||| 2 ^ t))(h:E4 B (AB rest q) n):E4 B S (1+n):=by
 obtain⟨f,f1,f2⟩:=h
 have key:∀i,S.testBit i=E→(i=t∨q.testBit i=E)∨(AB rest q).testBit i=E:=fun i hi=>by
  rcases hS i hi with h|h
  ·exact .inl (.inl h)
  ·cases hb:q.testBit i with
   | true=>exact .inl (.inr rfl)
   | false=>right; rw[EE,h,hb]; rfl
 have hin:∀i,(i=t∨q.testBit i=E)→(q ||| 2 ^ t).testBit i=E:=fun i hi=>by
  rw[yN,J6];rcases hi with h|h
  ·simp[h]
  ·simp[h]
 refine⟨fun i=>if i=t∨q.testBit i=E then n else f i,fun i hi=> ?_,fun i j hi hj hne e=> ?_⟩
 ·by_cases hx:i=t∨q.testBit i=E
  ·simp only[hx,if_true]; omega
  ·simp only[hx,if_false];rcases key i hi with h|h
   ·exact absurd h hx
   ·have:=f1 i h; omega
 ·by_cases hx:i=t∨q.testBit i=E
  ·by_cases hy:j=t∨q.testBit j=E
   ·exact hq i j (hin i hx) (hin j hy) hne
   ·simp only[hx,hy,if_true,if_false] at e
    have:=f1 j ((key j hj).resolve_left hy);omega
  ·by_cases hy:j=t∨q.testBit j=E
   ·simp only[hx,hy,if_true,if_false] at e
    have:=f1 i ((key i hi).resolve_left hx);omega
   ·simp only[hx,hy,if_false] at e
    exact f2 i j ((key i hi).resolve_left hx) ((key j hj).resolve_left hy) hne e
theorem hD{B:Z→Z→Y}{S t rest m:Z}(hS:S.testBit t=E)(hr:∀i,rest.testBit i=E→S.testBit i=E)(h:E4 B S m):∃q n,q &&& rest=q∧EL B (q ||| 2 ^ t)∧n+1=m∧E4 B (AB rest q) n:=by
 obtain⟨f,f1,f2⟩:=h;obtain⟨q,hq⟩:=XS (fun i=>rest.testBit i&&decide (f i=f t)) rest
 have hq2:∀i,q.testBit i=E↔rest.testBit i=E∧f i=f t:=fun i=>by
  rw[hq i];constructor
  ·intro h;simp only[zE,decide_eq_true_eq] at h;exact h.2
  ·intro⟨h1,h2⟩;simp only[zE,decide_eq_true_eq];exact⟨wY h1,h1,h2⟩
 have hm:=f1 t hS;refine⟨q,m - 1,SG fun i hi=>((hq2 i).1 hi).1,fun i j hi hj hne=> ?_,by omega,fun i=>if f i=m - 1 then f t else f i,fun i hi=> ?_,fun i j hi hj hne e=> ?_⟩
 ·have side:∀i,(q ||| 2 ^ t).testBit i=E→S.testBit i=E∧f i=f t:=fun i hi=>by
   rw[yN,J6,kV,decide_eq_true_eq] at hi
   rcases hi with h|h
   ·exact⟨hr i ((hq2 i).1 h).1,((hq2 i).1 h).2⟩
   ·subst h; exact⟨hS,rfl⟩
  obtain⟨i1,i2⟩:=side i hi;obtain⟨j1,j2⟩:=side j hj;exact f2 i j i1 j1 hne (i2.trans j2.symm)
 ·rw[EE,zE] at hi
  have hne:f i≠f t:=fun e=>by
   have:=(hq2 i).2 ⟨hi.1,e⟩;rw[this] at hi
   simp at hi
  have:=f1 i (hr i hi.1);show(if f i=m - 1 then f t else f i)<m - 1
  split<;>omega
 ·rw[EE,zE] at hi hj
  have hni:f i≠f t:=fun e=>by
   have:=(hq2 i).2 ⟨hi.1,e⟩;rw[this] at hi
   simp at hi
  have hnj:f j≠f t:=fun e=>by
   have:=(hq2 j).2 ⟨hj.1,e⟩;rw[this] at hj
   simp at hj
  have e2:f i=f j:=by
   have e:(if f i=m - 1 then f t else f i)=(if f j=m - 1 then f t else f j):=e;split at e<;>split at e<;>omega
  exact f2 i j (hr i hi.1) (hr j hj.1) hne e2
def CR(B:Z→Z→Y)(N m:Z)(w:Q Z):Prop:=∃f:Z→Z,(∀(j:Z) (h:j<w.length),f j=w[j])∧(∀j,j<N→f j<m)∧∀i j,i<N→j<N→i≠j→f i=f j→B i j=E
def Je(B:Z→Z→Y)(w:Q Z)(c:Z):Prop:=∀(k:Z) (h:k<w.length),w[k]=c→B w.length k=E
theorem lX{B:Z→Z→Y}{N m:Z}{w:Q Z}{c:Z}(h:CR B N m (w++ [c])):CR B N m w:=by
 obtain⟨f,f1,f2⟩:=h;exact⟨f,fun j hj=>by rw[f1 j (by simp; omega),zN hj],f2⟩
theorem lZ{B:Z→Z→Y}{N m u:Z}{w:Q Z}(hw:w.length<N)(hu:∀x∈w,x<u)(h:CR B N m w):∃c,c≤u∧c<m∧Je B w c∧CR B N m (w++ [c]):=by
 obtain⟨f,f1,f2,f3⟩:=h
 have done:∀f:Z→Z,(∀(j:Z) (h:j<w.length),f j=w[j])→(∀j,j<N→f j<m)→(∀i j,i<N→j<N→i≠j→f i=f j→B i j=E)→f w.length≤u→∃c,c≤u∧c<m∧Je B w c∧CR B N m (w++ [c]):=by
  intro f f1 f2 f3 hle;refine⟨f w.length,hle,f2 _ hw,fun k hk e=>f3 _ _ hw (by omega) (by omega) ((e.symm.trans (f1 k hk).symm)),f,fun j hj=> ?_,f2,f3⟩;rcases yC j w.length with h|h
  ·rw[zN h]; exact f1 j h
  ·have:j=w.length:=by simp at hj; omega
   subst this;simp
 by_cases hc:f w.length≤u
 ·exact done f f1 f2 f3 hc
 ·have hm:=f2 _ hw;refine done (fun x=>if f x=f w.length then u else if f x=u then f w.length else f x) (fun j hj=> ?_) (fun j hj=> ?_) (fun i j hi hj hne e=>f3 i j hi hj hne ?_) (by simp)
  ·have e1:=f1 j hj;have e2:=hu _ (zF hj);show(if f j=f w.length then u else if f j=u then f w.length else f j)=w[j]
   rw[if_neg (by omega),if_neg (by omega),e1]
  ·have:=f2 j hj;show(if f j=f w.length then u else if f j=u then f w.length else f j)<m
   split
   ·omega
   ·split<;>omega
  ·have e:(if f i=f w.length then u else if f i=u then f w.length else f i)=(if f j=f w.length then u else if f j=u then f w.length else f j):=e;split at e<;>split at e<;>(try split at e)<;>(try split at e)<;>omega
theorem lY{B:Z→Z→Y}{N m:Z}{w:Q Z}(hl:w.length=N)(hm:∀x∈w,x<m)(hB:∀i j,B i j=B j i)(hv:∀(i k:Z) (hi:i<w.length) (hk:k<i),w[i]=w[k]→B i k=E):CR B N m w:=by
 subst hl;have e:∀(j:Z) (h:j<w.length),w[j]?.getD 0=w[j]:=fun j h=>by rw[zC h]; rfl
 refine⟨fun j=>w[j]?.getD 0,fun j hj=>e j hj,fun j hj=> ?_,fun i j hi hj hne h=> ?_⟩
 ·show w[j]?.getD 0<m
  rw[e j hj]; exact hm _ (zF hj)
 ·have h:w[i]?.getD 0=w[j]?.getD 0:=h;rw[e i hi,e j hj] at h;rcases yC j i with hlt|hge
  ·exact hv i j hi hlt h
  ·rw[hB]; exact hv j i hj (by omega) h.symm
theorem UV{B:Z→Z→Y}{N m:Z}:E4 B (2 ^ N - 1) m↔CR B N m []:=by
 have ht:∀i,(2 ^ N - 1).testBit i=decide (i<N):=fun i=>yO N i
 constructor
 ·rintro⟨f,f1,f2⟩
  exact⟨f,fun j h=>by simp at h,fun j hj=>f1 j (by rw[ht]; simpa using hj),fun i j hi hj hne e=>f2 i j (by rw[ht]; simpa using hi) (by rw[ht]; simpa using hj) hne e⟩
 ·rintro⟨f,_,f1,f2⟩
  exact⟨f,fun j hj=>f1 j (by rw[ht] at hj; simpa using hj),fun i j hi hj hne e=>f2 i j (by rw[ht] at hi; simpa using hi) (by rw[ht] at hj; simpa using hj) hne e⟩
theorem Bu(n lo hi:X):Ax n lo hi=O (decide (lo≤n)&&decide (n≤hi)):=by
 unfold Ax;by_cases h:lo≤n<;>simp[h]
theorem Dh(n lo hi:X):BJ n lo hi=O (decide (lo≤n)&&decide (n≤hi)):=by
 unfold BJ;by_cases h:lo≤n<;>simp[h]
theorem Eu{n bytes:Z}(h:n≤1048576)(hb:bytes≤1000):BM (n:X) (n:X) bytes=O n:=by
 unfold BM
 have:(n:X)*(bytes:X)≤140737488355328:=by
  have:n*bytes≤1048576*1000:=yZ h hb;have e:((n*bytes:Z):X)=(n:X)*(bytes:X):=by simp
  omega
 rw[if_pos ⟨by omega,by omega,this,by omega⟩];simp
theorem IQ{n:Z}(h:n≤1048576):n≤maxLen:=by rw[Az]; omega
theorem wh{xs:Q X}(h:xs.length≤1048576):Mw xs=O xs:=by
 unfold Mw;rw[Eu h (by omega)];have:=Hb (L:=I1 xs) xs id (IQ h) (fun n i acc hi ha=>by simp[I1,Ak,hi,ha]) (fun n acc=>by simp[I1]) (zI xs.length 0) (by simp);simpa using this
theorem lD{xs ys:Q X}(h:xs.length≤maxLen):M5 xs ys=O (decide (xs=ys)):=by
 unfold M5;by_cases hl:xs.length=ys.length
 ·have:=Jw (L:=HS xs ys) xs ys h hl (fun n i h1 h2=>by simp[HS,Ak,h1,h2]) (fun n=>by simp[HS]);simp[hl,this]
 ·have:¬(xs.length:X)=ys.length:=by omega
  have:xs≠ys:=fun e=>hl (by rw[e])
  simp_all
theorem GE{α:Type}{row:α→Q D}{xs:Q α}(h:(D.sl (yK row xs)).Ok):xs.length≤maxLen:=by simpa using h.sl.1
theorem GB(n:X):CS n=O (decide (0≤n)&&decide (n≤2880)):=by simp[CS,Dh]
theorem Vj{len:Z}(p:Z→Y)(K:U Y):∀(k i:Z),(yL i k).foldr (fun i r=>if p i=E then r else O G) K=if(yL i k).all p=E then K else O G
 | 0,i=>by simp
 | k+1,i=>by
  rw[kN,kH,Vj (len:=len) p K k (i+1),List.all_cons];cases p i<;>rfl
theorem Vk{len:Z}(p:Z→Y)(K:U Y):∀(k i:Z),(yL i k).foldr (fun i r=>if p i=E then O G else r) K=if(yL i k).any p=E then O G else K
 | 0,i=>by simp
 | k+1,i=>by
  rw[kN,kH,Vk (len:=len) p K k (i+1),List.any_cons];cases p i<;>rfl
theorem FL{L:Z→X→U Y}(len:Z)(p:Z→Y)(K:U Y)(hl:len≤maxLen)
  (hs:∀(n i:Z),i<len→L (n+1) (i:X)=if p i=E then L n (IntKind.i64.wrap ((i:X)+1)) else O G) (he:∀n,L (n+1) (len:X)=K):L bigN 0=if(zM len).all p=E then K else O G:=by
 have:=IX L len hl (fun i r=>if p i=E then r else O G) K hs he len 0 bigN (by omega) (BL hl);rw[Vj (len:=len),← List.range_eq_range'] at this
 exact this
theorem Ug{L:Z→X→U Y}(len:Z)(p:Z→Y)(K:U Y)(hl:len≤maxLen)
  (hs:∀(n i:Z),i<len→L (n+1) (i:X)=if p i=E then O G else L n (IntKind.i64.wrap ((i:X)+1))) (he:∀n,L (n+1) (len:X)=K):L bigN 0=if(zM len).any p=E then O G else K:=by
 have:=IX L len hl (fun i r=>if p i=E then O G else r) K hs he len 0 bigN (by omega) (BL hl);rw[Vk (len:=len),← List.range_eq_range'] at this
 exact this
def IU(s:Q I)(i:Z):Y:=match s[i]? with
 | some b=>(decide (97≤(b.toNat:X))&&decide ((b.toNat:X)≤122)) || (!(decide (i=0))&&(decide (48≤(b.toNat:X))&&decide ((b.toNat:X)≤57)))
 | none=>G
def KH(s:Q I):Y:=decide (1≤(s.length:X))&&decide ((s.length:X)≤8)
def DU(s:Q I):Y:=KH s&&(zM s.length).all (IU s)
theorem Y4(c:X)(K:U Y)(z':Y)(z:X)(i:Z)(hz:z=(i:X)) :
  (if decide (97≤c)=E then(if decide (c≤122)=E then K else if(z==0)=E then O G else if decide (c<48)=E then O G else if decide (57<c)=E then O G else K)
   else if G=E then K else if(z==0)=E then O G else if decide (c<48)=E then O G else if decide (57<c)=E then O G else K) =
  if((decide (97≤c)&&decide (c≤122)) || (!(decide (i=0))&&(decide (48≤c)&&decide (c≤57))))=E then K else O G:=by
 subst hz;have e0:(((i:Z):X)==0)=decide (i=0):=by rw[zR]; simp
 have e1:decide (c<48)= !decide (48≤c):=by rw[zR]; simp
 have e2:decide (57<c)= !decide (c≤57):=by rw[zR]; simp
 rw[e0,e1,e2];cases decide (i=0)<;>cases decide (97≤c)<;>cases decide (c≤122)<;>cases decide (48≤c)<;>cases decide (c≤57)<;>rfl
theorem YS{s:Q I}(h:s.length≤maxLen):K5 s=O (DU s):=by
 unfold K5;rw[FL (L:=Gc s) s.length (IU s) (O (KH s)) h (fun n i hi=> ?_) (fun n=>by simp[Gc,Bu,KH])]
 ·unfold DU;cases(zM s.length).all (IU s)<;>simp
 ·simp only[Gc,MM,MN,Ak,IU,zC hi,zB,Aj,hi,decide_true,if_true];exact Y4 _ _ E (i:X) i zA
theorem WL{s:Q I}(h:s.length≤maxLen):JB s=O (DU s):=by
 unfold JB;rw[Dh];rw[FL (L:=FT s) s.length (IU s) (O E) h (fun n i hi=> ?_) (fun n=>by simp[FT])]
 ·unfold DU KH;simp only[zB];cases(zM s.length).all (IU s)<;>cases(decide (1≤(s.length:X))&&decide ((s.length:X)≤8))<;>simp
 ·simp only[FT,Lm,Ln,Ak,IU,zC hi,zB,Aj,hi,decide_true,if_true];exact Y4 _ _ E (i:X) i zA
theorem Nu{R:Type}(p:Z→Y)(f:Z→R)(z:R):∀(k i:Z),(yL i k).foldr (fun i r=>if p i=E then O (f i) else r) (O z)=O ((yL i k).foldr (fun i r=>if p i=E then f i else r) z)
 | 0,i=>by simp
 | k+1,i=>by
  rw[kN,kH,Nu p f z k (i+1),kH];cases p i<;>simp
def Of(xs:Q X7)(s:Q I)(i:Z):Y:=match xs[i]? with
 | some x=>decide (x.Name=s)
 | none=>G
def Og(xs:Q X7)(s:Q I):X:=(yL 0 xs.length).foldr (fun i r=>if Of xs s i=E then(i:X) else r) (-1)
theorem vN{c:X1}{s:Q I}(h:c.Points.length≤maxLen):MX c s=O (Og c.Points s):=by
 unfold MX;exact(IX (Io s c) c.Points.length h (fun i r=>if Of c.Points s i=E then O (i:X) else r) (O (-1)) (fun n i hi=>by simp[Io,Ak,hi,Of]) (fun n=>by simp[Io]) c.Points.length 0 bigN (by omega) (BL h)).trans (Nu _ _ _ _ _)
theorem pi{c:X1}{s:Q I}(h:c.Points.length≤maxLen):Lx c s=O (Og c.Points s):=by
 unfold Lx;exact(IX (Hv s c) c.Points.length h (fun i r=>if Of c.Points s i=E then O (i:X) else r) (O (-1)) (fun n i hi=>by simp[Hv,Ak,hi,Of]) (fun n=>by simp[Hv]) c.Points.length 0 bigN (by omega) (BL h)).trans (Nu _ _ _ _ _)
def jn(y:X2)(a b:X):Y:=(decide (y.A=a)&&decide (y.B=b)) || (decide (y.A=b)&&decide (y.B=a))
theorem vU(y:X2)(a b:X):Na y a b=O (jn y a b):=by
 unfold Na jn;by_cases h1:y.A=a<;>by_cases h2:y.B=b<;>by_cases h3:y.A=b<;>by_cases h4:y.B=a<;>simp_all
theorem pr(y:X2)(a b:X):LB y a b=O (jn y a b):=by
 unfold LB jn;by_cases h1:y.A=a<;>by_cases h2:y.B=b<;>by_cases h3:y.A=b<;>by_cases h4:y.B=a<;>simp_all
theorem wL{xs:Q X}{l:X}(h0:0≤l)(h1:l≤1048576)(hx:xs.length≤maxLen):∃r,Ml xs l=O r∧(0≤r→r≤l∧xs.length≤1048576):=by
 unfold Ml;rw[Az] at hx
 rw[Ap (by omega) (by omega)];by_cases h:l - (xs.length:X)<0
 ·exact⟨-1,by simp[h],by omega⟩
 ·exact⟨l - xs.length,by simp[h],by omega⟩
theorem Kz(i n:X):Bq i n=O (decide (0≤i)&&decide (i<n)):=by
 unfold Bq;by_cases h:0≤i<;>simp[h]
def idx(i:X)(n:Z):Y:=decide (0≤i)&&decide (i<(n:X))
theorem WS(i:X){n:Z}(h:n≤1000):(decide (0≤i)&&decide (i≤IntKind.i64.wrap ((n:X) - 1)))=idx i n:=by
 rw[Ap (by omega) (by omega)];unfold idx;congr 1
 rw[zR];simp;omega
def DC(c:X1)(i:Z):Y:=match c.Segments[i]? with
 | some x=>idx x.A c.Points.length&&(idx x.B c.Points.length&&(!(decide (x.A=x.B))&&((decide (0≤x.Depth)&&decide (x.Depth≤3000))&&((decide (1≤x.Minutes)&&decide (x.Minutes≤240))&& !((zM i).any fun j=>match c.Segments[j]? with | some y=>jn y x.A x.B | none=>G)))))
 | none=>G
def GO(c:X1)(i:Z):Y:=match c.Points[i]? with
 | some x=>DU x.Name&&decide (Og c.Points x.Name=(i:X))
 | none=>G
def AH(c:X1):Y:=decide (c.Points.length≤8)&&(decide (c.Segments.length≤10)&&((zM c.Points.length).all (GO c)&&(zM c.Segments.length).all (DC c)))
theorem E8{n i:Z}(h:i≤n):bnd (n:X) (i:X) (0:X) n=O (0,i):=by
 unfold bnd;rw[if_pos ⟨by omega,by omega,by omega,by omega⟩];simp
theorem Zu{α:Type}{l:Q α}{i j:Z}(hj:j<i):(l.take i)[j]?=l[j]?:=by simp[List.getElem?_take,hj]
theorem DD{c:X1}(hn:∀x∈c.Points,x.Name.length≤maxLen):D4 c=O (AH c):=by
 unfold D4 AH;by_cases h1:c.Points.length≤8
 ·have h1':¬(8:X)<c.Points.length:=by omega
  by_cases h2:c.Segments.length≤10
  ·have h2':¬(10:X)<c.Segments.length:=by omega
   have hp:c.Points.length≤maxLen:=by rw[Az]; omega
   have hs:c.Segments.length≤maxLen:=by rw[Az]; omega
   have inner:Eh c bigN 0=O ((zM c.Segments.length).all (DC c)):=by
    rw[FL (L:=Eh c) c.Segments.length (DC c) (O E) hs (fun n i hi=> ?_) (fun n=>by simp[Eh])]
    ·cases(zM c.Segments.length).all (DC c)<;>rfl
    ·simp only[Eh,Ak,zC hi,zB,Aj,hi,decide_true,if_true,Bu,WS _ (show c.Points.length≤1000 by omega),E8 (Nat.le_of_lt hi),DC,kA,kO];have hl:(c.Segments.take i).length=i:=by simp; omega
     rw[hl]
     rw[Ug (L:=Ia c i c.Segments[i] (c.Segments.take i) (i:X) (Eh c n)) i (fun j=>match c.Segments[j]? with | some y=>jn y c.Segments[i].A c.Segments[i].B | none=>G)
      (Eh c n (IntKind.i64.wrap ((i:X)+1))) (by omega) (fun m j hj=>by
       have hj2:j<c.Segments.length:=by omega
       simp only[Ia,Ak,Zu hj,zC hj2,zB,Aj,hj,decide_true,if_true,vU]) (fun m=>by simp[Ia])]
     have e:(c.Segments[i].A==c.Segments[i].B)=decide (c.Segments[i].A=c.Segments[i].B):=rfl;rw[e]
     cases idx c.Segments[i].A c.Points.length<;>cases idx c.Segments[i].B c.Points.length<;>cases decide (c.Segments[i].A=c.Segments[i].B)<;>cases(decide (0≤c.Segments[i].Depth)&&decide (c.Segments[i].Depth≤3000)) <;>
      cases(decide (1≤c.Segments[i].Minutes)&&decide (c.Segments[i].Minutes≤240))<;>cases((zM i).any fun j=>match c.Segments[j]? with | some y=>jn y c.Segments[i].A c.Segments[i].B | none=>G)<;>rfl
   rw[FL (L:=I9 c) c.Points.length (GO c) _ hp (fun n i hi=> ?_) (fun n=>by simp only[I9,kZ,decide_false,zD,if_false]; exact inner)]
   ·simp only[h1,h2,h1',h2',decide_true,decide_false,zQ,zD,if_false];cases(zM c.Points.length).all (GO c)<;>rfl
   ·simp only[I9,Ak,zC hi,zB,Aj,hi,decide_true,if_true,YS (hn _ (zF hi)),vN hp,GO];by_cases e:Og c.Points c.Points[i].Name=(i:X)<;>cases DU c.Points[i].Name<;>simp[e]
  ·have h2':(10:X)<c.Segments.length:=by omega
   simp[h1,h1',h2,h2']
 ·have h1':(8:X)<c.Points.length:=by omega
  simp[h1,h1']
theorem Fl{c:X1}(hn:∀x∈c.Points,x.Name.length≤maxLen):Dm c=O (AH c):=by
 unfold Dm AH;by_cases h1:c.Points.length≤8
 ·have h1':¬(8:X)<c.Points.length:=by omega
  by_cases h2:c.Segments.length≤10
  ·have h2':¬(10:X)<c.Segments.length:=by omega
   have hp:c.Points.length≤maxLen:=by rw[Az]; omega
   have hs:c.Segments.length≤maxLen:=by rw[Az]; omega
   have inner:Ec c bigN 0=O ((zM c.Segments.length).all (DC c)):=by
    rw[FL (L:=Ec c) c.Segments.length (DC c) (O E) hs (fun n i hi=> ?_) (fun n=>by simp[Ec])]
    ·cases(zM c.Segments.length).all (DC c)<;>rfl
    ·simp only[Ec,Ak,zC hi,zB,Aj,hi,decide_true,if_true,Dh,Kz,show ∀(a:X) (n:Z),(decide (0≤a)&&decide (a<(n:X)))=idx a n from fun _ _=>rfl,E8 (Nat.le_of_lt hi),DC,kA,kO];have hl:(c.Segments.take i).length=i:=by simp; omega
     rw[hl]
     rw[Ug (L:=Hd c i c.Segments[i] (c.Segments.take i) (i:X) (Ec c n)) i (fun j=>match c.Segments[j]? with | some y=>jn y c.Segments[i].A c.Segments[i].B | none=>G)
      (Ec c n (IntKind.i64.wrap ((i:X)+1))) (by omega) (fun m j hj=>by
       have hj2:j<c.Segments.length:=by omega
       simp only[Hd,Ak,Zu hj,zC hj2,zB,Aj,hj,decide_true,if_true,pr]) (fun m=>by simp[Hd])]
     have e:(c.Segments[i].A==c.Segments[i].B)=decide (c.Segments[i].A=c.Segments[i].B):=rfl;rw[e]
     cases idx c.Segments[i].A c.Points.length<;>cases idx c.Segments[i].B c.Points.length<;>cases decide (c.Segments[i].A=c.Segments[i].B)<;>cases(decide (0≤c.Segments[i].Depth)&&decide (c.Segments[i].Depth≤3000)) <;>
      cases(decide (1≤c.Segments[i].Minutes)&&decide (c.Segments[i].Minutes≤240))<;>cases((zM i).any fun j=>match c.Segments[j]? with | some y=>jn y c.Segments[i].A c.Segments[i].B | none=>G)<;>rfl
   rw[FL (L:=Hc c) c.Points.length (GO c) _ hp (fun n i hi=> ?_) (fun n=>by simp only[Hc,kZ,decide_false,zD,if_false]; exact inner)]
   ·simp only[h1,h2,h1',h2',decide_true,decide_false,zQ,zD,if_false];cases(zM c.Points.length).all (GO c)<;>rfl
   ·simp only[Hc,Ak,zC hi,zB,Aj,hi,decide_true,if_true,WL (hn _ (zF hi)),pi hp,GO];by_cases e:Og c.Points c.Points[i].Name=(i:X)<;>cases DU c.Points[i].Name<;>simp[e]
  ·have h2':(10:X)<c.Segments.length:=by omega
   simp[h1,h1',h2,h2']
 ·have h1':(8:X)<c.Points.length:=by omega
  simp[h1,h1']
theorem wj{xs:Q X7}(h:xs.length≤1048576):My xs=O xs:=by
 unfold My;rw[Eu h (by omega)];have:=Hb (L:=I3 xs) xs id (IQ h) (fun n i acc hi ha=>by simp[I3,Ak,hi,ha,Pv]) (fun n acc=>by simp[I3]) (zI xs.length ⟨[],G⟩) (by simp);simpa using this
theorem wk{xs:Q X2}(h:xs.length≤1048576):Mz xs=O xs:=by
 unfold Mz;rw[Eu h (by omega)];have:=Hb (L:=I4 xs) xs id (IQ h) (fun n i acc hi ha=>by simp[I4,Ak,hi,ha,Py]) (fun n acc=>by simp[I4]) (zI xs.length ⟨0,0,0,0,G⟩) (by simp);simpa using this
theorem wb{c:X1}(h1:c.Points.length≤1048576)(h2:c.Segments.length≤1048576):Mu c=O c:=by
 simp[Mu,wj h1,wk h2]
theorem lH(x y:X7):M8 x y=O (decide (x=y)):=by
 unfold M8;cases x; cases y;simp only[X7.mk.injEq];repeat' split
 all_goals simp_all
theorem lG{xs ys:Q X7}(h:xs.length≤maxLen):M9 xs ys=O (decide (xs=ys)):=by
 unfold M9;by_cases hl:xs.length=ys.length
 ·have:=Jw (L:=HU xs ys) xs ys h hl (fun n i h1 h2=>by simp[HU,Ak,h1,h2,lH]) (fun n=>by simp[HU]);simp[hl,this]
 ·have:¬(xs.length:X)=ys.length:=by omega
  have:xs≠ys:=fun e=>hl (by rw[e])
  simp_all
theorem lJ(x y:X2):Ma x y=O (decide (x=y)):=by
 unfold Ma;cases x; cases y;simp only[X2.mk.injEq];repeat' split
 all_goals simp_all
theorem lI{xs ys:Q X2}(h:xs.length≤maxLen):Mb xs ys=O (decide (xs=ys)):=by
 unfold Mb;by_cases hl:xs.length=ys.length
 ·have:=Jw (L:=HV xs ys) xs ys h hl (fun n i h1 h2=>by simp[HV,Ak,h1,h2,lJ]) (fun n=>by simp[HV]);simp[hl,this]
 ·have:¬(xs.length:X)=ys.length:=by omega
  have:xs≠ys:=fun e=>hl (by rw[e])
  simp_all
theorem kx{c:X1}(h1:c.Points.length≤maxLen)(h2:c.Segments.length≤maxLen):M2 c c=O E:=by
 simp[M2,lG h1,lI h2]
theorem wO{x:X7}{l:X}(h0:0≤l)(h1:l≤1048576)(hx:x.Name.length≤maxLen):∃r,Mn x l=O r∧(0≤r→r≤l):=by
 unfold Mn;rw[Az] at hx
 rw[Ap (by omega) (by omega)];by_cases h:l - (x.Name.length:X)<0
 ·exact⟨-1,by simp[h],by omega⟩
 ·exact⟨l - x.Name.length,by simp[h],by omega⟩
theorem wN{xs:Q X7}{l:X}(h0:0≤l)(h1:l≤1048576)(hx:xs.length≤maxLen)(hn:∀x∈xs,x.Name.length≤maxLen):∃r,Mo xs l=O r∧(0≤r→r≤l∧xs.length≤1048576):=by
 unfold Mo;have hx':=hx;rw[Az] at hx'
 rw[Ap (by omega) (by omega)];by_cases h:l - (xs.length:X)<0
 ·exact⟨-1,by simp[h],by omega⟩
 ·have key:∀(k i n:Z) (v:X),i+k=xs.length→k<n→0≤v→v≤l→∃r,G7 xs n v (i:X)=O r∧(0≤r→r≤l):=by
   intro k
   induction k with
   | zero=>
    intro i n v hi hn2 hv hv2;obtain⟨m,rfl⟩:∃m,n=m+1:=⟨n - 1,by omega⟩;have:i=xs.length:=by omega
    subst this;exact⟨v,by simp[G7],fun _=>hv2⟩
   | succ k ih=>
    intro i n v hi hn2 hv hv2;obtain⟨m,rfl⟩:∃m,n=m+1:=⟨n - 1,by omega⟩;have hlt:i<xs.length:=by omega
    obtain⟨r,e,hr⟩:=wO (x:=xs[i]) hv (by omega) (hn _ (zF hlt));by_cases hr0:r<0
    ·exact⟨-1,by simp[G7,Ak,hlt,e,hr0],by omega⟩
    ·obtain⟨r2,e2,h2⟩:=ih (i+1) m r (by omega) (by omega) (by omega) (by have:=hr (by omega); omega);refine⟨r2,?_,h2⟩;rw[← An hlt hx] at e2
     simp only[G7,Ak,zC hlt,zB,Aj,hlt,decide_true,if_true,e,hr0,decide_false,zD,if_false];exact e2
  obtain⟨r,e,hr⟩:=key xs.length 0 bigN (l - xs.length) (by omega) (BL hx) (by omega) (by omega);refine⟨r,?_,fun h=>⟨hr h,by omega⟩⟩;simp only[h,decide_false,zD,if_false];exact e
theorem wP{xs:Q X2}{l:X}(h0:0≤l)(h1:l≤1048576)(hx:xs.length≤maxLen):∃r,Mp xs l=O r∧(0≤r→r≤l∧xs.length≤1048576):=by
 unfold Mp;rw[Az] at hx
 rw[Ap (by omega) (by omega)];by_cases h:l - (xs.length:X)<0
 ·exact⟨-1,by simp[h],by omega⟩
 ·exact⟨l - xs.length,by simp[h],by omega⟩
theorem wI{c:X1}{l:X}(h0:0≤l)(h1:l≤1048576)(hp:c.Points.length≤maxLen)(hs:c.Segments.length≤maxLen)(hn:∀x∈c.Points,x.Name.length≤maxLen) :
  ∃r,Mh c l=O r∧(0≤r→r≤l∧c.Points.length≤1048576∧c.Segments.length≤1048576):=by
 unfold Mh;obtain⟨r,e,h⟩:=wN h0 h1 hp hn;by_cases hr:r<0
 ·exact⟨-1,by simp[e,hr],by omega⟩
 ·obtain⟨k1,k2⟩:=h (by omega);obtain⟨r',e',h'⟩:=wP (xs:=c.Segments) (l:=r) (by omega) (by omega) hs;by_cases hr':r'<0
  ·exact⟨-1,by simp[e,hr,e',hr'],by omega⟩
  ·obtain⟨k3,k4⟩:=h' (by omega);exact⟨r',by simp[e,hr,e',hr'],fun _=>⟨by omega,k2,k4⟩⟩
def Ck(s:X6):Y:=DU s.Name&&((decide (10≤s.Length)&&decide (s.Length≤400))&&((decide (100≤s.Draught)&&decide (s.Draught≤2000))&&((decide (0≤s.Line)&&decide (s.Line≤3))&&(decide (0≤s.Tugs)&&decide (s.Tugs≤4)))))
theorem WJ(a b:Y):(if a=E then O b else O G)=O (a&&b):=by cases a<;>rfl
theorem KP{s:X6}(h:s.Name.length≤maxLen):DO s=O (Ck s):=by
 simp only[DO,YS h,Bu,zB,WJ,Ck]
theorem GA{s:X6}(h:s.Name.length≤maxLen):Ed s=O (Ck s):=by
 have e:(decide (0≤s.Line)&&decide (s.Line<4))=(decide (0≤s.Line)&&decide (s.Line≤3)):=by
  congr 1
  rw[zR]; simp; omega
 simp only[Ed,WL h,Dh,Kz,zB,WJ,Ck,e]
def Om(xs:Q X6)(s:Q I)(i:Z):Y:=match xs[i]? with
 | some x=>decide (x.Name=s)
 | none=>G
def On(xs:Q X6)(s:Q I):X:=(yL 0 xs.length).foldr (fun i r=>if Om xs s i=E then(i:X) else r) (-1)
theorem vO{xs:Q X6}{s:Q I}(h:xs.length≤maxLen):N1 xs s=O (On xs s):=by
 unfold N1;exact(IX (Ir s xs) xs.length h (fun i r=>if Om xs s i=E then O (i:X) else r) (O (-1)) (fun n i hi=>by simp[Ir,Ak,hi,Om]) (fun n=>by simp[Ir]) xs.length 0 bigN (by omega) (BL h)).trans (Nu _ _ _ _ _)
theorem pj{xs:Q X6}{s:Q I}(h:xs.length≤maxLen):LD xs s=O (On xs s):=by
 unfold LD;exact(IX (Hz s xs) xs.length h (fun i r=>if Om xs s i=E then O (i:X) else r) (O (-1)) (fun n i hi=>by simp[Hz,Ak,hi,Om]) (fun n=>by simp[Hz]) xs.length 0 bigN (by omega) (BL h)).trans (Nu _ _ _ _ _)
def Ko(xs:Q X6)(i:Z):Y:=match xs[i]? with
 | some x=>Ck x&&decide (On xs x.Name=(i:X))
 | none=>G
def Dt(xs:Q X6):Y:=decide (xs.length≤6)&&(zM xs.length).all (Ko xs)
theorem L5(a b:X):(a !=b)= !decide (a=b):=rfl
theorem YP{xs:Q X6}(hn:∀x∈xs,x.Name.length≤maxLen):K1 xs=O (Dt xs):=by
 unfold K1 Dt;by_cases h:xs.length≤6
 ·have h':¬(6:X)<xs.length:=by omega
  have hm:xs.length≤maxLen:=by rw[Az]; omega
  simp only[h,h',decide_true,decide_false,zD,if_false,zQ];refine L2 (L:=Ig xs) xs.length (Ko xs) hm (fun n i hi=> ?_) (fun n=>by simp[Ig]);simp only[Ig,Aj,hi,decide_true,if_true,Af hi,zB,KP (hn _ (zF hi)),vO hm,Ko,zC hi,L5];cases Ck xs[i]<;>by_cases e:On xs xs[i].Name=(i:X)<;>simp[e]
 ·have h':(6:X)<xs.length:=by omega
  simp[h,h']
theorem WK{xs:Q X6}(hn:∀x∈xs,x.Name.length≤maxLen):Jz xs=O (Dt xs):=by
 unfold Jz Dt;by_cases h:xs.length≤6
 ·have h':¬(6:X)<xs.length:=by omega
  have hm:xs.length≤maxLen:=by rw[Az]; omega
  simp only[h,h',decide_true,decide_false,zD,if_false,zQ];refine L2 (L:=Hm xs) xs.length (Ko xs) hm (fun n i hi=> ?_) (fun n=>by simp[Hm]);simp only[Hm,Aj,hi,decide_true,if_true,Af hi,zB,GA (hn _ (zF hi)),pj hm,Ko,zC hi,L5];cases Ck xs[i]<;>by_cases e:On xs xs[i].Name=(i:X)<;>simp[e]
 ·have h':(6:X)<xs.length:=by omega
  simp[h,h']
theorem Kq{xs:Q X6}(h:Dt xs=E):xs.length≤6∧∀x∈xs,Ck x=E:=by
 simp only[Dt,zE,decide_eq_true_eq,yB,kJ] at h;refine⟨h.1,fun x hx=> ?_⟩;obtain⟨i,hi,rfl⟩:=zO hx;have:=h.2 i hi;simp only[Ko,zC hi,zE] at this
 exact this.1
def AA(x:X2)(s:X6):X:=if s.Slow=E then IntKind.i64.wrap (2*x.Minutes) else x.Minutes
theorem Ot(x:X2)(s:X6):F9 x s=O (AA x s):=by unfold F9 AA; split<;>rfl
theorem NE(x:X2)(s:X6):EU s x=O (AA x s):=by unfold EU AA; split<;>rfl
def Ao(c:X1)(i:X):X2:=c.Segments[i.toNat]?.getD ⟨0,0,0,0,G⟩
def AL(l:Q X6)(i:X):X6:=l[i.toNat]?.getD ⟨[],0,0,0,0,G⟩
theorem NF{α:Type}{l:Q α}{i:X}(d:α)(h:idx i l.length=E):ix l i=O (l[i.toNat]?.getD d)∧l[i.toNat]?.getD d∈l:=by
 simp only[idx,zE,decide_eq_true_eq] at h;obtain⟨k,rfl⟩:∃k:Z,i=(k:X):=⟨i.toNat,by omega⟩;have hk:k<l.length:=by omega
 have e:l[((k:Z):X).toNat]?.getD d=l[k]:=by simp[hk]
 rw[Af hk,e];exact⟨zA,zF hk⟩
theorem BE{c:X1}{i:X}(h:idx i c.Segments.length=E):ix c.Segments i=O (Ao c i)∧Ao c i∈c.Segments:=NF _ h
theorem GC{l:Q X6}{i:X}(h:idx i l.length=E):ix l i=O (AL l i)∧AL l i∈l:=NF _ h
theorem CG(i:X){n:Z}(h:n≤1000):Ax i 0 (IntKind.i64.wrap ((n:X) - 1))=O (idx i n):=by rw[Bu,WS i h]
theorem Du(i:X)(n:Z):Bq i (n:X)=O (idx i n):=Kz i n
theorem wm{xs:Q X6}(h:xs.length≤1048576):MA xs=O xs:=by
 unfold MA;rw[Eu h (by omega)];have:=Hb (L:=I5 xs) xs id (IQ h) (fun n i acc hi ha=>by simp[I5,Ak,hi,ha,Pz]) (fun n acc=>by simp[I5]) (zI xs.length ⟨[],0,0,0,0,G⟩) (by simp);simpa using this
theorem lL(x y:X6):Mc x y=O (decide (x=y)):=by
 unfold Mc;cases x; cases y;simp only[X6.mk.injEq];repeat' split
 all_goals simp_all
theorem lK{xs ys:Q X6}(h:xs.length≤maxLen):Md xs ys=O (decide (xs=ys)):=by
 unfold Md;by_cases hl:xs.length=ys.length
 ·have:=Jw (L:=HW xs ys) xs ys h hl (fun n i h1 h2=>by simp[HW,Ak,h1,h2,lL]) (fun n=>by simp[HW]);simp[hl,this]
 ·have:¬(xs.length:X)=ys.length:=by omega
  have:xs≠ys:=fun e=>hl (by rw[e])
  simp_all
theorem wR{x:X6}{l:X}(h0:0≤l)(h1:l≤1048576)(hx:x.Name.length≤maxLen):∃r,Mq x l=O r∧(0≤r→r≤l):=by
 unfold Mq;rw[Az] at hx
 rw[Ap (by omega) (by omega)];by_cases h:l - (x.Name.length:X)<0
 ·exact⟨-1,by simp[h],by omega⟩
 ·exact⟨l - x.Name.length,by simp[h],by omega⟩
theorem wQ{xs:Q X6}{l:X}(h0:0≤l)(h1:l≤1048576)(hx:xs.length≤maxLen)(hn:∀x∈xs,x.Name.length≤maxLen):∃r,Mr xs l=O r∧(0≤r→r≤l∧xs.length≤1048576):=by
 unfold Mr;have hx':=hx;rw[Az] at hx'
 rw[Ap (by omega) (by omega)];by_cases h:l - (xs.length:X)<0
 ·exact⟨-1,by simp[h],by omega⟩
 ·have key:∀(k i n:Z) (v:X),i+k=xs.length→k<n→0≤v→v≤l→∃r,G8 xs n v (i:X)=O r∧(0≤r→r≤l):=by
   intro k
   induction k with
   | zero=>
    intro i n v hi hn2 hv hv2;obtain⟨m,rfl⟩:∃m,n=m+1:=⟨n - 1,by omega⟩;have:i=xs.length:=by omega
    subst this;exact⟨v,by simp[G8],fun _=>hv2⟩
   | succ k ih=>
    intro i n v hi hn2 hv hv2;obtain⟨m,rfl⟩:∃m,n=m+1:=⟨n - 1,by omega⟩;have hlt:i<xs.length:=by omega
    obtain⟨r,e,hr⟩:=wR (x:=xs[i]) hv (by omega) (hn _ (zF hlt));by_cases hr0:r<0
    ·exact⟨-1,by simp[G8,Ak,hlt,e,hr0],by omega⟩
    ·obtain⟨r2,e2,h2⟩:=ih (i+1) m r (by omega) (by omega) (by omega) (by have:=hr (by omega); omega);refine⟨r2,?_,h2⟩;rw[← An hlt hx] at e2
     simp only[G8,Ak,zC hlt,zB,Aj,hlt,decide_true,if_true,e,hr0,decide_false,zD,if_false];exact e2
  obtain⟨r,e,hr⟩:=key xs.length 0 bigN (l - xs.length) (by omega) (BL hx) (by omega) (by omega);refine⟨r,?_,fun h=>⟨hr h,by omega⟩⟩;simp only[h,decide_false,zD,if_false];exact e
theorem vB{xs:Q X6}(ok:(D.sl (yK X6.row xs)).Ok):xs.length≤maxLen∧∀x∈xs,x.Name.length≤maxLen:=
 ⟨GE ok,fun x hx=>(ok.sl.2 (X6.row x) (List.mem_map_of_mem hx) (.str x.Name) (by simp[X6.row_eq])).str⟩
def Fx(p:X):Y:=(decide (4≤p)&&decide (p≤2880))&&(IntKind.i64.wrap (yX p 4)==0)
def GM(x:Xc):Y:=(decide (0≤x.Amp)&&decide (x.Amp≤1000))&&(Fx x.Period&&(decide (0≤x.Phase)&&decide (x.Phase≤IntKind.i64.wrap (x.Period - 1))))
def EF(t:Xl):Y:=(decide (-1000≤t.Mean)&&decide (t.Mean≤1000))&&(decide (t.Parts.length≤4)&&t.Parts.all GM)
theorem vM(x:Xc):MS x=O (GM x):=by
 simp only[MS,Bu,zB,GM,Fx];cases(decide (0≤x.Amp)&&decide (x.Amp≤1000))<;>cases(decide (4≤x.Period)&&decide (x.Period≤2880))<;>cases(IntKind.i64.wrap (yX x.Period 4)==0)<;>rfl
theorem Xy(p:X):JM p=O (Fx p):=by
 simp only[JM,Dh,zB,Fx];cases(decide (4≤p)&&decide (p≤2880))<;>rfl
theorem pg(x:Xc):Lu x=O (GM x):=by
 simp only[Lu,Dh,Xy,zB,GM];cases(decide (0≤x.Amp)&&decide (x.Amp≤1000))<;>cases Fx x.Period<;>rfl
theorem vQ(t:Xl):N4 t=O (EF t):=by
 simp only[N4,Bu,zB,EF];cases(decide (-1000≤t.Mean)&&decide (t.Mean≤1000)) with
 | false=>rfl
 | true=>
  by_cases h1:t.Parts.length≤4
  ·have h1':¬(4:X)<t.Parts.length:=by omega
   rw[FJ (L:=It t) t.Parts GM (by rw[Az]; omega) (fun n i hi=>by simp only[It,Ak,zC hi,zB,Aj,hi,decide_true,if_true,vM]) (fun n=>by simp[It])];simp[h1,h1']
  ·have h1':(4:X)<t.Parts.length:=by omega
   simp[h1,h1']
theorem pm(t:Xl):LH t=O (EF t):=by
 simp only[LH,Dh,zB,EF];cases(decide (-1000≤t.Mean)&&decide (t.Mean≤1000)) with
 | false=>rfl
 | true=>
  by_cases h1:t.Parts.length≤4
  ·have h1':¬(4:X)<t.Parts.length:=by omega
   rw[FJ (L:=HA t) t.Parts GM (by rw[Az]; omega) (fun n i hi=>by simp only[HA,Ak,zC hi,zB,Aj,hi,decide_true,if_true,pg]) (fun n=>by simp[HA])];simp[h1,h1']
  ·have h1':(4:X)<t.Parts.length:=by omega
   simp[h1,h1']
def FD(x:Xa):Y:=(decide (0≤x.From)&&decide (x.From≤2880))&&((decide (-500≤x.Low)&&decide (x.Low≤500))&&(decide (x.Low≤x.High)&&decide (x.High≤500)))
theorem vP(x:Xa):N3 x=O (FD x):=by
 simp only[N3,Bu,zB,FD];cases(decide (0≤x.From)&&decide (x.From≤2880))<;>cases(decide (-500≤x.Low)&&decide (x.Low≤500))<;>rfl
theorem pk(x:Xa):LG x=O (FD x):=by
 simp only[LG,GB,zB,FD];cases(decide (0≤x.From)&&decide (x.From≤2880))
 ·rfl
 ·by_cases a1: -500≤x.Low<;>by_cases a2:x.Low≤x.High<;>by_cases a3:x.High≤500<;>by_cases a4:x.Low≤500<;>simp[a1,a2,a3,a4]
  omega
def J2(l:Q Xa)(i:Z):Y:=match l[i]? with
 | some x=>FD x&&(match i with | 0=>E | j+1=>match l[j]? with | some y=> !(decide (x.From≤y.From)) | none=>G)
 | none=>G
def T3(l:Q Xa):Y:=match l[0]? with
 | some x=>decide (x.From=0)
 | none=>G
def D7(f:Xd):Y:=EF f.Tide&&((decide (1≤(f.Surges.length:X))&&decide ((f.Surges.length:X)≤6))&&(T3 f.Surges&&(zM f.Surges.length).all (J2 f.Surges)))
theorem aA(j:Z)(h:j≤1000):IntKind.i64.wrap (((j+1:Z):X) - 1)=(j:X):=by
 rw[Ap (by omega) (by omega)];omega
theorem YQ(f:Xd):K2 f=O (D7 f):=by
 simp only[K2,vQ,Bu,zB,D7];cases EF f.Tide with
 | false=>rfl
 | true=>
  cases hb:(decide (1≤(f.Surges.length:X))&&decide ((f.Surges.length:X)≤6)) with
  | false=>rfl
  | true=>
   simp only[zE,decide_eq_true_eq] at hb
   have h0:0<f.Surges.length:=by omega
   have hl:f.Surges.length≤maxLen:=by rw[Az]; omega
   rw[FL (L:=Ga f) f.Surges.length (J2 f.Surges) (O E) hl (fun n i hi=> ?_) (fun n=>by simp[Ga])]
   ·have e0:ix f.Surges 0=O f.Surges[0]:=Af h0;simp only[e0,zB,T3,zC h0,zQ,if_true];by_cases e:f.Surges[0].From=0<;>cases(zM f.Surges.length).all (J2 f.Surges)<;>simp[e]
   ·simp only[Ga,Ak,zC hi,zB,Aj,hi,decide_true,if_true,vP,J2];cases i with
    | zero=>cases FD f.Surges[0]<;>simp
    | succ j=>
     have hj:j<f.Surges.length:=by omega
     rw[aA j (by omega)];simp only[Ak,zC hj,zB];have hp:(0:X)<((j+1:Z):X):=by omega
     cases FD f.Surges[j+1]<;>cases decide (f.Surges[j+1].From≤f.Surges[j].From)<;>simp
theorem ND(f:Xd):FR f=O (D7 f):=by
 simp only[FR,pm,Dh,zB,D7];cases EF f.Tide with
 | false=>rfl
 | true=>
  cases hb:(decide (1≤(f.Surges.length:X))&&decide ((f.Surges.length:X)≤6)) with
  | false=>rfl
  | true=>
   simp only[zE,decide_eq_true_eq] at hb
   have h0:0<f.Surges.length:=by omega
   have hl:f.Surges.length≤maxLen:=by rw[Az]; omega
   rw[FL (L:=FS f) f.Surges.length (J2 f.Surges) (O E) hl (fun n i hi=> ?_) (fun n=>by simp[FS])]
   ·have e0:ix f.Surges 0=O f.Surges[0]:=Af h0;simp only[e0,zB,T3,zC h0,zQ,if_true];by_cases e:f.Surges[0].From=0<;>cases(zM f.Surges.length).all (J2 f.Surges)<;>simp[e]
   ·simp only[FS,Ak,zC hi,zB,Aj,hi,decide_true,if_true,pk,J2];cases i with
    | zero=>cases FD f.Surges[0]<;>simp
    | succ j=>
     have hj:j<f.Surges.length:=by omega
     rw[aA j (by omega)];simp only[Ak,zC hj,zB];have hp:(0:X)<((j+1:Z):X):=by omega
     cases FD f.Surges[j+1]<;>cases decide (f.Surges[j+1].From≤f.Surges[j].From)<;>simp
def BY(m:X):Y:=decide (0≤m)&&decide (m≤2880)
theorem wi{xs:Q Xc}(h:xs.length≤1048576):Mx xs=O xs:=by
 unfold Mx;rw[Eu h (by omega)];have:=Hb (L:=I2 xs) xs id (IQ h) (fun n i acc hi ha=>by simp[I2,Ak,hi,ha,Pu]) (fun n acc=>by simp[I2]) (zI xs.length ⟨0,0,0⟩) (by simp);simpa using this
theorem wn{xs:Q Xa}(h:xs.length≤1048576):MB xs=O xs:=by
 unfold MB;rw[Eu h (by omega)];have:=Hb (L:=I6 xs) xs id (IQ h) (fun n i acc hi ha=>by simp[I6,Ak,hi,ha,PA]) (fun n acc=>by simp[I6]) (zI xs.length ⟨0,0,0⟩) (by simp);simpa using this
theorem we{f:Xd}(h1:f.Tide.Parts.length≤1048576)(h2:f.Surges.length≤1048576):Mv f=O f:=by
 simp[Mv,PB,wi h1,wn h2]
theorem lF(x y:Xc):M6 x y=O (decide (x=y)):=by
 unfold M6;cases x; cases y;simp only[Xc.mk.injEq];repeat' split
 all_goals simp_all
theorem lE{xs ys:Q Xc}(h:xs.length≤maxLen):M7 xs ys=O (decide (xs=ys)):=by
 unfold M7;by_cases hl:xs.length=ys.length
 ·have:=Jw (L:=HT xs ys) xs ys h hl (fun n i h1 h2=>by simp[HT,Ak,h1,h2,lF]) (fun n=>by simp[HT]);simp[hl,this]
 ·have:¬(xs.length:X)=ys.length:=by omega
  have:xs≠ys:=fun e=>hl (by rw[e])
  simp_all
theorem lN(x y:Xa):Me x y=O (decide (x=y)):=by
 unfold Me;cases x; cases y;simp only[Xa.mk.injEq];repeat' split
 all_goals simp_all
theorem lM{xs ys:Q Xa}(h:xs.length≤maxLen):Mf xs ys=O (decide (xs=ys)):=by
 unfold Mf;by_cases hl:xs.length=ys.length
 ·have:=Jw (L:=HX xs ys) xs ys h hl (fun n i h1 h2=>by simp[HX,Ak,h1,h2,lN]) (fun n=>by simp[HX]);simp[hl,this]
 ·have:¬(xs.length:X)=ys.length:=by omega
  have:xs≠ys:=fun e=>hl (by rw[e])
  simp_all
theorem ky{f:Xd}(h1:f.Tide.Parts.length≤maxLen)(h2:f.Surges.length≤maxLen):M3 f f=O E:=by
 simp[M3,Pp,lE h1,lM h2]
theorem wM{xs:Q Xc}{l:X}(h0:0≤l)(h1:l≤1048576)(hx:xs.length≤maxLen):∃r,Mm xs l=O r∧(0≤r→r≤l∧xs.length≤1048576):=by
 unfold Mm;rw[Az] at hx
 rw[Ap (by omega) (by omega)];by_cases h:l - (xs.length:X)<0
 ·exact⟨-1,by simp[h],by omega⟩
 ·exact⟨l - xs.length,by simp[h],by omega⟩
theorem wS{xs:Q Xa}{l:X}(h0:0≤l)(h1:l≤1048576)(hx:xs.length≤maxLen):∃r,Ms xs l=O r∧(0≤r→r≤l∧xs.length≤1048576):=by
 unfold Ms;rw[Az] at hx
 rw[Ap (by omega) (by omega)];by_cases h:l - (xs.length:X)<0
 ·exact⟨-1,by simp[h],by omega⟩
 ·exact⟨l - xs.length,by simp[h],by omega⟩
theorem wJ{f:Xd}{l:X}(h0:0≤l)(h1:l≤1048576)(hp:f.Tide.Parts.length≤maxLen)(hs:f.Surges.length≤maxLen) :
  ∃r,Mi f l=O r∧(0≤r→r≤l∧f.Tide.Parts.length≤1048576∧f.Surges.length≤1048576):=by
 unfold Mi Pr;obtain⟨r,e,h⟩:=wM h0 h1 hp;by_cases hr:r<0
 ·exact⟨-1,by simp[e,hr],by omega⟩
 ·obtain⟨k1,k2⟩:=h (by omega);obtain⟨r',e',h'⟩:=wS (xs:=f.Surges) (l:=r) (by omega) (by omega) hs;by_cases hr':r'<0
  ·exact⟨-1,by simp[e,hr,e',hr'],by omega⟩
  ·obtain⟨k3,k4⟩:=h' (by omega);exact⟨r',by simp[e,hr,e',hr'],fun _=>⟨by omega,k2,k4⟩⟩
def EQ(w:Xm):Y:=(decide (0≤w.Tugs)&&decide (w.Tugs≤12))&&((decide (0≤w.Pilots)&&decide (w.Pilots≤12))&&(BY w.Rest&&(decide (w.Moves.length=64)&&w.Moves.all fun x=>decide (0≤x)&&decide (x≤240))))
theorem Qf(a b:Y):(if a=E then O b else O G)=O (a&&b):=by cases a<;>rfl
theorem Y3{l:Q X}(h:l.length≤maxLen):Gr l bigN 0=O (l.all fun x=>decide (0≤x)&&decide (x≤240)):=
 FJ (L:=Gr l) l _ h (fun n i hi=>by simp[Gr,Ak,hi,Bu]) (fun n=>by simp[Gr])
theorem Y2{l:Q X}(h:l.length≤maxLen):G4 l bigN 0=O (l.all fun x=>decide (0≤x)&&decide (x≤240)):=
 FJ (L:=G4 l) l _ h (fun n i hi=>by simp[G4,Ak,hi,Dh]) (fun n=>by simp[G4])
theorem SZ{w:Xm}(h:w.Moves.length≤maxLen):Ic w=O (EQ w):=by
 simp only[Ic,Gq,Bu,zB,Y3 h,EQ,BY];by_cases e:w.Moves.length=64
 ·have e':((w.Moves.length:X) !=64)=G:=by simp; omega
  simp only[e,e',zD,if_false,decide_true,zQ];cases(decide (0≤w.Tugs)&&decide (w.Tugs≤12))<;>cases(decide (0≤w.Pilots)&&decide (w.Pilots≤12))<;>cases(decide (0≤w.Rest)&&decide (w.Rest≤2880))<;>rfl
 ·have e':((w.Moves.length:X) !=64)=E:=by simp; omega
  simp only[e,e',if_true,decide_false,Bool.false_and,Bool.and_false];cases(decide (0≤w.Tugs)&&decide (w.Tugs≤12))<;>cases(decide (0≤w.Pilots)&&decide (w.Pilots≤12))<;>cases(decide (0≤w.Rest)&&decide (w.Rest≤2880))<;>rfl
theorem pZ{w:Xm}(h:w.Moves.length≤maxLen):Li w=O (EQ w):=by
 simp only[Li,G3,Dh,GB,zB,Y2 h,EQ,BY];by_cases e:w.Moves.length=64
 ·have e':((w.Moves.length:X) !=64)=G:=by simp; omega
  simp only[e,e',zD,if_false,decide_true,zQ,zB];cases(decide (0≤w.Tugs)&&decide (w.Tugs≤12))<;>cases(decide (0≤w.Pilots)&&decide (w.Pilots≤12))<;>cases(decide (0≤w.Rest)&&decide (w.Rest≤2880))<;>rfl
 ·have e':((w.Moves.length:X) !=64)=E:=by simp; omega
  simp only[e,e',if_true,decide_false,Bool.false_and,Bool.and_false,zB];cases(decide (0≤w.Tugs)&&decide (w.Tugs≤12))<;>cases(decide (0≤w.Pilots)&&decide (w.Pilots≤12))<;>cases(decide (0≤w.Rest)&&decide (w.Rest≤2880))<;>rfl
def IY(r:Xh):Y:=decide (0≤r.Gap)&&decide (r.Gap≤60)
def AO(h:X4):Y:=D7 h.Forecast&&(AH h.Chart&&(Dt h.Fleet&&(IY h.Regime&&EQ h.Crew)))
structure HSmall (h:X4):Prop where
 pn:∀x∈h.Chart.Points,x.Name.length≤maxLen
 fn:∀x∈h.Fleet,x.Name.length≤maxLen
 mv:h.Crew.Moves.length≤maxLen
theorem YR{h:X4}(s:HSmall h):K4 h=O (AO h):=by
 simp only[K4,Ip,YQ,DD s.pn,YP s.fn,SZ s.mv,Bu,zB,Qf,AO,IY]
theorem Ss{h:X4}(s:HSmall h):JA h=O (AO h):=by
 simp only[JA,Pa,ND,Fl s.pn,WK s.fn,pZ s.mv,Dh,zB,Qf,AO,IY]
theorem EC{c:X1}(h:AH c=E):c.Points.length≤8∧c.Segments.length≤10∧∀x∈c.Segments,0≤x.Depth∧x.Depth≤3000∧1≤x.Minutes∧x.Minutes≤240:=by
 simp only[AH,zE,decide_eq_true_eq,yB,kJ] at h;obtain⟨h1,h2,h3,h4⟩:=h;refine⟨h1,h2,fun x hx=> ?_⟩;obtain⟨i,hi,rfl⟩:=zO hx;have:=h4 i hi;simp only[DC,zC hi,zE,decide_eq_true_eq] at this
 omega
def C3(c:X1)(fl:Q X6)(p:X3):Y:=idx p.Ship fl.length&&(idx p.Segment c.Segments.length&&(BY p.Start&&(decide (p.End≤2880)&&decide (p.End=IntKind.i64.wrap (p.Start+AA (Ao c p.Segment) (AL fl p.Ship))))))
theorem YT{c:X1}{s:X6}{i:X}(hn:∀x∈c.Points,x.Name.length≤maxLen)(hs:s.Name.length≤maxLen)(h1:AH c=E)(h2:Ck s=E)(h3:idx i c.Segments.length=E):K7 c i s=O (AA (Ao c i) s):=by
 have:=(EC h1).2.1;unfold K7;simp only[DD hn,KP hs,h1,h2,zB,if_true,CG i (show c.Segments.length≤1000 by omega),h3,(BE h3).1,Ot]
theorem YU{c:X1}{fl:Q X6}{p:X3}(hn:∀x∈c.Points,x.Name.length≤maxLen)(hf:∀x∈fl,x.Name.length≤maxLen)(h1:AH c=E)(h2:Dt fl=E):Kb c fl p=O (C3 c fl p):=by
 unfold Kb;simp only[DD hn,YP hf,zB,h1,h2];have s1:=(EC h1).2.1;have s2:=(Kq h2).1;simp only[if_true,CG p.Ship (show fl.length≤1000 by omega),CG p.Segment (show c.Segments.length≤1000 by omega),zB,Bu,C3,BY];cases h3:idx p.Ship fl.length with
 | false=>simp
 | true=>
  cases h4:idx p.Segment c.Segments.length with
  | false=>simp
  | true=>
   cases h5:decide (0≤p.Start)&&decide (p.Start≤2880) with
   | false=>simp
   | true=>
    have hsh:=(Kq h2).2 _ (GC h3).2;simp only[if_true,zQ,(GC h3).1,zB,YT hn (hf _ (GC h3).2) h1 hsh h4];by_cases e:p.End=IntKind.i64.wrap (p.Start+AA (Ao c p.Segment) (AL fl p.Ship))<;>simp[e]
theorem pv{c:X1}{fl:Q X6}{p:X3}:LU c fl p=O (C3 c fl p):=by
 unfold LU;simp only[Du,zB,GB,C3,BY];cases h3:idx p.Ship fl.length with
 | false=>simp
 | true=>
  cases h4:idx p.Segment c.Segments.length with
  | false=>simp
  | true=>
   cases h5:decide (0≤p.Start)&&decide (p.Start≤2880) with
   | false=>simp
   | true=>
    simp only[if_true,zQ,(GC h3).1,(BE h4).1,zB,NE];have e0:decide (2880<p.End)= !decide (p.End≤2880):=by rw[zR]; simp
    rw[e0];cases decide (p.End≤2880)<;>simp;rfl
theorem DA{c:X1}{fl:Q X6}{p:X3}(hc:AH c=E)(h:C3 c fl p=E):idx p.Ship fl.length=E∧idx p.Segment c.Segments.length=E∧0≤p.Start∧p.Start≤p.End∧p.End≤2880:=by
 simp only[C3,BY,zE,decide_eq_true_eq] at h;obtain⟨h3,h4,h5,h6,h7⟩:=h;refine⟨h3,h4,h5.1,?_,h6⟩;obtain⟨_,_,a,b⟩:=(EC hc).2.2 _ (BE h4).2;rw[h7];unfold AA;split
 ·rw[Ap (n:=2*_) (by omega) (by omega),Ap (by omega) (by omega)]; omega
 ·rw[Ap (by omega) (by omega)]; omega
theorem wK{a:X4}{l:X}(h0:0≤l)(h1:l≤1048576)(q1:a.Forecast.Tide.Parts.length≤maxLen)(q2:a.Forecast.Surges.length≤maxLen)(q3:a.Chart.Points.length≤maxLen)(q4:a.Chart.Segments.length≤maxLen)(q5:a.Fleet.length≤maxLen)(s:HSmall a) :
  ∃r,Mj a l=O r∧(0≤r→r≤l∧a.Forecast.Tide.Parts.length≤1048576∧a.Forecast.Surges.length≤1048576∧a.Chart.Points.length≤1048576∧a.Chart.Segments.length≤1048576∧a.Fleet.length≤1048576∧a.Crew.Moves.length≤1048576):=by
 unfold Mj Pq;obtain⟨r1,e1,k1⟩:=wJ (f:=a.Forecast) h0 h1 q1 q2;by_cases c1:r1<0
 ·exact⟨-1,by simp[e1,c1],by omega⟩
 obtain⟨b1,b2,b3⟩:=k1 (by omega);obtain⟨r2,e2,k2⟩:=wI (c:=a.Chart) (l:=r1) (by omega) (by omega) q3 q4 s.pn;by_cases c2:r2<0
 ·exact⟨-1,by simp[e1,c1,e2,c2],by omega⟩
 obtain⟨b4,b5,b6⟩:=k2 (by omega);obtain⟨r3,e3,k3⟩:=wQ (xs:=a.Fleet) (l:=r2) (by omega) (by omega) q5 s.fn;by_cases c3:r3<0
 ·exact⟨-1,by simp[e1,c1,e2,c2,e3,c3],by omega⟩
 obtain⟨b7,b8⟩:=k3 (by omega);obtain⟨r4,e4,k4⟩:=wL (xs:=a.Crew.Moves) (l:=r3) (by omega) (by omega) s.mv;by_cases c4:r4<0
 ·exact⟨-1,by simp[e1,c1,e2,c2,e3,c3,e4,c4],by omega⟩
 obtain⟨b9,b10⟩:=k4 (by omega);exact⟨r4,by simp[e1,c1,e2,c2,e3,c3,e4,c4],fun _=>⟨by omega,b2,b3,b5,b6,b8,b10⟩⟩
theorem wg{a:X4}(q1:a.Forecast.Tide.Parts.length≤1048576)(q2:a.Forecast.Surges.length≤1048576)(q3:a.Chart.Points.length≤1048576)(q4:a.Chart.Segments.length≤1048576)(q5:a.Fleet.length≤1048576)(q6:a.Crew.Moves.length≤1048576):I0 a=O a:=by
 simp[I0,Pw,Pt,we q1 q2,wb q3 q4,wm q5,wh q6]
theorem lC{a:X4}(q1:a.Forecast.Tide.Parts.length≤maxLen)(q2:a.Forecast.Surges.length≤maxLen)(q3:a.Chart.Points.length≤maxLen)(q4:a.Chart.Segments.length≤maxLen)(q5:a.Fleet.length≤maxLen)(q6:a.Crew.Moves.length≤maxLen):M4 a a=O E:=by
 simp[M4,Po,Pn,ky q1 q2,kx q3 q4,lK q5,lD q6]
theorem oT{a:X4}(ok:∀d∈X4.row a,d.Ok):a.Forecast.Tide.Parts.length≤maxLen∧a.Forecast.Surges.length≤maxLen∧a.Chart.Points.length≤maxLen∧a.Chart.Segments.length≤maxLen∧a.Fleet.length≤maxLen∧HSmall a:=by
 have h1:=ok (D.sl (yK Xc.row a.Forecast.Tide.Parts)) (by simp[X4.row_eq]);have h2:=ok (D.sl (yK Xa.row a.Forecast.Surges)) (by simp[X4.row_eq]);have h3:=ok (D.sl (yK X7.row a.Chart.Points)) (by simp[X4.row_eq]);have h4:=ok (D.sl (yK X2.row a.Chart.Segments)) (by simp[X4.row_eq]);have h5:=ok (D.sl (yK X6.row a.Fleet)) (by simp[X4.row_eq]);have h6:=ok (D.sl (yK rI a.Crew.Moves)) (by simp[X4.row_eq]);refine⟨GE h1,GE h2,GE h3,GE h4,GE h5,⟨fun x hx=> ?_,(vB h5).2,GE h6⟩⟩;exact(h3.sl.2 (X7.row x) (List.mem_map_of_mem hx) (.str x.Name) (by simp[X7.row_eq])).str
theorem fE{m n b:Z}(h:m+n≤2000000)(hb:b≤1000):A3 m n b=E:=by
 unfold A3;rw[decide_eq_true_eq];have:(m+n)*b≤2000000*1000:=yZ h hb;omega
theorem NC{α:Type}{m n b:Z}(h:m+n≤2000000)(hb:b≤1000)(x y:α):(if A3 m n b=E then x else y)=x:=by rw[if_pos (fE h hb)]
theorem EI{n:X}(h0:0≤n)(h1:n<18446744073709551616):IntKind.u64.wrap n=n:=by
 simp only[IntKind.wrap,IntKind.bits,IntKind.signed];have:n % 18446744073709551616=n:=Int.emod_eq_of_lt h0 h1;simp[this]
theorem DY{n:Z}(h:n<2 ^ 63):IntKind.i64.wrap (n:X)=n:=Ap (by omega) (by omega)
theorem KG{n:Z}(h:n<2 ^ 64):IntKind.u64.wrap (n:X)=n:=EI (by omega) (by omega)
theorem O4{s n:Z}(h:∀i,s.testBit i=E→i<n):s<2 ^ n:=Nat.lt_pow_two_of_testBit s fun i hi=>by
 cases hb:s.testBit i with
 | false=>rfl
 | true=>have:=h i hb; omega
theorem Uf{a b n:Z}(h:a<2 ^ n):AB a b<2 ^ n:=O4 fun i hi=>by
 rw[EE,zE] at hi
 exact GU h hi.1
theorem GK{w n:Z}(h:n<2 ^ w):(BitVec.ofInt w (n:X)).toNat=n:=by
 rw[BitVec.ofInt_natCast,BitVec.toNat_ofNat,Nat.mod_eq_of_lt h]
theorem UC{w a b:Z}(ha:a<2 ^ w)(hb:b<2 ^ w):(BitVec.ofInt w (a:X) &&& ~~~ BitVec.ofInt w (b:X)).toNat=AB a b:=by
 rw[BitVec.toNat_and,BitVec.toNat_not,GK ha,GK hb];apply yQ
 intro i;rw[show 2 ^ w - 1 - b=2 ^ w - (b+1) by omega,yU,Nat.testBit_two_pow_sub_succ hb,EE];cases hi:a.testBit i with
 | false=>rfl
 | true=>simp[GU ha hi]
theorem en{a b:Z}(ha:a<2 ^ 63)(hb:b<2 ^ 63):B4 .and .i64 (a:X) (b:X)=((a &&& b:Z):X):=by
 show IntKind.i64.wrap ((BitVec.ofInt 64 (a:X) &&& BitVec.ofInt 64 (b:X)).toNat:X)=_
 rw[BitVec.toNat_and,GK (yD ha (by decide)),GK (yD hb (by decide)),DY (Nat.and_lt_two_pow a hb)]
theorem tL{a b:Z}(ha:a<2 ^ 63)(hb:b<2 ^ 63):B4 .or .i64 (a:X) (b:X)=((a ||| b:Z):X):=by
 show IntKind.i64.wrap ((BitVec.ofInt 64 (a:X) ||| BitVec.ofInt 64 (b:X)).toNat:X)=_
 rw[BitVec.toNat_or,GK (yD ha (by decide)),GK (yD hb (by decide)),DY (kC ha hb)]
theorem Ud{a b:Z}(ha:a<2 ^ 63)(hb:b<2 ^ 63):B4 .andNot .i64 (a:X) (b:X)=((AB a b:Z):X):=by
 show IntKind.i64.wrap ((BitVec.ofInt 64 (a:X) &&& ~~~ BitVec.ofInt 64 (b:X)).toNat:X)=_
 rw[UC (yD ha (by decide)) (yD hb (by decide)),DY (Uf ha)]
theorem SJ{a b:Z}(ha:a<2 ^ 64)(hb:b<2 ^ 64):B4 .or .u64 (a:X) (b:X)=((a ||| b:Z):X):=by
 show IntKind.u64.wrap ((BitVec.ofInt 64 (a:X) ||| BitVec.ofInt 64 (b:X)).toNat:X)=_
 rw[BitVec.toNat_or,GK ha,GK hb,KG (kC ha hb)]
theorem L3{a b:Z}(ha:a<2 ^ 64)(hb:b<2 ^ 64):B4 .andNot .u64 (a:X) (b:X)=((AB a b:Z):X):=by
 show IntKind.u64.wrap ((BitVec.ofInt 64 (a:X) &&& ~~~ BitVec.ofInt 64 (b:X)).toNat:X)=_
 rw[UC ha hb,KG (Uf ha)]
theorem QL{n:Z}(h:n≤20):B9 .i64 (1:X) (n:X)=((2 ^ n:Z):X):=by
 have hp:2 ^ n<2 ^ 63:=yR (by omega) (by omega);unfold B9;rw[zP,show min n IntKind.i64.bits=n by simp[IntKind.bits]; omega,Int.one_mul];have:((2:X) ^ n)=((2 ^ n:Z):X):=by simp
 rw[this,DY hp]
theorem SY{n:Z}(h:n≤20):B9 .u64 (1:X) (n:X)=((2 ^ n:Z):X):=by
 have hp:2 ^ n<2 ^ 64:=yR (by omega) (by omega);unfold B9;rw[zP,show min n IntKind.u64.bits=n by simp[IntKind.bits]; omega,Int.one_mul];have:((2:X) ^ n)=((2 ^ n:Z):X):=by simp
 rw[this,KG hp]
theorem fp(n:Z):((n:X)==(0:X))=decide (n=0):=by
 rw[zR];simp
def XJ:Q I:= [0,1,2,2,3,3,3,3,4,4,4,4,4,4,4,4,5,5,5,5,5,5,5,5,5,5,5,5,5,5,5,5,6,6,6,6,6,6,6,6,6,6,6,6,6,6,6,6,6,6,6,6,6,6,6,6,6,6,6,6,6,6,6,6,7,7,7,7,7,7,7,7,7,7,7,7,7,7,7,7,7,7,7,7,7,7,7,7,7,7,7,7,7,7,7,7,7,7,7,7,7,7,7,7,7,7,7,7,7,7,7,7,7,7,7,7,7,7,7,7,7,7,7,7,7,7,7,7,8,8,8,8,8,8,8,8,8,8,8,8,8,8,8,8,8,8,8,8,8,8,8,8,8,8,8,8,8,8,8,8,8,8,8,8,8,8,8,8,8,8,8,8,8,8,8,8,8,8,8,8,8,8,8,8,8,8,8,8,8,8,8,8,8,8,8,8,8,8,8,8,8,8,8,8,8,8,8,8,8,8,8,8,8,8,8,8,8,8,8,8,8,8,8,8,8,8,8,8,8,8,8,8,8,8,8,8,8,8,8,8,8,8,8,8,8,8,8,8,8,8,8,8,8,8,8,8]
theorem rX(v8 v9:X):JT v8 v9=(ix XJ (IntKind.u8.wrap v8)).bind fun b10=>O (IntKind.i64.wrap (v9+(IntKind.i64.wrap (b10.toNat:X)))):=rfl
def XI(x:Z):Y:=match XJ[x]? with
 | some b=>decide (b.toNat≤8)&&(decide (x<2 ^ b.toNat)&&(x==0 || (decide (1≤b.toNat)&&decide (2 ^ (b.toNat - 1)≤x))))
 | none=>G
theorem rY:(zM 256).all XI=E:=by kernel_rfl
theorem XH{x:Z}(hx:x<256)(n:X):∃l:Z,JT (x:X) n=O (IntKind.i64.wrap (n+(l:X)))∧l≤8∧x<2 ^ l∧(0<x→1≤l∧2 ^ (l - 1)≤x):=by
 have h:=yB.1 rY x (by simpa using hx);unfold XI at h;split at h
 ·rename_i b hb
  simp only[zE,decide_eq_true_eq,kV,beq_iff_eq] at h
  have hw:IntKind.u8.wrap (x:X)=(x:X):=by
   simp only[IntKind.wrap,IntKind.bits,IntKind.signed];have:(x:X) % 256=x:=Int.emod_eq_of_lt (by omega) (by omega);simp[this]
  refine⟨b.toNat,?_,h.1,h.2.1,fun h0=> ?_⟩
  ·rw[rX,hw,Ak,hb,zB,DY (n:=b.toNat) (by omega)]
  ·rcases h.2.2 with h3|h3
   ·omega
   ·exact h3
 ·cases h
theorem re{s:Z}(h1:1≤s)(h2:s<4096):∃t:Z,JS (s:X)=O ((t+1:Z):X)∧2 ^ t≤s∧s<2 ^ (t+1)∧t<12:=by
 have key:∃l:Z,JS (s:X)=O ((l:Z):X)∧1≤l∧2 ^ (l - 1)≤s∧s<2 ^ l:=by
  unfold JS PC;rw[if_neg (by simp; omega)];unfold MC;rw[if_neg (by simp; omega)];unfold MD;by_cases hs:s<256
  ·rw[if_neg (by simp; omega)];obtain⟨l,e,l8,a1,a2⟩:=XH hs 0;obtain⟨a3,a4⟩:=a2 h1;refine⟨l,?_,a3,a4,a1⟩;rw[e,zB,Int.zero_add,DY (by omega)]
  ·rw[if_pos (by simp; omega)]
   have e8:Cs .u64 (s:X) 8=((s / 256:Z):X):=by
    unfold Cs;rw[show min 8 IntKind.u64.bits=8 by rfl,Int.fdiv_eq_ediv_of_nonneg _ (by decide)];have:((s:X) / 2 ^ 8)=((s / 256:Z):X):=by simp
    rw[this,KG (by omega)]
   have e9:IntKind.i64.wrap ((0:X)+8)=((8:Z):X):=by rw[Ap (by omega) (by omega)]; rfl
   rw[e8,e9];obtain⟨l,e,l8,a1,a2⟩:=XH (x:=s / 256) (by omega) ((8:Z):X);obtain⟨a3,a4⟩:=a2 (by omega);refine⟨8+l,?_,by omega,?_,?_⟩
   ·have:((8:Z):X)+(l:X)=((8+l:Z):X):=by omega
    rw[e,zB,this,DY (by omega)]
   ·rw[show 8+l - 1=(l - 1)+8 by omega,Nat.pow_add];omega
   ·rw[Nat.add_comm,Nat.pow_add];omega
 obtain⟨l,e,a1,a2,a3⟩:=key;obtain⟨t,rfl⟩:∃t,l=t+1:=⟨l - 1,by omega⟩;refine⟨t,e,by simpa using a2,a3,?_⟩;rcases yC t 12 with h|h
 ·exact h
 ·have:=yP (show 0<2 by omega) h;simp at a2
  omega
theorem Ta{s t:Z}(h1:2 ^ t≤s)(h2:s<2 ^ (t+1)):s.testBit t=E∧AB s (2 ^ t)<2 ^ t∧(∀i,(AB s (2 ^ t)).testBit i=E→s.testBit i=E)∧(∀i,s.testBit i=E→i=t∨(AB s (2 ^ t)).testBit i=E):=by
 have hb:∀i,(AB s (2 ^ t)).testBit i=(s.testBit i&& !decide (t=i)):=fun i=>by rw[EE,J6]
 refine⟨Nat.testBit_of_two_pow_le_and_two_pow_add_one_gt h1 h2,O4 fun i hi=> ?_,fun i hi=> ?_,fun i hi=> ?_⟩
 ·rw[hb,zE] at hi
  have:=GU h2 hi.1;have h3:t≠i:=by simpa using hi.2
  omega
 ·rw[hb,zE] at hi
  exact hi.1
 ·by_cases h:i=t
  ·exact .inl h
  ·right
   rw[hb,hi];simpa using fun e:t=i=>h e.symm
theorem Fy{α β R:Type}{L:Z→X→Q β→U R}(xs:Q α)(g:α→β)(K:Q β→U R)(hl:xs.length≤maxLen)
  (hs:∀(n i:Z) (acc:Q β) (h:i<xs.length),acc.length=i→L (n+1) (i:X) acc=L n (IntKind.i64.wrap ((i:X)+1)) (acc++ [g xs[i]])) (he:∀n acc,acc.length=xs.length→L (n+1) (xs.length:X) acc=K acc):L bigN 0 []=K (xs.map g):=by
 have key:∀(k i n:Z) (acc:Q β),i+k=xs.length→k<n→acc=(xs.take i).map g→L n (i:X) acc=K (xs.map g):=by
  intro k
  induction k with
  | zero=>
   intro i n acc hi hn ha;obtain⟨m,rfl⟩:∃m,n=m+1:=⟨n - 1,by omega⟩;have:i=xs.length:=by omega
   subst this;rw[yF] at ha
   rw[he m acc (by rw[ha]; simp),ha]
  | succ k ih=>
   intro i n acc hi hn ha;obtain⟨m,rfl⟩:∃m,n=m+1:=⟨n - 1,by omega⟩;have hlt:i<xs.length:=by omega
   rw[hs m i acc hlt (by rw[ha]; simp; omega),An hlt hl];refine ih (i+1) m _ (by omega) (by omega) ?_;rw[zJ hlt,kW,ha];rfl
 exact key xs.length 0 bigN [] (by omega) (BL hl) (by simp)
def Bg(d:X9):Y:=decide (0≤d.From)&&(decide (d.From<d.To)&&(decide (d.To≤2880)&&((decide (0≤d.A)&&decide (d.A<8))&&(decide (0≤d.B)&&decide (d.B<8)))))
theorem T0(d:X9):IB d=O (Bg d):=by
 unfold IB Bg;have e7:∀x:X,decide (x≤7)=decide (x<8):=fun x=>decide_eq_decide.2 (by omega)
 simp only[Bu,zB,e7];by_cases h2:d.From<d.To
 ·by_cases h3:d.To≤2880
  ·have h8:d.From≤2880:=by omega
   simp only[h2,h3,h8,decide_true,if_true,Bool.and_true,zQ];cases decide (0≤d.From)<;>cases(decide (0≤d.A)&&decide (d.A<8))<;>rfl
  ·simp[h2,h3]
 ·simp[h2]
theorem vJ{l:Q X9}:MJ l=O (decide (l.length≤12)&&l.all Bg):=by
 unfold MJ;by_cases h:l.length≤12
 ·rw[if_neg (by simp; omega),FJ (L:=If l) l Bg (by rw[Az]; omega) (fun n i hi=>by simp[If,Ak,hi,T0]) (fun n=>by simp[If])];simp[h]
 ·rw[if_pos (by simp; omega)];simp[h]
theorem pX{R:Type}(a b c d e:Y)(x y:R):(if(!a)=E then y else if(!b)=E then y else if(!c)=E then y else if d=E then(if e=E then x else y) else y)=if(a&&(b&&(c&&(d&&e))))=E then x else y:=by
 cases a<;>cases b<;>cases c<;>cases d<;>cases e<;>rfl
theorem Sr{l:Q X9}:Hj l=O (decide (l.length≤12)&&l.all Bg):=by
 unfold Hj;by_cases h:l.length≤12
 ·rw[if_neg (by simp; omega),FJ (L:=Hk l) l Bg (by rw[Az]; omega) (fun n i hi=> ?_) (fun n=>by simp[Hk])]
  ·simp[h]
  ·simp only[Hk,Aj,hi,decide_true,if_true,Af hi,zB,Kz,Bg];generalize l[i]=d
   have g1:decide (d.From<0)= !decide (0≤d.From):=by by_cases h:0≤d.From<;>simp[h]<;>omega
   have g2:decide (d.To≤d.From)= !decide (d.From<d.To):=by by_cases h:d.From<d.To<;>simp[h]<;>omega
   have g3:decide (2880<d.To)= !decide (d.To≤2880):=by by_cases h:d.To≤2880<;>simp[h]<;>omega
   simp only[g1,g2,g3];exact pX _ _ _ _ _ _ _
 ·rw[if_pos (by simp; omega)];simp[h]
def Ex(m:Q X):Y:=decide (m.length=64)&&m.all fun x=>decide (0≤x)&&decide (x≤240)
def DE(p:X)(m:Q X):Y:=BY p&&Ex m
theorem YW{p:X}{m:Q X}(h:m.length≤maxLen):Gq p m=O (DE p m):=by
 unfold Gq DE Ex BY;rw[Bu,zB,Y3 h];by_cases h1:m.length=64
 ·cases(decide (0≤p)&&decide (p≤2880))<;>simp[h1]
 ·have:((m.length:X) !=64)=E:=by simpa using(by omega:¬((m.length:X)=64))
  cases(decide (0≤p)&&decide (p≤2880))<;>simp[h1,this]
theorem WQ{m:Q X}(h:m.length≤maxLen):G3 m=O (Ex m):=by
 unfold G3 Ex;rw[Y2 h];by_cases h1:m.length=64
 ·simp[h1]
 ·have:((m.length:X) !=64)=E:=by simpa using(by omega:¬((m.length:X)=64))
  simp[h1,this]
theorem XW(p:X):CS p=O (BY p):=by rw[GB]; rfl
def CE(p:X)(m:Q X)(d e:X9):Y:=decide (IntKind.i64.wrap (d.To+IntKind.i64.wrap (p+m[(8*d.B+e.A).toNat]?.getD 0))≤e.From)
theorem P4{d:X9}(h:Bg d=E):0≤d.From∧d.From<d.To∧d.To≤2880∧0≤d.A∧d.A<8∧0≤d.B∧d.B<8:=by
 simp only[Bg,zE,decide_eq_true_eq] at h;omega
theorem Y1{m:Q X}(hm:Ex m=E){b a:X}(h0:0≤b)(h1:b<8)(h2:0≤a)(h3:a<8):ix m (8*b+a)=O (m[(8*b+a).toNat]?.getD 0):=by
 simp only[Ex,zE,decide_eq_true_eq] at hm
 obtain⟨k,hk⟩:∃k:Z,8*b+a=(k:X):=⟨(8*b+a).toNat,by omega⟩;rw[hk,Ak,zP,zC (by omega)];rfl
theorem YY{p:X}{m:Q X}{d e:X9}(hl:m.length≤maxLen)(ht:DE p m=E)(hd:Bg d=E)(he:Bg e=E):JY p m d e=O (CE p m d e):=by
 obtain⟨_,_,_,_,_,b0,b1⟩:=P4 hd;obtain⟨_,_,_,a0,a1,_,_⟩:=P4 he;have ht':=ht;simp only[DE,zE] at ht'
 unfold JY PE;have c1:(decide (0≤d.B)&&decide (d.B≤7))=E:=by simp; omega
 have c2:(decide (0≤e.A)&&decide (e.A≤7))=E:=by simp; omega
 rw[YW hl,ht,zB,if_pos rfl,Bu,c1,zB,if_pos rfl,Bu,c2,zB];unfold K3;rw[if_neg (by simp),Int.mul_comm d.B 8,Ap (n:=8*d.B) (by omega) (by omega),Ap (n:=8*d.B+e.A) (by omega) (by omega),Y1 ht'.2 b0 b1 a0 a1,zB,zB,if_pos rfl,T0,hd,zB,if_pos rfl,T0,he,zB,if_pos rfl];rfl
theorem WP{p:X}{m:Q X}{d e:X9}(hl:m.length≤maxLen)(ht:DE p m=E)(hd:Bg d=E)(he:Bg e=E):Jy p m d e=O (CE p m d e):=by
 obtain⟨_,_,_,_,_,b0,b1⟩:=P4 hd;obtain⟨_,_,_,a0,a1,_,_⟩:=P4 he;have ht':=ht;simp only[DE,zE] at ht'
 unfold Jy P8;have c1:(decide (0≤d.B)&&decide (d.B<8))=E:=by simp; omega
 have c2:(decide (0≤e.A)&&decide (e.A<8))=E:=by simp; omega
 have o1:(decide ([d].length≤12)&& [d].all Bg)=E:=by simp[hd]
 have o2:(decide ([e].length≤12)&& [e].all Bg)=E:=by simp[he]
 rw[XW,ht'.1,zB,if_pos rfl,WQ hl,ht'.2,zB,if_pos rfl,Kz,c1,zB,if_pos rfl,Kz,c2,zB];unfold Hn;rw[if_neg (by simp),Ap (n:=8*d.B) (by omega) (by omega),Ap (n:=8*d.B+e.A) (by omega) (by omega),Y1 ht'.2 b0 b1 a0 a1,zB,zB,if_pos rfl,Sr,o1,zB,if_pos rfl,Sr,o2,zB,if_pos rfl];rfl
def B0(p:X)(m:Q X)(l:Q X9)(i k:Z):Y:=match l[i]?,l[k]? with
 | some d,O e=>CE p m d e || CE p m e d
 | _,_=>G
theorem UB(p:X)(m:Q X)(l:Q X9)(i k:Z):B0 p m l i k=B0 p m l k i:=by
 unfold B0;cases l[i]?<;>cases l[k]?<;>simp[Bool.or_comm]
theorem EO{n m b:Z}(h:n+m≤1000000)(hb:b≤100):A3 n m b=E:=by
 unfold A3;have:(n+m)*b≤1000000*100:=yZ h hb;simp;omega
def nn(ms:Q Z):Q X:=ms.map fun x:Z=>(x:X)
theorem BZ(ms:Q Z):(nn ms).length=ms.length:=by simp[nn]
theorem De{ms:Q Z}{i:Z}(h:i<ms.length):ix (nn ms) (i:X)=O ((ms[i]:Z):X):=by
 rw[Ak,nn,kD,zC h]; rfl
theorem IV(ms:Q Z)(i a:Z):(nn ms).set i (a:X)=nn (ms.set i a):=by simp[nn,List.map_set]
theorem Y5(ms:Q Z)(a:Z):nn ms++ [(a:X)]=nn (ms++ [a]):=by simp[nn]
section
variable {p : X} {m : Q X} {l : Q X9}
theorem UA{i k:Z}(hi:i<l.length)(hk:k<l.length):B0 p m l i k=(CE p m l[i] l[k] || CE p m l[k] l[i]):=by
 unfold B0;rw[zC hi,zC hk]
def C8(p:X)(m:Q X)(l:Q X9):Q (Q Y):=l.map fun d=>l.map fun e=>CE p m d e || CE p m e d
theorem uT{i k:Z}(hi:i<l.length)(hk:k<l.length):∃x,ix (C8 p m l) (i:X)=O x∧ix x (k:X)=O (B0 p m l i k):=by
 refine⟨l.map fun e=>CE p m l[i] e || CE p m e l[i],?_,?_⟩
 ·rw[Ak,C8,kD,zC hi]; rfl
 ·rw[Ak,kD,zC hk,UA hi hk]; rfl
theorem vI(hl:m.length≤maxLen)(ht:DE p m=E)(hd:∀d∈l,Bg d=E)(hN:l.length≤12):Nd p m l=O (C8 p m l):=by
 have hm:l.length≤maxLen:=by rw[Az]; omega
 unfold Nd;refine Fy (L:=Fb p m l) l (fun d=>l.map fun e=>CE p m d e || CE p m e d) O hm (fun n i acc h ha=> ?_) (fun n acc ha=>by simp[Fb]);rw[Fb,Aj,if_pos (by simpa using h),Af h,zB];rw[Fy (L:=Gn p m l (i:X) l[i] acc (Fb p m l n)) l (fun e=>CE p m l[i] e || CE p m e l[i]) (fun row=>Fb p m l n (IntKind.i64.wrap ((i:X)+1)) (acc++ [row])) hm (fun n2 k acc2 hk ha2=> ?_) (fun n2 acc2 ha2=> ?_)]
 ·rw[Gn,Aj,if_pos (by simpa using hk),Af hk,zB,YY hl ht (hd _ (zF h)) (hd _ (zF hk)),zB,YY hl ht (hd _ (zF hk)) (hd _ (zF h))];have a1:∀b:Y,A3 acc2.length [b].length 1=E:=fun b=>EO (by simp; omega) (by omega)
  cases CE p m l[i] l[k] with
  | true=>rw[if_pos rfl,if_pos (a1 E)]; rfl
  | false=>rw[if_neg (by simp),zB,if_pos (a1 _)]; rfl
 ·rw[Gn,if_neg (by simp),if_pos (EO (by simp; omega) (by omega))]
def H0(p:X)(m:Q X)(l:Q X9)(i j:Z):Y:=decide (j<l.length)&&(decide (i≠j)&&B0 p m l i j)
theorem tV(hl:m.length≤maxLen)(ht:DE p m=E)(hd:∀d∈l,Bg d=E)(hN:l.length≤12)(K:X→Q X→U (Q X)){i:Z}(hi:i<l.length)(ms:Q Z)(hms:ms.length=l.length) :
  ∀(r k n a:Z),k+r=l.length→r<n→(∀j,a.testBit j=(decide (j<k)&&(decide (i≠j)&&B0 p m l i j)))→
   ∃q,(∀j,q.testBit j=H0 p m l i j)∧DM p m l (i:X) l[i] K n (k:X) (nn (ms.set i a))=K (IntKind.i64.wrap ((i:X)+1)) (nn (ms.set i q)):=by
 have hm:l.length≤maxLen:=by rw[Az]; omega
 intro r
 induction r with
 | zero=>
  intro k n a hk hn ha;obtain⟨n,rfl⟩:∃n',n=n'+1:=⟨n - 1,by omega⟩;refine⟨a,fun j=> ?_,?_⟩
  ·rw[ha,show k=l.length by omega]; rfl
  ·rw[DM,if_neg (by simp; omega)]
 | succ r ih=>
  intro k n a hk hn ha;obtain⟨n,rfl⟩:∃n',n=n'+1:=⟨n - 1,by omega⟩;have hlt:k<l.length:=by omega
  have a12:a<2 ^ 12:=O4 fun j hj=>by
   rw[ha,zE,decide_eq_true_eq] at hj; omega
  have step:∀v:Y,v=(decide (i≠k)&&B0 p m l i k)→∃q,(∀j,q.testBit j=H0 p m l i j)∧HK p m l (i:X) (k:X) l[i] (nn (ms.set i a)) (DM p m l (i:X) l[i] K n) v=K (IntKind.i64.wrap ((i:X)+1)) (nn (ms.set i q)):=by
   intro v hv;unfold HK;cases v with
   | true=>
    rw[if_pos rfl,De (by simp; omega),zB,if_neg (by simp),SY (by omega),kG];have h12:2 ^ k<2 ^ 64:=yR (by omega) (by omega);rw[SJ (yD a12 (by decide)) h12,zP,IV,List.set_set,An hlt hm];refine ih (k+1) n _ (by omega) (by omega) fun j=> ?_
    rw[yN,ha,J6];by_cases hjk:k=j
    ·subst hjk;have hx:¬i=k∧B0 p m l i k=E:=by simpa using hv.symm
     simp[hx.1,hx.2]
    ·have e:decide (j<k+1)=decide (j<k):=decide_eq_decide.2 (by omega);rw[e];simp[hjk]
   | false=>
    rw[if_neg (by simp),An hlt hm];refine ih (k+1) n a (by omega) (by omega) fun j=> ?_
    rw[ha];by_cases hjk:k=j
    ·subst hjk;rw[← hv];simp
    ·have e:decide (j<k+1)=decide (j<k):=decide_eq_decide.2 (by omega);rw[e]
  rw[DM,Aj,if_pos (by simpa using hlt),Af hlt,zB];by_cases hik:i=k
  ·subst hik;rw[if_neg (by simp)];exact step G (by simp)
  ·have hne:((i:X) !=(k:X))=E:=by simp; omega
   rw[if_pos hne,WP hl ht (hd _ (zF hi)) (hd _ (zF hlt)),zB];have hb:=UA (p:=p) (m:=m) hi hlt;cases hf:CE p m l[i] l[k] with
   | true=>
    rw[if_pos rfl];exact step E (by rw[hb,hf]; simp[hik])
   | false=>
    rw[if_neg (by simp),WP hl ht (hd _ (zF hlt)) (hd _ (zF hi)),zB];exact step _ (by rw[hb,hf]; simp[hik])
theorem pu(hl:m.length≤maxLen)(ht:DE p m=E)(hd:∀d∈l,Bg d=E)(hN:l.length≤12):∃ms:Q Z,ms.length=l.length∧(∀i j:Z,i<l.length→(ms[i]?.getD 0).testBit j=H0 p m l i j)∧LS p m l=O (nn ms):=by
 have hm:l.length≤maxLen:=by rw[Az]; omega
 have key:∀(r i n:Z) (ms:Q Z),i+r=l.length→r<n→ms.length=l.length→(∀i' j:Z,i'<i→(ms[i']?.getD 0).testBit j=H0 p m l i' j)→(∀i':Z,i≤i'→ms[i']?.getD 0=0)→
   ∃ms':Q Z,ms'.length=l.length∧(∀i j:Z,i<l.length→(ms'[i]?.getD 0).testBit j=H0 p m l i j)∧EZ p m l n (i:X) (nn ms)=O (nn ms'):=by
  intro r
  induction r with
  | zero=>
   intro i n ms hi hn hms h1 h2;obtain⟨n,rfl⟩:∃n',n=n'+1:=⟨n - 1,by omega⟩;exact⟨ms,hms,fun i' j h=>h1 i' j (by omega),by rw[EZ,if_neg (by simp; omega)]⟩
  | succ r ih=>
   intro i n ms hi hn hms h1 h2;obtain⟨n,rfl⟩:∃n',n=n'+1:=⟨n - 1,by omega⟩;have hlt:i<l.length:=by omega
   obtain⟨q,hq,e⟩:=tV hl ht hd hN (EZ p m l n) hlt ms hms l.length 0 bigN 0 (by omega) (BL hm) (fun j=>by simp)
   have e0:ms.set i 0=ms:=by
    have h3:=h2 i (kE _);rw[zC (by omega)] at h3
    have h3:ms[i]'(by omega)=0:=h3;apply List.ext_getElem (by simp)
    intro j hj1 hj2;by_cases hij:i=j
    ·subst hij; simp[h3]
    ·rw[List.getElem_set_ne hij]
   rw[e0] at e
   rw[EZ,Aj,if_pos (by simpa using hlt),Af hlt,zB];have e:DM p m l (i:X) l[i] (EZ p m l n) bigN 0 (nn ms)=_:=e;rw[e,An hlt hm];refine ih (i+1) n (ms.set i q) (by omega) (by omega) (by simpa using hms) (fun i' j h=> ?_) (fun i' h=> ?_)
   ·by_cases hii:i=i'
    ·subst hii;rw[yG (by omega)];exact hq j
    ·rw[yE hii];exact h1 i' j (by omega)
   ·rw[yE (by omega)];exact h2 i' (by omega)
 unfold LS;rw[Eu (by omega) (by omega),zB];have hz:zI l.length (0:X)=nn (zI l.length 0):=by simp[nn]
 rw[hz]
 exact key l.length 0 bigN _ (by omega) (BL hm) (by simp) (fun i' j h=>by omega) (fun i' h=>by
  rw[List.getElem?_replicate];split<;>rfl)
end
section
variable {B : Z → Z → Y} {N : Z} {ms : Q Z}
def eW(B:Z→Z→Y)(N:Z)(ms:Q Z):Prop:=ms.length=N∧∀i j:Z,i<N→(ms[i]?.getD 0).testBit j=(decide (j<N)&&(decide (i≠j)&&B i j))
theorem gk:EL B 0:=fun i j hi=>by simp at hi
theorem gj(hB:∀i j,B i j=B j i){s t:Z}(h1:2 ^ t≤s)(h2:s<2 ^ (t+1)):EL B s↔EL B (AB s (2 ^ t))∧∀i,(AB s (2 ^ t)).testBit i=E→B t i=E:=by
 obtain⟨a1,a2,a3,a4⟩:=Ta h1 h2;constructor
 ·intro h;exact⟨fun i j hi hj=>h i j (a3 i hi) (a3 j hj),fun i hi=>h t i a1 (a3 i hi) (by have:=GU a2 hi; omega)⟩
 ·rintro⟨k1,k2⟩ i j hi hj hne
  rcases a4 i hi with rfl|hi
  ·rcases a4 j hj with rfl|hj
   ·exact absurd zA hne
   ·exact k2 j hj
  ·rcases a4 j hj with rfl|hj
   ·rw[hB]; exact k2 i hi
   ·exact k1 i j hi hj hne
theorem Rl{a b:Z}:AB a b=0↔∀i,a.testBit i=E→b.testBit i=E:=by
 constructor
 ·intro h i hi;have:=EE a b i;rw[h,hi] at this
  cases hb:b.testBit i with
  | true=>rfl
  | false=>rw[hb] at this; simp at this
 ·intro h;apply yQ
  intro i;rw[EE,Nat.zero_testBit];cases hi:a.testBit i with
  | false=>rfl
  | true=>rw[h i hi]; rfl
theorem Ue(a b:Z):AB a b≤a:=by
 rcases yC a (AB a b) with h|h
 ·obtain⟨i,h1,h2⟩:=Nat.exists_testBit_ne_of_ne (Nat.ne_of_lt h) |>.elim fun i hi=>(⟨i,hi,⟨⟩⟩:∃i,a.testBit i≠(AB a b).testBit i∧True)
  exfalso
  have:AB a b &&& a=AB a b:=SG fun i hi=>by
   rw[EE,zE] at hi
   exact hi.1
  have h3:= @Nat.and_le_right (AB a b) a;omega
 ·exact h
def Rb(B:Z→Z→Y)(tg:Q Y)(s:Z):Prop:=∀x,x<s→(tg[x]?.getD G=E↔EL B x)
def U6(B:Z→Z→Y)(ls:Q Z)(s:Z):Prop:=∀x,x<s→Ca B x (ls[x]?.getD 0)
theorem XE(hN:N≤12){x n:Z}(hx:x<2 ^ N)(h:Ca B x n):n≤12:=Nat.le_trans (h.2 N (P1 hx)) hN
theorem Ql{tg:Q Y}{x:Z}(h:x<tg.length):ix tg (x:X)=O (tg[x]?.getD G):=by
 rw[Ak,zC h]; rfl
theorem Qj{ls:Q Z}{x:Z}(h:x<ls.length):ix (nn ls) (x:X)=O (((ls[x]?.getD 0:Z)):X):=by
 rw[De h,zC h]; rfl
theorem Yo(hN:N≤12):2 ^ N≤4096:=by
 have:=yP (show 0<2 by omega) hN;simpa using this
theorem rV(hN:N≤12)(y5:X){s t:Z}(hs:s<2 ^ N)(h1:2 ^ t≤s)(h2:s<2 ^ (t+1)){tg:Q Y}{ls:Q Z}(htl:tg.length=2 ^ N)(hll:ls.length=2 ^ N)(ht:Rb B tg (s+1))(hl:U6 B ls s)(K:X→Q Y→Q X→U X) :
  ∀(n q c:Z),q<n→q &&& AB s (2 ^ t)=q→E4 B s c→c≤100→(∀q',q' &&& AB s (2 ^ t)=q'→q<q'→EL B (q' ||| 2 ^ t)→c≤1+ls[AB (AB s (2 ^ t)) q']?.getD 0)→
   ∃c',Ca B s c'∧G2 (nn ms) y5 (s:X) (t:X) ((AB s (2 ^ t):Z):X) tg K n (q:X) (nn (ls.set s c))=K (IntKind.i64.wrap ((s:X)+1)) tg (nn (ls.set s c')):=by
 obtain⟨a1,a2,a3,a4⟩:=Ta h1 h2;have hp:=Yo hN;have h2s:AB s (2 ^ t)<s:=yW a2 h1;generalize hr:AB s (2 ^ t)=r at a2 a3 a4 h2s
 intro n
 induction n with
 | zero=>intro q c hq; omega
 | succ n ih=>
  intro q c hq hsub hc hc1 hall
  have ht12:t<12:=by
   rcases yC t 12 with h|h
   ·exact h
   ·have:=yP (show 0<2 by omega) h;simp at this
    omega
  have hqr:q≤r:=by have:= @Nat.and_le_right q r; omega
  have hor:q ||| 2 ^ t≤s:=by
   have hsb:(q ||| 2 ^ t) &&& s=q ||| 2 ^ t:=SG fun i hi=>by
    rw[yN,J6,kV,decide_eq_true_eq] at hi
    rcases hi with h|h
    ·exact a3 i (wF hsub h)
    ·subst h; exact a1
   have:= @Nat.and_le_right (q ||| 2 ^ t) s;omega
  have hsml:∀x:Z,x≤s→x<2 ^ 63:=fun x hx=>yY hx (yW hs (Nat.le_trans hp (by decide)))
  have hand:AB r q<s:=yY (Ue r q) h2s;have hset:s<(ls.set s c).length:=by simp; omega
  have hnext:∀c1:Z,E4 B s c1→c1≤100→(∀q',q' &&& r=q'→q≤q'→EL B (q' ||| 2 ^ t)→c1≤1+ls[AB r q']?.getD 0)→
    ∃c',Ca B s c'∧JP (nn ms) y5 (s:X) (t:X) (r:X) (q:X) tg K (G2 (nn ms) y5 (s:X) (t:X) (r:X) tg K n) (nn (ls.set s c1))=K (IntKind.i64.wrap ((s:X)+1)) tg (nn (ls.set s c')):=by
   intro c1 g1 g2 g3;unfold JP;by_cases h0:q=0
   ·subst h0;refine⟨c1,⟨g1,fun m hm=> ?_⟩,by rw[if_pos (by simp)]⟩;obtain⟨q',n',e1,e2,e3,e4⟩:=hD a1 a3 hm;have:=(hl (AB r q') (yY (Ue r q') h2s)).2 n' e4;have:=g3 q' e1 (zL _) e2;omega
   ·rw[if_neg (by simpa using h0)]
    have ew:IntKind.i64.wrap ((q:X) - 1)=((q - 1:Z):X):=by
     rw[show(q:X) - 1=((q - 1:Z):X) by omega];exact DY (hsml _ (by omega))
    rw[ew,en (hsml _ (by omega)) (hsml _ (by omega))];have hlt:= @eq q r (by omega);refine ih ((q - 1) &&& r) c1 (by omega) (eu _ _) g1 g2 fun q' e1 e2 e3=> ?_
    refine g3 q' e1 ?_ e3;rcases yC q' q with h|h
    ·have:=sd r r q q' (kE _) hsub e1 h;omega
    ·exact h
  rw[G2,if_neg (by simp),QL (by omega),tL (hsml _ (by omega)) (hsml _ (by omega)),Ql (by omega),zB];have hk:=ht (q ||| 2 ^ t) (by omega);cases hb:tg[q ||| 2 ^ t]?.getD G with
  | false=>
   rw[if_neg (by simp)];refine hnext c hc hc1 fun q' e1 e2 e3=> ?_
   rcases yC q q' with h|h
   ·exact hall q' e1 h e3
   ·have:q'=q:=by omega
    subst this;rw[hb] at hk
    exact absurd (hk.2 e3) (by simp)
  | true=>
   rw[if_pos rfl];have hcq:=hk.1 hb
   have e26:ix (nn (ls.set s c)) (s:X)=O (c:X):=by
    rw[De hset,kG]
   have e27:ix (nn (ls.set s c)) (B4 .andNot .i64 (r:X) (q:X))=O ((ls[AB r q]?.getD 0:Z):X):=by
    rw[Ud (hsml _ (by omega)) (hsml _ (by omega)),Qj (by simp; omega),yE (by omega)]
   rw[e26,zB,e27,zB];have hle:=hl (AB r q) hand;have h12:=XE hN (yD hand hs) hle;generalize hv:ls[AB r q]?.getD 0=v at hle h12
   have ew:IntKind.i64.wrap ((1:X)+(v:X))=((1+v:Z):X):=by
    rw[show(1:X)+(v:X)=((1+v:Z):X) by omega];exact DY (by omega)
   have emin:(if IntKind.i64.wrap ((1:X)+(v:X))<(c:X) then IntKind.i64.wrap ((1:X)+(v:X)) else(c:X))=((if 1+v<c then 1+v else c:Z):X):=by
    rw[ew];by_cases h:1+v<c
    ·rw[if_pos (by omega),if_pos h]
    ·rw[if_neg (by omega),if_neg h]
   rw[emin,zP,IV,List.set_set];refine hnext _ ?_ (by split<;>omega) fun q' e1 e2 e3=> ?_
   ·split
    ·exact gz a4 hcq hle.1
    ·exact hc
   ·rcases yC q q' with h|h
    ·have:=hall q' e1 h e3;split<;>omega
    ·have:q'=q:=by omega
     subst this;rw[hv];split<;>omega
theorem rR(hB:∀i j,B i j=B j i)(hN:N≤12)(hm:eW B N ms):∃n:Z,Ca B (2 ^ N - 1) n∧n≤12∧LR (nn ms)=O (n:X):=by
 have hp:=Yo hN;have hp0:0<2 ^ N:=kK (by omega);obtain⟨hml,hmb⟩:=hm
 have key:∀(k s n:Z) (tg:Q Y) (ls:Q Z),s+k=2 ^ N→k<n→1≤s→tg.length=2 ^ N→ls.length=2 ^ N→Rb B tg s→U6 B ls s→
   ∃v:Z,Ca B (2 ^ N - 1) v∧v≤12∧Ef (nn ms) ((2 ^ N:Z):X) n (s:X) tg (nn ls)=O (v:X):=by
  intro k
  induction k with
  | zero=>
   intro s n tg ls hs hn hs1 htl hll ht hl;obtain⟨n,rfl⟩:∃n',n=n'+1:=⟨n - 1,by omega⟩;have:=hl (2 ^ N - 1) (by omega);refine⟨_,this,XE hN (by omega) this,?_⟩
   have ew:IntKind.i64.wrap (((2 ^ N:Z):X) - 1)=((2 ^ N - 1:Z):X):=by
    rw[show((2 ^ N:Z):X) - 1=((2 ^ N - 1:Z):X) by omega];exact DY (by omega)
   rw[Ef,if_neg (by simp only[Aj,decide_eq_true_eq]; omega),ew,Qj (by omega),zB]
  | succ k ih=>
   intro s n tg ls hs hn hs1 htl hll ht hl;obtain⟨n,rfl⟩:∃n',n=n'+1:=⟨n - 1,by omega⟩;obtain⟨t,e1,h1,h2,ht12⟩:=re hs1 (show s<4096 by omega);obtain⟨a1,a2,a3,a4⟩:=Ta h1 h2;have htN:t<N:=GU (show s<2 ^ N by omega) a1;have h2s:AB s (2 ^ t)<s:=yW a2 h1
   have hsml:∀x:Z,x≤s→x<2 ^ 63:=fun x hx=>by
    have:(4096:Z)<2 ^ 63:=by decide
    omega
   have ew:IntKind.i64.wrap (((t+1:Z):X) - 1)=(t:X):=by
    rw[show((t+1:Z):X) - 1=(t:X) by omega];exact DY (by omega)
   have er:B4 .andNot .i64 (s:X) (B9 .i64 (1:X) (t:X))=((AB s (2 ^ t):Z):X):=by
    rw[QL (by omega),Ud (hsml _ (kE _)) (hsml _ h1)]
   have hu:IntKind.u64.wrap (s:X)=(s:X):=KG (by omega);have hct:=gj hB h1 h2
   have rest:∀b:Y,(b=E↔EL B s)→∃v:Z,Ca B (2 ^ N - 1) v∧v≤12∧
     JO (nn ms) ((2 ^ N:Z):X) (s:X) (nn ls) (Ef (nn ms) ((2 ^ N:Z):X) n) (t:X) ((AB s (2 ^ t):Z):X) (tg.set s b)=O (v:X):=by
    intro b hb
    have ht':Rb B (tg.set s b) (s+1):=fun x hx=>by
     by_cases h:s=x
     ·subst h;rw[yG (by omega)];exact hb
     ·rw[yE h];exact ht x (by omega)
    unfold JO;rw[Qj (by omega),zB,BZ,hml,zP,IV]
    obtain⟨c',k1,k2⟩:=rV (ms:=ms) hN ((2 ^ N:Z):X) (show s<2 ^ N by omega) h1 h2 (tg:=tg.set s b) (ls:=ls) (by simpa using htl) hll ht' hl (Ef (nn ms) ((2 ^ N:Z):X) n) bigN (AB s (2 ^ t)) N (by rw[BW]; omega) (Nat.and_self _) (P1 (by omega)) (by omega) (fun q' g1 g2=>by
     have:= @Nat.and_le_right q' (AB s (2 ^ t));omega)
    rw[k2,An (show s<4096 by omega) (by rw[Az]; omega)];refine ih (s+1) n (tg.set s b) (ls.set s c') (by omega) (by omega) (by omega) (by simpa using htl) (by simpa using hll) ht' fun x hx=> ?_
    by_cases h:s=x
    ·subst h;rw[yG (by omega)];exact k1
    ·rw[yE h];exact hl x (by omega)
   rw[Ef,Aj,if_pos (by simp; omega),hu,e1,zB,ew,if_neg (by simp),er,Ql (by omega),zB,zP];have hk:=ht (AB s (2 ^ t)) h2s;cases hb:tg[AB s (2 ^ t)]?.getD G with
   | true=>
    rw[if_pos rfl,Qj (by omega),zB,Ql (by omega),zB]
    have hmt:ms[t]?.getD 0<2 ^ 12:=O4 fun j hj=>by
     rw[hmb t j htN,zE,decide_eq_true_eq] at hj
     omega
    rw[KG (n:=AB s (2 ^ t)) (by omega),L3 (by omega) (yD hmt (by decide)),fp];refine rest _ ?_;rw[decide_eq_true_eq,Rl,hct];constructor
    ·intro h;refine⟨hk.1 hb,fun i hi=> ?_⟩;have:=h i hi;rw[hmb t i htN] at this
     simp at this
     exact this.2.2
    ·rintro⟨_,h⟩ i hi
     have hit:=GU a2 hi;rw[hmb t i htN,h i hi];simp;omega
   | false=>
    rw[if_neg (by simp),Ql (by omega),zB];refine rest G ?_;rw[hct];constructor
    ·intro h; cases h
    ·rintro⟨h,_⟩
     have:=hk.2 h;rw[hb] at this
     cases this
 unfold LR
 have hm1:∀b:Z,b≤1000→BM (B9 .i64 (1:X) ((N:Z):X)) (B9 .i64 (1:X) ((N:Z):X)) b=O (2 ^ N):=fun b hb=>by
  rw[QL (by omega)]; exact Eu (by omega) hb
 rw[BZ,hml,if_neg (by simp),hm1 1 (by omega),zB,hm1 8 (by omega),zB,QL (by omega)]
 have e0:ix (zI (2 ^ N) G) (0:X)=O G:=by
  have:=Af (l:=zI (2 ^ N) G) (i:=0) (by simpa using hp0);simpa using this
 have hz:zI (2 ^ N) (0:X)=nn (zI (2 ^ N) 0):=by simp[nn]
 rw[e0,zB,hz]
 obtain⟨v,k1,k2,k3⟩:=key (2 ^ N - 1) 1 bigN ((zI (2 ^ N) G).set 0 E) (zI (2 ^ N) 0) (by omega) (by rw[BW]; omega) (by omega) (by simp) (by simp)
  (fun x hx=>by
   have:x=0:=by omega
   subst this;rw[yG (by simpa using hp0)];exact⟨fun _=>gk,fun _=>rfl⟩)
  (fun x hx=>by
   have:x=0:=by omega
   subst this;rw[List.getElem?_replicate,if_pos hp0];exact Sy)
 exact⟨v,k1,k2,k3⟩
end
theorem fA{g i:Z}(h:g<2 ^ i):AB (g ||| 2 ^ i) (2 ^ i)=g:=by
 apply yQ
 intro j;rw[EE,yN,J6];by_cases hj:i=j
 ·subst hj;rw[Nat.testBit_lt_two_pow h];simp
 ·simp[hj]
theorem vA{α:Type}{l:Q α}{i:Z}{x:α}(h:l[i]?=O x):l.set i x=l:=by
 apply List.ext_getElem?
 intro j;by_cases hij:i=j
 ·subst hij;rw[yG (kL.1 h).1,h]
 ·rw[yE hij]
theorem hH:∀(d fuel:Z) (sm gs:Q Z) (most:X) (who:Q X),who.length+d=sm.length→d<fuel→(∀x∈sm,x<2 ^ 12)→sm.length≤12→(∀g∈gs,0<g∧g<2 ^ who.length)→gs.length≤who.length→
  ∃b r,DL fuel ⟨nn sm,most,nn gs,who⟩=O (b,r)∧r.most=most∧(b=G→r=⟨nn sm,most,nn gs,who⟩):=by
 intro d
 induction d with
 | zero=>
  intro fuel sm gs most who hd hf h1 h2 h3 h4;obtain⟨fuel,rfl⟩:∃n',fuel=n'+1:=⟨fuel - 1,by omega⟩;refine⟨E,⟨nn sm,most,nn gs,who⟩,?_,zA,fun h=>by cases h⟩;rw[DL,LP,if_pos (by simp[BZ]; omega)]
 | succ d ih=>
  intro fuel sm gs most who hd hf h1 h2 h3 h4;obtain⟨fuel,rfl⟩:∃n',fuel=n'+1:=⟨fuel - 1,by omega⟩;rw[DL,LP,if_neg (by simp[BZ]; omega)];have hi12:who.length≤11:=by omega
  have hpw:2 ^ who.length<2 ^ 64:=yR (by omega) (by omega);have hp0:0<2 ^ who.length:=kK (by omega);have hpd:2 ^ (who.length+1)=2 ^ who.length+2 ^ who.length:=by rw[Nat.pow_succ]; omega
  have hsi:who.length<sm.length:=by omega
  have hsm:sm[who.length]<2 ^ 64:=yD (h1 _ (zF hsi)) (by decide)
  have key:∀(k p n:Z),p+k=gs.length+1→k<n→∃b r,EY (DL fuel) ⟨nn sm,most,nn gs,who⟩ n (p:X) (nn sm) most (nn gs) who=O (b,r)∧r.most=most∧(b=G→r=⟨nn sm,most,nn gs,who⟩):=by
   intro k
   induction k with
   | zero=>
    intro p n hp hn;obtain⟨n,rfl⟩:∃n',n=n'+1:=⟨n - 1,by omega⟩;refine⟨G,_,?_,zA,fun _=>rfl⟩;rw[EY,if_neg (by simp[BZ]; omega)]
   | succ k ihk=>
    intro p n hp hn;obtain⟨n,rfl⟩:∃n',n=n'+1:=⟨n - 1,by omega⟩;have hpl:p≤gs.length:=by omega
    rw[EY,if_pos (by simp[BZ]; omega)];cases hmost:decide ((p:X)<most) with
    | false=>exact⟨G,_,by rw[if_neg (by simp)],rfl,fun _=>rfl⟩
    | true=>
     rw[if_pos rfl];by_cases hpe:p=gs.length
     ·-- a new person
      rw[if_pos (by simp[BZ]; omega),if_pos (EO (by simp[BZ]; omega) (by omega))];have e0:nn gs++ [(0:X)]=nn (gs++ [0]):=Y5 gs 0;rw[e0];unfold JK;dsimp only
      have hpg:p<(gs++ [0]).length:=by simp; omega
      have hg0:(gs++ [0])[p]=0:=by simp[hpe]
      rw[De hpg,zB,hg0,De hsi,zB,L3 (by decide) hsm];have ez:AB 0 sm[who.length]=0:=Rl.2 fun i hi=>by simp at hi
      rw[ez,if_pos (by simp),if_neg (by simp),if_pos (EO (by simp; omega) (by omega)),SY (by omega),SJ (by decide) hpw,Nat.zero_or,zP,IV]
      have es:(gs++ [0]).set p (2 ^ who.length)=gs++ [2 ^ who.length]:=by
       rw[List.set_append_right _ _ (by omega)];simp[hpe]
      rw[es]
      obtain⟨b,r,k1,k2,k3⟩:=ih fuel sm (gs++ [2 ^ who.length]) most (who++ [(p:X)]) (by simp; omega) (by omega) h1 h2 (fun g hg=>by
       rw[zK,zY,hpd];rcases zV.1 hg with hg|hg
       ·have:=h3 g hg; omega
       ·rw[zS] at hg; omega) (by simp; omega)
      rw[k1,zB];cases b with
      | true=>exact⟨E,r,by rw[if_pos rfl],k2,fun h=>by cases h⟩
      | false=>
       have:=k3 rfl;subst this;rw[if_neg (by simp)];have hw:((who++ [(p:X)]).length:X)=((who.length+1:Z):X):=by simp
       simp only[zK,zY];rw[show bnd ((who.length+1:Z):X) (who.length:X) 0 (who.length+1)=O (0,who.length) from E8 (by omega),zB];have hpg2:p<(gs++ [2 ^ who.length]).length:=by simp; omega
       have hg2:(gs++ [2 ^ who.length])[p]=2 ^ who.length:=by simp[hpe]
       rw[De hpg2,zB,hg2,if_neg (by simp),L3 hpw hpw,IV];have ez2:AB (2 ^ who.length) (2 ^ who.length)=0:=Rl.2 fun i hi=>hi
       have es2:(gs++ [2 ^ who.length]).set p 0=gs++ [0]:=by
        rw[List.set_append_right _ _ (by omega)];simp[hpe]
       have et:(who++ [(p:X)]).take who.length=who:=by simp
       rw[ez2,es2,et];unfold HG;rw[De hpg,zB,hg0,if_pos (by simp),BZ];have hl1:(gs++ [0]).length=gs.length+1:=by simp
       rw[hl1,show bnd ((gs.length+1:Z):X) (p:X) 0 (gs.length+1)=O (0,p) from E8 (by omega),zB];have et2:(nn (gs++ [0])).take p=nn gs:=by rw[hpe]; simp[nn]
       show ∃b r,O (G,(⟨nn sm,most,(nn (gs++ [0])).take p,who⟩:Xg))=O (b,r)∧_
       rw[et2];exact⟨G,_,zA,zA,fun _=>rfl⟩
     ·-- one that is there
      rw[if_neg (by simp[BZ]; omega)];have hpg:p<gs.length:=by omega
      have hgm:=h3 _ (zF hpg)
      have hnext:∃b r,HG (DL fuel) ⟨nn sm,most,nn gs,who⟩ (p:X) (EY (DL fuel) ⟨nn sm,most,nn gs,who⟩ n) (nn sm) most (nn gs) who=O (b,r)∧r.most=most∧(b=G→r=⟨nn sm,most,nn gs,who⟩):=by
       unfold HG;rw[De hpg,zB,if_neg (by simp; omega),An hpg (by rw[Az]; omega)];exact ihk (p+1) n (by omega) (by omega)
      unfold JK;dsimp only
      rw[De hpg,zB,De hsi,zB,L3 (by omega) hsm];cases hfit:(((AB gs[p] sm[who.length]:Z):X)==0) with
      | false=>rw[if_neg (by simp)]; exact hnext
      | true=>
       rw[if_pos rfl,if_neg (by simp),if_pos (EO (by simp; omega) (by omega)),SY (by omega),SJ (by omega) hpw,zP,IV];have hor:gs[p] ||| 2 ^ who.length<2 ^ (who.length+1):=kC (by omega) (by omega)
       have hop:0<gs[p] ||| 2 ^ who.length:=by
        have:= @Nat.left_le_or gs[p] (2 ^ who.length);omega
       have hor64:gs[p] ||| 2 ^ who.length<2 ^ 64:=kC (by omega) hpw
       obtain⟨b,r,k1,k2,k3⟩:=ih fuel sm (gs.set p (gs[p] ||| 2 ^ who.length)) most (who++ [(p:X)]) (by simp; omega) (by omega) h1 h2 (fun g hg=>by
        rw[zK,zY];rcases List.mem_or_eq_of_mem_set hg with hg|hg
        ·have:=h3 g hg; omega
        ·subst hg; exact⟨hop,hor⟩) (by simp; omega)
       rw[k1,zB];cases b with
       | true=>exact⟨E,r,by rw[if_pos rfl],k2,fun h=>by cases h⟩
       | false=>
        have:=k3 rfl;subst this;rw[if_neg (by simp)];simp only[zK,zY];have hps:p<(gs.set p (gs[p] ||| 2 ^ who.length)).length:=by simp; omega
        rw[show bnd ((who.length+1:Z):X) (who.length:X) 0 (who.length+1)=O (0,who.length) from E8 (by omega),zB,De hps,zB,kG,if_neg (by simp),L3 hor64 hpw,IV,fA hgm.2,List.set_set,vA (zC hpg)];have et:(who++ [(p:X)]).take who.length=who:=by simp
        rw[et];exact hnext
  exact key (gs.length+1) 0 bigN (by omega) (by rw[BW]; omega)
section
variable {p : X} {m : Q X} {l : Q X9}
def eX(B:Z→Z→Y)(w:Q Z):Prop:=∀(i k:Z) (hi:i<w.length) (hk:k<i),w[i]=w[k]→B i k=E
theorem uj(rec_:(Q (Q Y))→(Q X)→X→U ((Q X) × Y))(a2 v2:X)(K:X→U ((Q X) × Y))(c:Z){w:Q Z}(hw:w.length<l.length)(hN:l.length≤12) :
  ∀(r k n:Z) (v:Y),k+r=w.length→r<n→∃b:Y,(b=E↔v=E∧∀(k':Z) (h:k'<w.length),k≤k'→w[k']=c→B0 p m l w.length k'=E)∧
   Dp rec_ (C8 p m l) (nn w) a2 v2 (c:X) K n v (k:X)=Dp rec_ (C8 p m l) (nn w) a2 v2 (c:X) K 1 b (w.length:X):=by
 intro r
 induction r with
 | zero=>
  intro k n v hk hn;obtain⟨n,rfl⟩:∃n',n=n'+1:=⟨n - 1,by omega⟩;have:k=w.length:=by omega
  subst this;refine⟨v,⟨fun h=>⟨h,fun k' h1 h2=>by omega⟩,fun h=>h.1⟩,?_⟩;simp only[Dp,BZ,Aj,Nat.lt_irrefl,decide_false,zD,if_false]
 | succ r ih=>
  intro k n v hk hn;obtain⟨n,rfl⟩:∃n',n=n'+1:=⟨n - 1,by omega⟩;have hlt:k<w.length:=by omega
  rw[Dp,if_pos (by simp[BZ]; omega),De hlt,zB];have hwr:=An hlt (show w.length≤maxLen by rw[Az]; omega);by_cases hc:w[k]=c
  ·obtain⟨x,x1,x2⟩:=uT (p:=p) (m:=m) hw (show k<l.length by omega);rw[if_pos (by simp; omega),BZ,x1,zB,x2,zB];cases hb:B0 p m l w.length k with
   | true=>
    rw[if_pos rfl,hwr];obtain⟨b,b1,b2⟩:=ih (k+1) n v (by omega) (by omega);refine⟨b,b1.trans ⟨fun⟨g1,g2⟩=>⟨g1,fun k' h1 h2 h3=> ?_⟩,fun⟨g1,g2⟩=>⟨g1,fun k' h1 h2=>g2 k' h1 (by omega)⟩⟩,b2⟩;by_cases hkk:k=k'
    ·subst hkk; exact hb
    ·exact g2 k' h1 (by omega) h3
   | false=>
    rw[if_neg (by simp),hwr];obtain⟨b,b1,b2⟩:=ih (k+1) n G (by omega) (by omega);refine⟨b,b1.trans ⟨fun⟨g1,g2⟩=>(by cases g1),fun⟨g1,g2⟩=> ?_⟩,b2⟩;have:=g2 k hlt (kE _) hc;rw[hb] at this
    cases this
  ·rw[if_neg (by simp; omega),hwr];obtain⟨b,b1,b2⟩:=ih (k+1) n v (by omega) (by omega);refine⟨b,b1.trans ⟨fun⟨g1,g2⟩=>⟨g1,fun k' h1 h2 h3=> ?_⟩,fun⟨g1,g2⟩=>⟨g1,fun k' h1 h2=>g2 k' h1 (by omega)⟩⟩,b2⟩;by_cases hkk:k=k'
   ·subst hkk; exact absurd h3 hc
   ·exact g2 k' h1 (by omega) h3
theorem uk(rec_:(Q (Q Y))→(Q X)→X→U ((Q X) × Y))(a0:Q (Q Y))(a2:X){w:Q Z}(hw:w.length≤12)(hx:∀x∈w,x<12) :
  ∀(r k n v:Z),k+r=w.length→r<n→v≤12→∃u:Z,u≤12∧v≤u∧(∀x∈w.drop k,x<u)∧Gp rec_ a0 (nn w) a2 n (v:X) (k:X)=DQ rec_ a0 (nn w) a2 (u:X) bigN 0:=by
 intro r
 induction r with
 | zero=>
  intro k n v hk hn hv;obtain⟨n,rfl⟩:∃n',n=n'+1:=⟨n - 1,by omega⟩;refine⟨v,hv,kE _,fun x h=> ?_,?_⟩
  ·rw[List.drop_eq_nil_of_le (by omega)] at h; cases h
  ·rw[Gp,if_neg (by simp[BZ]; omega)]
 | succ r ih=>
  intro k n v hk hn hv;obtain⟨n,rfl⟩:∃n',n=n'+1:=⟨n - 1,by omega⟩;have hlt:k<w.length:=by omega
  have hk12:=hx _ (zF hlt);rw[Gp,if_pos (by simp[BZ]; omega),De hlt,zB,An hlt (by rw[Az]; omega)];have ew:IntKind.i64.wrap (((w[k]:Z):X)+1)=((w[k]+1:Z):X):=An (n:=12) hk12 (by rw[Az]; omega)
  have em:(if(v:X)<IntKind.i64.wrap (((w[k]:Z):X)+1) then IntKind.i64.wrap (((w[k]:Z):X)+1) else(v:X))=((if v<w[k]+1 then w[k]+1 else v:Z):X):=by
   rw[ew];by_cases h:v<w[k]+1
   ·rw[if_pos (by omega),if_pos h]
   ·rw[if_neg (by omega),if_neg h]
  rw[em];obtain⟨u,u1,u2,u3,u4⟩:=ih (k+1) n (if v<w[k]+1 then w[k]+1 else v) (by omega) (by omega) (by split<;>omega);refine⟨u,u1,by split at u2<;>omega,fun x hx2=> ?_,u4⟩;rw[zW hlt] at hx2
  rcases List.mem_cons.1 hx2 with rfl|hx2
  ·split at u2<;>omega
  ·exact u3 x hx2
theorem YI(mm:Z)(hmm:mm≤12)(hN:l.length≤12):∀(d fuel:Z) (w:Q Z),w.length+d=l.length→d<fuel→(∀x∈w,x<mm)→eX (B0 p m l) w→
  ∃out ok,Co fuel (C8 p m l) (nn w) (mm:X)=O (out,ok)∧(ok=E↔CR (B0 p m l) l.length mm w):=by
 have hrl:(C8 p m l).length=l.length:=by simp[C8]
 intro d
 induction d with
 | zero=>
  intro fuel w hd hf hx hv;obtain⟨fuel,rfl⟩:∃n',fuel=n'+1:=⟨fuel - 1,by omega⟩;refine⟨nn w,E,?_,⟨fun _=>lY (by omega) hx (UB p m l) hv,fun _=>rfl⟩⟩;rw[Co,Nf,if_pos (by simp[BZ,hrl]; omega)]
 | succ d ih=>
  intro fuel w hd hf hx hv;obtain⟨fuel,rfl⟩:∃n',fuel=n'+1:=⟨fuel - 1,by omega⟩;have hw:w.length<l.length:=by omega
  rw[Co,Nf,if_neg (by simp[BZ,hrl]; omega)];obtain⟨u,u1,_,u3,u4⟩:=uk (Co fuel) (C8 p m l) (mm:X) (w:=w) (by omega) (fun x h=>by have:=hx x h; omega) w.length 0 bigN 0 (by omega) (by rw[BW]; omega) (by omega);have u4:Gp (Co fuel) (C8 p m l) (nn w) (mm:X) bigN 0 0=_:=u4;rw[u4]
  have key:∀(k c n:Z),c+k=u+1→k<n→(∀c',c'<c→c'<mm→Je (B0 p m l) w c'→¬CR (B0 p m l) l.length mm (w++ [c']))→
    ∃out ok,DQ (Co fuel) (C8 p m l) (nn w) (mm:X) (u:X) n (c:X)=O (out,ok)∧(ok=E↔CR (B0 p m l) l.length mm w):=by
   have fin:∀c:Z,(u<c∨mm≤c)→(∀c',c'<c→c'<mm→Je (B0 p m l) w c'→¬CR (B0 p m l) l.length mm (w++ [c']))→¬CR (B0 p m l) l.length mm w:=fun c hc hno h=>by
    obtain⟨c',g1,g2,g3,g4⟩:=lZ hw (fun x h=>u3 x (by simpa using h)) h;exact hno c' (by omega) g2 g3 g4
   intro k
   induction k with
   | zero=>
    intro c n hc hn hno;obtain⟨n,rfl⟩:∃n',n=n'+1:=⟨n - 1,by omega⟩;refine⟨[],G,?_,⟨fun h=>(by cases h),fun h=>absurd h (fin c (by omega) hno)⟩⟩;rw[DQ,if_neg (by simp; omega)]
   | succ k ihk=>
    intro c n hc hn hno;obtain⟨n,rfl⟩:∃n',n=n'+1:=⟨n - 1,by omega⟩;rw[DQ,if_pos (by simp; omega)];by_cases hcm:c<mm
    ·rw[if_pos (by simpa using hcm)];obtain⟨b,b1,b2⟩:=uj (p:=p) (m:=m) (Co fuel) (mm:X) (u:X) (DQ (Co fuel) (C8 p m l) (nn w) (mm:X) (u:X) n) c hw hN w.length 0 bigN E (by omega) (by rw[BW]; omega);have b2:Dp (Co fuel) (C8 p m l) (nn w) (mm:X) (u:X) (c:X) (DQ (Co fuel) (C8 p m l) (nn w) (mm:X) (u:X) n) bigN E 0=_:=b2;have hfit:b=E↔Je (B0 p m l) w c:=b1.trans ⟨fun h k' h1 h2=>h.2 k' h1 (zL _) h2,fun h=>⟨rfl,fun k' h1 _ h2=>h k' h1 h2⟩⟩;have hwr:=An (i:=c) (n:=12) (by omega) (by rw[Az]; omega)
     have hon:(Je (B0 p m l) w c→¬CR (B0 p m l) l.length mm (w++ [c]))→∃out ok,Kj (Co fuel) (C8 p m l) (nn w) (mm:X) (u:X) (c:X) (DQ (Co fuel) (C8 p m l) (nn w) (mm:X) (u:X) n)=O (out,ok)∧(ok=E↔CR (B0 p m l) l.length mm w):=fun h=>by
      unfold Kj;rw[hwr];refine ihk (c+1) n (by omega) (by omega) fun c' h1 h2 h3=> ?_
      by_cases hcc:c'=c
      ·subst hcc; exact h h3
      ·exact hno c' (by omega) h2 h3
     rw[b2,Dp,if_neg (by simp[BZ])];cases b with
     | false=>
      rw[if_neg (by simp)];exact hon fun h=>absurd (hfit.2 h) (by simp)
     | true=>
      have hf2:=hfit.1 rfl;rw[if_pos rfl,if_pos (EO (by simp[BZ]; omega) (by omega)),if_pos (EO (by simp[BZ]; omega) (by omega)),Y5]
      obtain⟨out,ok,o1,o2⟩:=ih fuel (w++ [c]) (by simp; omega) (by omega) (fun x h=>by
       rcases zV.1 h with h|h
       ·exact hx x h
       ·rw[zS] at h; omega) (fun i k' hi hk' e=>by
       rcases yC i w.length with h|h
       ·rw[zN h,zN (by omega)] at e
        exact hv i k' h hk' e
       ·have:i=w.length:=by simp at hi; omega
        subst this;rw[zN hk'] at e
        simp at e
        exact hf2 k' hk' e.symm)
      rw[o1,zB];cases ok with
      | true=>exact⟨out,E,by rw[if_pos rfl],⟨fun _=>lX (o2.1 rfl),fun _=>rfl⟩⟩
      | false=>
       rw[if_neg (by simp)];exact hon fun _ h=>absurd (o2.2 h) (by simp)
    ·refine⟨[],G,by rw[if_neg (by simpa using hcm)],⟨fun h=>(by cases h),fun h=>absurd h (fin c (by omega) hno)⟩⟩
  exact key (u+1) 0 bigN (by omega) (by rw[BW]; omega) (fun c' h=>by omega)
def OQ(p:X)(m:Q X)(l:Q X9):Y:=(decide (l.length≤12)&&l.all Bg)&&DE p m
theorem eV(hl:m.length≤maxLen)(ho:OQ p m l=E):∃(n:Z) (w1 w2:Q X),n≤12∧Ca (B0 p m l) (2 ^ l.length - 1) n∧Ii p m l=O (w1,(n:X),E)∧Lp p m l=O (w2,(n:X),E):=by
 have ho':=ho;simp only[OQ,zE,decide_eq_true_eq] at ho'
 obtain⟨⟨hN,hda⟩,ht⟩:=ho';have hd:∀d∈l,Bg d=E:=fun d h=>yB.1 hda d h
 have hdo:(decide (l.length≤12)&&l.all Bg)=E:=by simp[hN,hda]
 obtain⟨ms,m1,m2,m3⟩:=pu hl ht hd hN;obtain⟨n,n1,n2,n3⟩:=rR (UB p m l) hN (ms:=ms) ⟨m1,m2⟩
 have hmx:∀x∈ms,x<2 ^ 12:=fun x hx=>by
  obtain⟨i,hi,rfl⟩:=zO hx;refine O4 fun j hj=> ?_
  have:=m2 i j (by omega);rw[zC hi] at this
  have this:ms[i].testBit j=H0 p m l i j:=this;rw[this,H0,zE,decide_eq_true_eq] at hj
  omega
 obtain⟨b,r,c1,c2,_⟩:=hH ms.length bigN ms [] (n:X) [] (by simp) (by rw[BW]; omega) hmx (by omega) (fun g h=>by cases h) (by simp)
 have hsp:∀(k v fu:Z),v+k=n→k<fu→∃w1,Ij l (C8 p m l) fu (v:X)=O (w1,(n:X),E):=by
  have hnN:n≤l.length:=n1.2 _ (P1 (by have:=kK (n:=l.length) (show 0<2 by omega); omega));intro k
  induction k with
  | zero=>
   intro v fu hv hfu;obtain⟨fu,rfl⟩:∃n',fu=n'+1:=⟨fu - 1,by omega⟩;have:v=n:=by omega
   subst this;obtain⟨out,ok,s1,s2⟩:=YI (p:=p) (m:=m) v n2 hN l.length bigN [] (by simp) (by rw[BW]; omega) (fun x h=>by cases h) (fun i k hi=>by simp at hi);have s1:PN (C8 p m l) [] (v:X)=O (out,ok):=s1;have hok:ok=E:=s2.2 (UV.1 n1.1);subst hok;exact⟨out,by rw[Ij,if_pos (by simp; omega),s1,zB,if_pos zA]⟩
  | succ k ihk=>
   intro v fu hv hfu;obtain⟨fu,rfl⟩:∃n',fu=n'+1:=⟨fu - 1,by omega⟩;obtain⟨out,ok,s1,s2⟩:=YI (p:=p) (m:=m) v (by omega) hN l.length bigN [] (by simp) (by rw[BW]; omega) (fun x h=>by cases h) (fun i k hi=>by simp at hi);have s1:PN (C8 p m l) [] (v:X)=O (out,ok):=s1
   have hok:ok=G:=by
    cases ok with
    | false=>rfl
    | true=>
     have:=n1.2 v (UV.2 (s2.1 rfl));omega
   subst hok;obtain⟨w1,e⟩:=ihk (v+1) fu (by omega) (by omega);refine⟨w1,?_⟩;rw[Ij,if_pos (by simp; omega),s1,zB,if_neg (by simp),An (i:=v) (n:=13) (by omega) (by rw[Az]; omega)];exact e
 obtain⟨w1,e1⟩:=hsp n 0 bigN (by omega) (by rw[BW]; omega);refine⟨n,w1,r.who,n2,n1,?_,?_⟩
 ·unfold Ii;rw[vJ,hdo,zB,if_pos rfl,YW hl,ht,zB];unfold MP;rw[if_neg (by simp),vI hl ht hd hN,zB];exact e1
 ·unfold Lp Pg;have ht':=ht;simp only[DE,zE] at ht'
  rw[Sr,hdo,zB,if_pos rfl,XW,ht'.1,zB,if_pos rfl,WQ hl,ht'.2,zB,zB,if_pos rfl,m3,zB,n3,zB];have c1:RN ⟨nn ms,(n:X),[],[]⟩=O (b,r):=c1;rw[c1,zB,c2]
end
section
variable {c : X1} {fl : Q X6}
def Cm(c:X1)(p:X3):X × X:=if p.Toward=E then((Ao c p.Segment).A,(Ao c p.Segment).B) else((Ao c p.Segment).B,(Ao c p.Segment).A)
theorem Oq{p:X3}(h:idx p.Segment c.Segments.length=E):Fa c p=O (Cm c p):=by
 unfold Fa Cm;rw[(BE h).1,zB];split<;>rfl
theorem WO{p:X3}(h:idx p.Segment c.Segments.length=E):JE p c=O (Cm c p):=by
 unfold JE Cm;rw[(BE h).1,zB];split<;>rfl
theorem V0{p:X3}(hc:AH c=E)(h:idx p.Segment c.Segments.length=E):0≤(Cm c p).1∧(Cm c p).1<8∧0≤(Cm c p).2∧(Cm c p).2<8:=by
 have hp:=(EC hc).1;have hx:=(BE h).2;simp only[AH,zE,decide_eq_true_eq,yB,kJ] at hc
 obtain⟨i,hi,e⟩:=zO hx;have:=hc.2.2.2 i hi;simp only[DC,zC hi,e,idx,zE,decide_eq_true_eq] at this
 unfold Cm;split<;>(simp only; omega)
theorem Oe{p:X3}(hc:AH c=E)(h:C3 c fl p=E):p.Start<p.End:=by
 simp only[C3,BY,zE,decide_eq_true_eq] at h;obtain⟨h3,h4,h5,h6,h7⟩:=h;obtain⟨_,_,a,b⟩:=(EC hc).2.2 _ (BE h4).2;rw[h7];unfold AA;split
 ·rw[Ap (n:=2*_) (by omega) (by omega),Ap (by omega) (by omega)]; omega
 ·rw[Ap (by omega) (by omega)]; omega
theorem ph{p:X3}(hn:∀x∈c.Points,x.Name.length≤maxLen)(hf:∀x∈fl,x.Name.length≤maxLen)(h1:AH c=E)(h2:Dt fl=E):Lv c fl p=O (C3 c fl p):=by
 unfold Lv;rw[Fl hn,h1,zB,if_pos rfl,WK hf,h2,zB,if_pos rfl,pv,zB]
def CA(c:X1)(p q:X3):X9:=⟨p.Start,q.End,(Cm c p).1,(Cm c q).2⟩
theorem WN{p q:X3}(h1:idx p.Segment c.Segments.length=E)(h2:idx q.Segment c.Segments.length=E):JL c p q=O (CA c p q):=by
 unfold JL;rw[WO h1,zB,WO h2,zB];rfl
theorem UX{p q:X3}(hc:AH c=E)(h1:idx p.Segment c.Segments.length=E)(h2:idx q.Segment c.Segments.length=E)(h3:0≤p.Start)(h4:p.Start<q.End)(h5:q.End≤2880):Bg (CA c p q)=E:=by
 obtain⟨a1,a2,_,_⟩:=V0 hc h1;obtain⟨_,_,b1,b2⟩:=V0 hc h2;unfold Bg CA;simp only[zE,decide_eq_true_eq];exact⟨h3,h4,h5,⟨a1,a2⟩,b1,b2⟩
theorem wy{p:X3}{s:X6}(hs:ix fl p.Ship=O s)(h1:idx p.Segment c.Segments.length=E)(all:Q X3)(v1:X)(K:X→Q X9→U (Q X9 × Y)){T:Z}(hT:s.Tugs=(T:X))(hT4:T≤4) :
  ∀(r k n:Z) (acc:Q X9),k+r=T→r<n→acc.length≤12+k→Gs fl (Cm c p) all v1 c p K n (k:X) acc =
   if(decide ((12:X)<((acc++zI r (CA c p p)).length:X))) then O (([]:Q X9),G) else K (IntKind.i64.wrap (v1+(1:X))) (acc++zI r (CA c p p)):=by
 intro r
 induction r with
 | zero=>
  intro k n acc hk hn ha;obtain⟨n,rfl⟩:∃n',n=n'+1:=⟨n - 1,by omega⟩;rw[Gs,hs,zB,if_neg (by rw[hT]; simp; omega)];simp
 | succ r ih=>
  intro k n acc hk hn ha;obtain⟨n,rfl⟩:∃n',n=n'+1:=⟨n - 1,by omega⟩;rw[Gs,hs,zB,if_pos (by rw[hT]; simp; omega),if_pos (EO (by simp; omega) (by omega)),An (i:=k) (n:=5) (by omega) (by rw[Az]; omega)];have:=ih (k+1) n (acc++ [CA c p p]) (by omega) (by omega) (by simp; omega);refine this.trans ?_;rw[yM];rfl
theorem wx{p:X3}{s:X6}(h1:idx p.Segment c.Segments.length=E)(all:Q X3)(v1:X)(K:X→Q X9→U (Q X9 × Y)){T:Z}(hT:s.Tugs=(T:X))(hT4:T≤4) :
  ∀(r k n:Z) (acc:Q X9),k+r=T→r<n→acc.length≤12+k→G6 fl all v1 s c p K n (k:X) acc =
   if(decide ((12:X)<((acc++zI r (CA c p p)).length:X))) then O (([]:Q X9),G) else K (IntKind.i64.wrap (v1+(1:X))) (acc++zI r (CA c p p)):=by
 intro r
 induction r with
 | zero=>
  intro k n acc hk hn ha;obtain⟨n,rfl⟩:∃n',n=n'+1:=⟨n - 1,by omega⟩;rw[G6,if_neg (by rw[hT]; simp; omega)];simp
 | succ r ih=>
  intro k n acc hk hn ha;obtain⟨n,rfl⟩:∃n',n=n'+1:=⟨n - 1,by omega⟩;rw[G6,if_pos (by rw[hT]; simp; omega),WN h1 h1,zB,if_pos (EO (by simp; omega) (by omega)),An (i:=k) (n:=5) (by omega) (by rw[Az]; omega)];have:=ih (k+1) n (acc++ [CA c p p]) (by omega) (by omega) (by simp; omega);refine this.trans ?_;rw[yM];rfl
theorem RE{w:Xm}(h:EQ w=E):BY w.Rest=E∧Ex w.Moves=E:=by
 simp only[EQ,zE] at h;exact⟨h.2.2.1,by simp only[Ex,zE]; exact h.2.2.2⟩
theorem eg{p:X}{m:Q X}{l:Q X9}(h1:l.length≤12)(h2:∀d∈l,Bg d=E)(h3:BY p=E)(h4:Ex m=E):OQ p m l=E:=by
 simp only[OQ,DE,h3,h4,Bool.and_self,Bool.and_true,zE,decide_eq_true_eq,yB];exact⟨h1,h2⟩
end
theorem OV{n m b:Z}(h:n+m≤3000000000000)(hb:b≤40):A3 n m b=E:=by
 unfold A3;have:(n+m)*b≤3000000000000*40:=yZ h hb;simp;omega
def Bw(l:Q X0):Q (Q X3):=l.map fun o=>o.Passages
theorem vS{l:Q X0}(hl:l.length≤1048576)(hp:∀o∈l,o.Passages.length≤1048576):JZ l=O (Bw l):=by
 unfold JZ;refine Fy (L:=I8 l) l (fun o=>o.Passages) O (by rw[Az]; omega) (fun n i acc h ha=> ?_) (fun n acc ha=>by simp[I8]);have:=hp _ (zF h);rw[I8,Aj,if_pos (by simpa using h),Af h,zB,if_pos (OV (by simp; omega) (by omega)),if_pos (OV (by simp; omega) (by omega))]
theorem mI{α R:Type}{L:Z→X→Q α→U R}(cs:Q (Q α))(K:U R)(hl:cs.length≤1048576)(hb:∀x∈cs,x.length≤1048576)
  (hs:∀(n i:Z) (acc:Q α) (h:i<cs.length),acc.length≤i*1048576→L (n+1) (i:X) acc=L n (IntKind.i64.wrap ((i:X)+1)) (acc++cs[i])) (he:∀n,L (n+1) (cs.length:X) cs.flatten=K):L bigN 0 []=K∧cs.flatten.length≤1099511627776:=by
 have key:∀(k i n:Z),i+k=cs.length→k<n→L n (i:X) (cs.take i).flatten=K:=by
  have hlen:∀i:Z,i≤cs.length→(cs.take i).flatten.length≤i*1048576:=by
   intro i
   induction i with
   | zero=>intro _; simp
   | succ i ih=>
    intro hi;rw[zJ (by omega),yT,zK];have h1:=ih (by omega);have h2:=hb _ (zF (show i<cs.length by omega));have e3: [cs[i]].flatten.length=cs[i].length:=by simp
    rw[e3];omega
  intro k
  induction k with
  | zero=>
   intro i n hi hn;obtain⟨m,rfl⟩:∃m,n=m+1:=⟨n - 1,by omega⟩;have:i=cs.length:=by omega
   subst this;rw[yF,he]
  | succ k ih=>
   intro i n hi hn;obtain⟨m,rfl⟩:∃m,n=m+1:=⟨n - 1,by omega⟩;have hlt:i<cs.length:=by omega
   rw[hs m i _ hlt (hlen i (by omega)),An hlt (by rw[Az]; omega)];have:=ih (i+1) m (by omega) (by omega);rw[zJ hlt,yT] at this
   simpa using this
 have hall:∀(k:Z),k≤cs.length→(cs.take k).flatten.length≤k*1048576:=by
  intro i
  induction i with
  | zero=>intro _; simp
  | succ i ih=>
   intro hi;rw[zJ (by omega),yT,zK];have h1:=ih (by omega);have h2:=hb _ (zF (show i<cs.length by omega));have e3: [cs[i]].flatten.length=cs[i].length:=by simp
   rw[e3];omega
 refine⟨key cs.length 0 bigN (by omega) (by rw[BW]; omega),?_⟩;have:=hall cs.length (kE _);rw[yF] at this
 omega
theorem sa{s:Q I}(h:DU s=E):1≤s.length∧s.length≤8:=by
 simp only[DU,KH,zE,decide_eq_true_eq] at h;omega
def Oz(x p:X):X:=if x<IntKind.i64.wrap (zZ p 2) then
  IntKind.i64.wrap (zZ (IntKind.i64.wrap (IntKind.i64.wrap (40000*x)*IntKind.i64.wrap (IntKind.i64.wrap (zZ p 2) - x))) (IntKind.i64.wrap (IntKind.i64.wrap (zZ p 2)*IntKind.i64.wrap (zZ p 2))))
 else IntKind.i64.wrap (0 - IntKind.i64.wrap (zZ (IntKind.i64.wrap (IntKind.i64.wrap (40000*IntKind.i64.wrap (x - IntKind.i64.wrap (zZ p 2)))*IntKind.i64.wrap (IntKind.i64.wrap (zZ p 2) - IntKind.i64.wrap (x - IntKind.i64.wrap (zZ p 2))))) (IntKind.i64.wrap (IntKind.i64.wrap (zZ p 2)*IntKind.i64.wrap (zZ p 2)))))
theorem SR{p:X}(h:Fx p=E):4≤p∧p≤2880∧IntKind.i64.wrap (yX p 4)=0:=by
 simp only[Fx,zE,decide_eq_true_eq,beq_iff_eq] at h;exact⟨h.1.1,h.1.2,h.2⟩
theorem Vo{p:X}(h1:4≤p)(h2:p≤2880):(IntKind.i64.wrap (IntKind.i64.wrap (zZ p 2)*IntKind.i64.wrap (zZ p 2))==0)=G:=by
 have e:zZ p 2=p / 2:=Int.tdiv_eq_ediv_of_nonneg (by omega);rw[e,Ap (n:=p / 2) (by omega) (by omega)];generalize hq:p / 2=q
 have q1:2≤q:=by omega
 have q2:q≤1440:=by omega
 have m1:2*2≤q*q:=Int.mul_le_mul q1 q1 (by omega) (by omega);have m2:q*q≤1440*1440:=Int.mul_le_mul q2 q2 (by omega) (by omega);rw[Ap (by omega) (by omega)];simp only[beq_eq_false_iff_ne,ne_eq];omega
theorem vR{n p:X}(hp:Fx p=E)(hn:0≤n)(hn2:n≤100000):N5 n p=O (Oz (yX n p) p):=by
 obtain⟨p1,p2,p3⟩:=SR hp;have hm:yX n p=n % p:=yS hn;have r1:=Int.emod_nonneg n (show p≠0 by omega);have r2:=Int.emod_lt_of_pos n (show 0<p by omega);unfold N5;rw[hm,Ap (n:=n % p) (by omega) (by omega),p3];have k1:¬p<4:=by omega
 have k2:¬2880<p:=by omega
 have k3:(p==0)=G:=by simp; omega
 have k4:¬n % p<0:=by omega
 simp only[k1,k2,k3,k4,decide_false,zD,if_false,bne_self_eq_false];unfold N6 Oz;rw[Vo p1 p2];simp only[zD,if_false,decide_eq_true_eq];split<;>rfl
theorem pp{n p:X}(hp:Fx p=E)(hn:0≤n)(hn2:n≤100000):LI n p=O (Oz (yX n p) p):=by
 obtain⟨p1,p2,p3⟩:=SR hp;have hm:yX n p=n % p:=yS hn;have r1:=Int.emod_nonneg n (show p≠0 by omega);have r2:=Int.emod_lt_of_pos n (show 0<p by omega);have k3:(p==0)=G:=by simp; omega
 have hmm:yX (n % p+p) p=n % p:=by
  rw[yS (by omega),Int.add_emod_right,Int.emod_emod]
 unfold LI;rw[Xy,hp,zB,hm,Ap (n:=n % p) (by omega) (by omega),Ap (n:=n % p+p) (by omega) (by omega),hmm,Ap (n:=n % p) (by omega) (by omega),Vo p1 p2];simp only[k3,zD,if_false,if_true,decide_eq_true_eq];unfold Oz;by_cases hx:n % p<IntKind.i64.wrap (zZ p 2)
 ·rw[if_pos hx,if_neg (by omega)]
 ·rw[if_neg hx,if_pos (by omega)]
theorem rr{t:Xl}{m:X}(ht:EF t=E)(h0:0≤m)(h1:m≤2880):∃r,Ke t m=O r∧Pe t m=O r:=by
 simp only[EF,zE,decide_eq_true_eq,yB] at ht
 obtain⟨_,hl,hp⟩:=ht;have hlm:t.Parts.length≤maxLen:=by rw[Az]; omega
 have key:∀(k i n:Z) (v:X),i+k=t.Parts.length→k<n→∃r,Iu m t n v (i:X)=O r∧HB m t n v (i:X)=O r:=by
  intro k
  induction k with
  | zero=>
   intro i n v hi hn;obtain⟨q,rfl⟩:∃q,n=q+1:=⟨n - 1,by omega⟩;have:i=t.Parts.length:=by omega
   subst this;exact⟨v,by simp[Iu],by simp[HB]⟩
  | succ k ih=>
   intro i n v hi hn;obtain⟨q,rfl⟩:∃q,n=q+1:=⟨n - 1,by omega⟩;have hlt:i<t.Parts.length:=by omega
   have hx:=hp _ (zF hlt);simp only[GM,zE,decide_eq_true_eq] at hx
   obtain⟨_,hx1,hx2,hx3⟩:=hx;obtain⟨p1,p2,_⟩:=SR hx1;rw[Ap (by omega) (by omega)] at hx3
   have hw:=Ap (n:=m+t.Parts[i].Phase) (by omega) (by omega);obtain⟨r,e1,e2⟩:=ih (i+1) q (IntKind.i64.wrap (v+IntKind.i64.wrap (zZ (IntKind.i64.wrap (t.Parts[i].Amp*Oz (yX (m+t.Parts[i].Phase) t.Parts[i].Period) t.Parts[i].Period)) 10000))) (by omega) (by omega);rw[← An hlt hlm] at e1 e2
   refine⟨r,?_,?_⟩
   ·simp only[Iu,Ak,zC hlt,zB,Aj,hlt,decide_true,if_true,hw,vR hx1 (show 0≤m+t.Parts[i].Phase by omega) (by omega)];exact e1
   ·simp only[HB,Ak,zC hlt,zB,Aj,hlt,decide_true,if_true,hw,pp hx1 (show 0≤m+t.Parts[i].Phase by omega) (by omega)];exact e2
 exact key t.Parts.length 0 bigN t.Mean (by omega) (BL hlm)
theorem lr{f:Xd}(h:D7 f=E):EF f.Tide=E∧0<f.Surges.length∧f.Surges.length≤6:=by
 simp only[D7,zE,decide_eq_true_eq] at h;refine⟨h.1,?_,?_⟩<;>omega
theorem wH{f:Xd}{m:X}(h0:0<f.Surges.length)(h6:f.Surges.length≤6):∃(a:Z) (ha:a<f.Surges.length),Lk f m=O (a:X)∧Iv f m=O f.Surges[a]:=by
 have hl:f.Surges.length≤maxLen:=by rw[Az]; omega
 have key:∀(k i n a:Z) (ha:a<f.Surges.length),i+k=f.Surges.length→k<n→∃(a':Z) (ha':a'<f.Surges.length),ES m f n (a:X) (i:X)=O (a':X)∧
   F8 m f n (i:X) f.Surges[a].From f.Surges[a].Low f.Surges[a].High=O f.Surges[a']:=by
  intro k
  induction k with
  | zero=>
   intro i n a ha hi hn;obtain⟨q,rfl⟩:∃q,n=q+1:=⟨n - 1,by omega⟩;have:i=f.Surges.length:=by omega
   subst this;exact⟨a,ha,by simp[ES],by simp[F8]⟩
  | succ k ih=>
   intro i n a ha hi hn;obtain⟨q,rfl⟩:∃q,n=q+1:=⟨n - 1,by omega⟩;have hlt:i<f.Surges.length:=by omega
   by_cases hm:f.Surges[i].From≤m
   ·obtain⟨a',ha',e1,e2⟩:=ih (i+1) q i hlt (by omega) (by omega);rw[← An hlt hl] at e1 e2
    refine⟨a',ha',?_,?_⟩
    ·simp only[ES,Ak,zC hlt,zB,Aj,hlt,decide_true,if_true,hm];exact e1
    ·simp only[F8,Ak,zC hlt,zB,Aj,hlt,decide_true,if_true,hm];exact e2
   ·obtain⟨a',ha',e1,e2⟩:=ih (i+1) q a ha (by omega) (by omega);rw[← An hlt hl] at e1 e2
    refine⟨a',ha',?_,?_⟩
    ·simp only[ES,Ak,zC hlt,zB,Aj,hlt,decide_true,if_true,hm,decide_false,zD,if_false];exact e1
    ·simp only[F8,Ak,zC hlt,zB,Aj,hlt,decide_true,if_true,hm,decide_false,zD,if_false];exact e2
 obtain⟨a,ha,e1,e2⟩:=key f.Surges.length 0 bigN 0 h0 (by omega) (BL hl);have z:((0:Z):X)=0:=rfl;rw[z] at e1 e2
 have e0:ix f.Surges 0=O f.Surges[0]:=Af h0;refine⟨a,ha,?_,?_⟩
 ·unfold Lk;exact e1
 ·unfold Iv;rw[e0,zB];exact e2
def T1(s:X6):X:=if s.Slow=E then IntKind.i64.wrap (zZ s.Draught 50) else IntKind.i64.wrap (zZ s.Draught 20)
def IT(c:X1)(i:X)(s:X6):X:=IntKind.i64.wrap (IntKind.i64.wrap (IntKind.i64.wrap (s.Draught+T1 s)+50) - (Ao c i).Depth)
theorem vK{c:X1}{s:X6}{i:X}(hn:∀x∈c.Points,x.Name.length≤maxLen)(hs:s.Name.length≤maxLen)(h1:AH c=E)(h2:Ck s=E)(h3:idx i c.Segments.length=E):MQ c i s=O (IT c i s):=by
 have:=(EC h1).2.1;unfold MQ Iz PF PH;simp only[DD hn,KP hs,h1,h2,zB,if_true,CG i (show c.Segments.length≤1000 by omega),h3,(BE h3).1,IT,T1];cases s.Slow<;>rfl
theorem pc{c:X1}{s:X6}{i:X}(hn:∀x∈c.Points,x.Name.length≤maxLen)(hs:s.Name.length≤maxLen)(h1:AH c=E)(h2:Ck s=E)(h3:idx i c.Segments.length=E):Lq c i s=O (IT c i s):=by
 unfold Lq HI Pb Pc;simp only[Fl hn,GA hs,h1,h2,zB,if_true,Du,h3,(BE h3).1,IT,T1];cases s.Slow<;>rfl
def OA(l:Q X5)(i:Z):Y:=match l[i]? with
 | some x=>decide (0≤x.From)&&(decide (x.From≤x.To)&&(decide (x.To≤2880)&&(match l[i - 1]? with | some y=>decide (i=0) || !(decide (x.From≤IntKind.i64.wrap (y.To+1))) | none=>E)))
 | none=>G
def OB(l:Q X5):Y:=(zM l.length).all (OA l)
theorem Yp{α:Type}{l:Q α}{i:Z}(h0:0<i)(hi:i<l.length)(hl:l.length≤maxLen):ix l (IntKind.i64.wrap ((i:X) - 1))=O (l[i - 1]'(by omega)):=by
 rw[Az] at hl
 rw[Ap (by omega) (by omega),show(i:X) - 1=((i - 1:Z):X) by omega,Af (by omega)]
theorem YX{l:Q X5}(hl:l.length≤maxLen):Kd l=O (OB l):=by
 unfold Kd OB;refine L2 (L:=F7 l) l.length (OA l) hl (fun n i hi=> ?_) (fun n=>by simp[F7]);have hp:i - 1<l.length:=by omega
 simp only[F7,Aj,hi,decide_true,if_true,Af hi,zB,Bu,OA,zC hi,zC hp];generalize F7 l n (IntKind.i64.wrap ((i:X)+1))=K
 by_cases h0:i=0
 ·subst h0;have hz:¬(0:X)<((0:Z):X):=by omega
  simp only[hz,decide_false,zD,if_false,decide_true,Bool.true_or];by_cases a1:0≤l[0].From<;>by_cases a2:l[0].From≤l[0].To<;>by_cases a3:l[0].To≤2880<;>by_cases a4:l[0].From≤2880<;>simp[a1,a2,a3,a4]<;>omega
 ·have hz:(0:X)<(i:X):=by omega
  simp only[hz,decide_true,if_true,Yp (by omega) hi hl,zB,h0,decide_false,Bool.false_or];by_cases a1:0≤l[i].From<;>by_cases a2:l[i].From≤l[i].To<;>by_cases a3:l[i].To≤2880<;>by_cases a4:l[i].From≤2880<;>by_cases a5:l[i].From≤IntKind.i64.wrap (l[i - 1].To+1)<;>simp[a1,a2,a3,a4,a5]<;>omega
theorem WM{l:Q X5}(hl:l.length≤maxLen):JH l=O (OB l):=by
 unfold JH OB;refine L2 (L:=EW l) l.length (OA l) hl (fun n i hi=> ?_) (fun n=>by simp[EW]);have hp:i - 1<l.length:=by omega
 simp only[EW,Aj,hi,decide_true,if_true,Af hi,zB,OA,zC hi,zC hp];generalize EW l n (IntKind.i64.wrap ((i:X)+1))=K
 have b1:decide (l[i].From<0)= !decide (0≤l[i].From):=by rw[zR]; simp
 have b2:decide (l[i].To<l[i].From)= !decide (l[i].From≤l[i].To):=by rw[zR]; simp
 have b3:decide (2880<l[i].To)= !decide (l[i].To≤2880):=by rw[zR]; simp
 rw[b1,b2,b3];by_cases h0:i=0
 ·subst h0;have hz:¬(0:X)<((0:Z):X):=by omega
  simp only[hz,decide_false,zD,if_false,decide_true,Bool.true_or];cases decide (0≤l[0].From)<;>cases decide (l[0].From≤l[0].To)<;>cases decide (l[0].To≤2880)<;>rfl
 ·have hz:(0:X)<(i:X):=by omega
  simp only[hz,decide_true,if_true,Yp (by omega) hi hl,zB,h0,decide_false,Bool.false_or];cases decide (0≤l[i].From)<;>cases decide (l[i].From≤l[i].To)<;>cases decide (l[i].To≤2880)<;>cases decide (l[i].From≤IntKind.i64.wrap (l[i - 1].To+1))<;>rfl
def CX(g:Z→Y)(n:Z):Y:=decide (0<n)&&g (n - 1)
def QK(v:Q X5)(n:X):Q X5:=v.dropLast++ [⟨(v.getLast?.getD ⟨0,0⟩).From,n⟩]
def AQ(g:Z→Y):Z→Q X5
 | 0=> []
 | n+1=>if g n=E then(if CX g n=E then QK (AQ g n) (n:X) else AQ g n++ [⟨(n:X),(n:X)⟩]) else AQ g n
theorem Ya(g:Z→Y)(n:Z):CX g (n+1)=g n:=by simp[CX]
theorem SX(l:Q X5)(x:X5)(n:X):QK (l++ [x]) n=l++ [⟨x.From,n⟩]:=by simp[QK]
theorem QW(g:Z→Y):∀n,(AQ g n).length≤n∧(CX g n=E→∃l x,AQ g n=l++ [x]∧x.To=(n:X) - 1)∧(CX g n=G→AQ g n= []∨∃l x,AQ g n=l++ [x]∧x.To<(n:X) - 1)
 | 0=>⟨by simp[AQ],by simp[CX],fun _=> .inl rfl⟩
 | n+1=>by
  obtain⟨h1,h2,h3⟩:=QW g n;rw[Ya];by_cases hg:g n=E
  ·by_cases ho:CX g n=E
   ·obtain⟨l,x,e,ht⟩:=h2 ho;have ew:AQ g (n+1)=l++ [⟨x.From,(n:X)⟩]:=by simp only[AQ,hg,if_true,ho,e,SX]
    refine⟨by rw[ew]; rw[e] at h1; simp at h1 ⊢; omega,fun _=>⟨l,_,ew,by simp only; omega⟩,fun h=>by rw[hg] at h; cases h⟩
   ·have ew:AQ g (n+1)=AQ g n++ [⟨(n:X),(n:X)⟩]:=by simp only[AQ,hg,if_true,ho,if_false]; rfl
    refine⟨by rw[ew]; simp; omega,fun _=>⟨_,_,ew,by simp only; omega⟩,fun h=>by rw[hg] at h; cases h⟩
  ·have ew:AQ g (n+1)=AQ g n:=by simp[AQ,hg]
   rw[ew];refine⟨by omega,fun h=>absurd h hg,fun _=> ?_⟩;cases ho:CX g n with
   | true=>
    obtain⟨l,x,e,ht⟩:=h2 ho;exact .inr ⟨l,x,e,by omega⟩
   | false=>
    rcases h3 ho with e|⟨l,x,e,ht⟩
    ·exact .inl e
    ·exact .inr ⟨l,x,e,by omega⟩
theorem ZX{g g':Z→Y}:∀n,(∀j,j<n→g j=g' j)→AQ g n=AQ g' n
 | 0,_=>rfl
 | n+1,h=>by
  have e1:CX g n=CX g' n:=by
   unfold CX;by_cases h0:0<n
   ·rw[h (n - 1) (by omega)]
   ·simp[h0]
  simp only[AQ,h n (by omega),e1,ZX n fun j hj=>h j (by omega)]
theorem Qy{l:Q X5}{x:X5}(h:l.length≤100000):ix (l++ [x]) (IntKind.i64.wrap (((l++ [x]).length:X) - 1))=O x∧Int.toNat (IntKind.i64.wrap (((l++ [x]).length:X) - 1))=l.length:=by
 have e:IntKind.i64.wrap (((l++ [x]).length:X) - 1)=((l.length:Z):X):=by
  rw[Ap (by simp<;>omega) (by simp<;>omega)];simp
 rw[e];exact⟨by rw[Af (by simp)]; simp,by simp⟩
theorem vL{L:Q Y}(hl:L.length≤3000):N9 L=O (AQ (fun i=>L.getD i G) L.length):=by
 unfold N9
 have key:∀(k i n:Z),i+k=L.length→k<n→Ej L n (i:X) (AQ (fun i=>L.getD i G) i)=O (AQ (fun i=>L.getD i G) L.length):=by
  intro k
  induction k with
  | zero=>
   intro i n hi hn;obtain⟨m,rfl⟩:∃m,n=m+1:=⟨n - 1,by omega⟩;have:i=L.length:=by omega
   subst this;simp[Ej]
  | succ k ih=>
   intro i n hi hn;obtain⟨m,rfl⟩:∃m,n=m+1:=⟨n - 1,by omega⟩;have hlt:i<L.length:=by omega
   have ih':=ih (i+1) m (by omega) (by omega);have hw:=An hlt (show L.length≤maxLen by rw[Az]; omega);obtain⟨w1,w2,w3⟩:=QW (fun i=>L.getD i G) i;have hgi:L.getD i G=L[i]:=by simp[hlt]
   rw[AQ] at ih'
   simp only[hgi] at ih'
   simp only[Ej,Aj,hlt,decide_true,if_true,Af hlt,zB];have hwm:IntKind.i64.wrap ((i:X) - 1)=(i:X) - 1:=Ap (by omega) (by omega);generalize hwi:AQ (fun i=>L.getD i G) i=v at *
   cases hb:L[i] with
   | false=>
    rw[hb] at ih'
    simp only[zD,if_false] at ih' ⊢
    rw[hw];exact ih'
   | true=>
    rw[hb] at ih'
    simp only[if_true] at ih' ⊢
    cases ho:CX (fun i=>L.getD i G) i with
    | true=>
     rw[ho] at ih'
     obtain⟨l,x,rfl,ht⟩:=w2 ho;obtain⟨q1,q2⟩:=Qy (l:=l) (x:=x) (by simp at w1; omega);have hpos:0<(l++ [x]).length:=by simp
     have hpos':decide ((0:X)<((l++ [x]).length:X))=E:=decide_eq_true (by omega);rw[if_pos hpos',q1];simp only[zB,Iw,hwm,ht,beq_self_eq_true,if_true,q1,q2];rw[hw];simp only[if_true,SX] at ih'
     simpa using ih'
    | false=>
     rw[ho] at ih'
     simp only[zD,if_false] at ih'
     have fin:∀w:Q X5,w=v→Iw (i:X) L w (Ej L m) G=O (AQ (fun i=>L.getD i G) L.length):=by
      rintro w rfl
      simp only[Iw,zD,if_false];rw[NC (by simp; omega) (by omega),hw];exact ih'
     rcases w3 ho with rfl|⟨l,x,rfl,ht⟩
     ·exact fin [] rfl
     ·obtain⟨q1,q2⟩:=Qy (l:=l) (x:=x) (by simp at w1; omega);have hpos':decide ((0:X)<((l++ [x]).length:X))=E:=decide_eq_true (by simp<;>omega);have hne:(x.To==(i:X) - 1)=G:=by simp<;>omega
      rw[if_pos hpos',q1];simp only[zB,hwm,hne];exact fin _ zA
 exact key L.length 0 bigN (by omega) (BL (by rw[Az]; omega))
theorem pf{a0:X→U Y}{g:Z→Y}(h:∀i:Z,i≤2880→a0 (i:X)=O (g i)):M0 a0=O (AQ g 2881):=by
 unfold M0
 have key:∀(k i n:Z),i+k=2881→k<n→F1 a0 n (CX g i) (i:X) (AQ g i)=O (AQ g 2881):=by
  intro k
  induction k with
  | zero=>
   intro i n hi hn;obtain⟨m,rfl⟩:∃m,n=m+1:=⟨n - 1,by omega⟩;have:i=2881:=by omega
   subst this;simp[F1]
  | succ k ih=>
   intro i n hi hn;obtain⟨m,rfl⟩:∃m,n=m+1:=⟨n - 1,by omega⟩;have hle:decide ((i:X)≤2880)=E:=decide_eq_true (by omega);have ih':=ih (i+1) m (by omega) (by omega);have hw:IntKind.i64.wrap ((i:X)+1)=((i+1:Z):X):=An (n:=2881) (by omega) (by rw[Az]; omega);obtain⟨w1,w2,w3⟩:=QW g i;rw[Ya,AQ] at ih'
   simp only[F1,hle,if_true,h i (by omega),zB];generalize hwi:AQ g i=v at *
   cases hb:g i with
   | false=>
    rw[hb] at ih'
    simp only[zD,if_false,HQ] at ih' ⊢
    rw[hw];exact ih'
   | true=>
    rw[hb] at ih'
    simp only[if_true] at ih' ⊢
    cases ho:CX g i with
    | true=>
     rw[ho] at ih'
     obtain⟨l,x,rfl,ht⟩:=w2 ho;obtain⟨q1,q2⟩:=Qy (l:=l) (x:=x) (by simp at w1; omega);simp only[if_true,JR,q1,zB,HQ,q2];rw[hw];simp only[if_true,SX] at ih'
     simpa using ih'
    | false=>
     rw[ho] at ih'
     simp only[zD,if_false] at ih' ⊢
     rw[NC (by simp; omega) (by omega)];obtain⟨q1,q2⟩:=Qy (l:=v) (x:=⟨(i:X),0⟩) (by omega);simp only[JR,q1,zB,HQ,q2];rw[hw];simpa using ih'
 have:=key 2881 0 bigN (by omega) (BL (by rw[Az]; omega));exact this
def Dc(f:Xd)(m:Z):X:=IntKind.i64.wrap ((Ke f.Tide (m:X)).getD 0+((Iv f (m:X)).getD ⟨0,0,0⟩).Low)
theorem XN{f:Xd}(hf:D7 f=E){m:Z}(hm:m≤2880):∃r x,Ke f.Tide (m:X)=O r∧Iv f (m:X)=O x∧Dc f m=IntKind.i64.wrap (r+x.Low)∧Lj f (m:X)=O (Dc f m):=by
 obtain⟨ht,h0,h6⟩:=lr hf;obtain⟨r,r1,r2⟩:=rr ht (show(0:X)≤(m:X) by omega) (by omega);obtain⟨a,ha,a1,a2⟩:=wH (m:=(m:X)) h0 h6;refine⟨r,_,r1,a2,by simp[Dc,r1,a2],?_⟩;unfold Lj;simp[r2,a1,Af ha,Dc,r1,a2]
theorem ru{f:Xd}(hf:D7 f=E)(lv:X):N7 f lv G=O (AQ (fun i=>decide (lv≤Dc f i)) 2881):=by
 unfold N7
 have key:∀(k i n:Z),i+k=2881→k<n→Gh lv f n G (i:X) ((zM i).map fun j=>decide (lv≤Dc f j))=O (AQ (fun i=>decide (lv≤Dc f i)) 2881):=by
  intro k
  induction k with
  | zero=>
   intro i n hi hn;obtain⟨m,rfl⟩:∃m,n=m+1:=⟨n - 1,by omega⟩;have:i=2881:=by omega
   subst this;have hd:decide (((2881:Z):X)≤2880)=G:=by decide
   simp only[Gh,hd,zD,if_false];rw[vL (by simp)];simp only[zB,List.length_map,List.length_range];refine congrArg O (ZX 2881 fun j hj=> ?_);show(((zM 2881).map fun j=>decide (lv≤Dc f j)).getD j G)=_
   rw[List.getD_eq_getElem?_getD,kD,List.getElem?_range hj];rfl
  | succ k ih=>
   intro i n hi hn;obtain⟨m,rfl⟩:∃m,n=m+1:=⟨n - 1,by omega⟩;have hle:decide ((i:X)≤2880)=E:=decide_eq_true (by omega);have hw:IntKind.i64.wrap ((i:X)+1)=((i+1:Z):X):=An (n:=2881) (by omega) (by rw[Az]; omega);obtain⟨r,x,e1,e2,e3,_⟩:=XN hf (show i≤2880 by omega);simp only[Gh,hle,if_true,e2,zB,zD,if_false,N8,e1];rw[NC (by simp; omega) (by omega),hw];have:=ih (i+1) m (by omega) (by omega);rw[List.range_succ,kW] at this
   simpa[e3] using this
 have:=key 2881 0 bigN (by omega) (BL (by rw[Az]; omega));exact this
theorem sG{f:Xd}(hf:D7 f=E)(lv:X):Lr f lv=O (AQ (fun i=>decide (lv≤Dc f i)) 2881):=by
 unfold Lr;rw[ND,hf];simp only[zB,if_true];rw[pf (g:=fun i=>decide (lv≤Dc f i)) fun i hi=> ?_]
 ·rfl
 ·obtain⟨_,_,_,_,_,e⟩:=XN hf hi;simp[P9,e]
theorem ZY(g:Z→Y):∀n,∀w∈AQ g n,0≤w.From∧w.From≤w.To∧w.To<(n:X)
 | 0,w,h=>by cases h
 | n+1,w,h=>by
  have ih:=ZY g n;simp only[AQ] at h;split at h
  ·split at h
   ·unfold QK at h;rcases zV.1 h with h|h
    ·have:=ih w ((List.dropLast_sublist _).subset h); omega
    ·simp only[zS] at h;subst h;cases e:(AQ g n).getLast? with
     | none=>simp only[Option.getD_none]; omega
     | some x=>have:=ih x (List.mem_of_getLast? e); simp only[Option.getD_some]; omega
   ·rcases zV.1 h with h|h
    ·have:=ih w h; omega
    ·simp only[zS] at h;subst h;simp only;omega
  ·have:=ih w h; omega
theorem vC(a1:X)(a0:Q X5)(hl:a0.length≤100000)(hb:0≤a1)(hb2:a1≤2880)(hW:∀w∈a0,0≤w.From∧w.From≤w.To∧w.To<(2881:X)):∃r,F6 a1 a0 bigN 0 []=O r∧EV a1 a0 bigN 0 []=O r∧r.length≤a0.length∧∀w∈r,0≤w.From∧w.From≤w.To∧w.To+a1≤2880:=by
 have key:∀(k i n:Z) (acc:Q X5),i+k=a0.length→k<n→acc.length≤i→(∀w∈acc,0≤w.From∧w.From≤w.To∧w.To+a1≤2880)→∃r,F6 a1 a0 n (i:X) acc=O r∧EV a1 a0 n (i:X) acc=O r∧r.length≤a0.length∧∀w∈r,0≤w.From∧w.From≤w.To∧w.To+a1≤2880:=by
  intro k
  induction k with
  | zero=>
   intro i n acc hi hn ha hq;obtain⟨m,rfl⟩:∃m,n=m+1:=⟨n - 1,by omega⟩;have:i=a0.length:=by omega
   subst this;exact⟨acc,by simp[F6],by simp[EV],ha,hq⟩
  | succ k ih=>
   intro i n acc hi hn ha hq;obtain⟨m,rfl⟩:∃m,n=m+1:=⟨n - 1,by omega⟩;have hlt:i<a0.length:=by omega
   simp only[F6,EV,Aj,hlt,decide_true,if_true,Af hlt,zB];rw[An hlt (show a0.length≤maxLen by rw[Az]; omega)];by_cases hc:a1≤IntKind.i64.wrap (a0[i].To - a0[i].From)
   ·simp only[hc,decide_true,if_true];rw[NC (by simp; omega) (by omega),NC (by simp; omega) (by omega)];refine ih (i+1) m _ (by omega) (by omega) (by simp; omega) fun w hw=> ?_
    have hx:=hW _ (zF hlt);rw[Ap (n:=a0[i].To - a0[i].From) (by omega) (by omega)] at hc
    rcases zV.1 hw with hw|hw
    ·exact hq w hw
    ·simp only[zS] at hw
     subst hw;simp only;rw[Ap (by omega) (by omega)];omega
   ·simp only[hc,decide_false,zD,if_false];exact ih (i+1) m _ (by omega) (by omega) (by omega) hq
 exact key a0.length 0 bigN [] (by omega) (BL (by rw[Az]; omega)) (by simp) (fun w h=>by cases h)
theorem vg{f:Xd}{c:X1}{s:X6}{i:X}(hf:D7 f=E)(hn:∀x∈c.Points,x.Name.length≤maxLen)(hs:s.Name.length≤maxLen)(h1:AH c=E)(h2:Ck s=E)(h3:idx i c.Segments.length=E) :
  ∃r,N2 f c i s=O r∧LF f c i s=O r∧r.length≤2881∧∀w∈r,0≤w.From∧w.From≤w.To∧w.To+AA (Ao c i) s≤2880:=by
 have hsg:=(EC h1).2.1;have hW:=(QW (fun j=>decide (IT c i s≤Dc f j)) 2881).1;have hB:=ZY (fun j=>decide (IT c i s≤Dc f j)) 2881
 have hmb:1≤AA (Ao c i) s∧AA (Ao c i) s≤480:=by
  obtain⟨_,_,a,b⟩:=(EC h1).2.2 _ (BE h3).2;unfold AA;split
  ·rw[Ap (n:=2*_) (by omega) (by omega)]; omega
  ·omega
 have hmin:Ls c i s=O (AA (Ao c i) s):=by
  unfold Ls;simp only[Fl hn,GA hs,h1,h2,zB,if_true,Du,h3,(BE h3).1,NE]
 have hok1:Iz c i s=O E:=by
  unfold Iz;simp only[DD hn,KP hs,h1,h2,zB,if_true,CG i (show c.Segments.length≤1000 by omega),h3]
 have hok2:HI c i s=O E:=by
  unfold HI;simp only[Fl hn,GA hs,h1,h2,zB,if_true,Du,h3]
 unfold N2 PJ LF;simp only[YQ,ND,hf,zB,if_true,hok1,hok2,vK hn hs h1 h2 h3,pc hn hs h1 h2 h3,ru hf,sG hf,YT hn hs h1 h2 h3,hmin];generalize AQ (fun j=>decide (IT c i s≤Dc f j)) 2881=W at hW hB
 have hWm:W.length≤maxLen:=by rw[Az]; omega
 unfold PG Pd;simp only[YX hWm,WM hWm,zB,Bu,GB];obtain⟨r,r1,r2,r3,r4⟩:=vC (AA (Ao c i) s) W (by omega) (by omega) (by omega) hB;by_cases hw:OB W=E
 ·by_cases hm:(decide (0≤AA (Ao c i) s)&&decide (AA (Ao c i) s≤2880))=E
  ·exact⟨r,by simp only[hw,hm,if_true,r1,zB],by simp only[hw,hm,if_true,r2,zB],by omega,r4⟩
  ·exact⟨[],by simp[hw,hm],by simp[hw,hm],by simp,fun w h=>by cases h⟩
 ·exact⟨[],by simp[hw],by simp[hw],by simp,fun w h=>by cases h⟩
theorem sn{n:Z}(h:0<n):∃q,n=q+1:=⟨n - 1,by omega⟩
theorem Ag{n:Z}(h:n≤1000000000000):n≤maxLen:=by rw[Az]; omega
theorem AN{n k b:Z}(h:n≤100000000)(hk:k≤1000)(hb:b≤1000):A3 n k b=E:=by
 have:(n+k)*b≤100001000*1000:=yZ (by omega) hb;simp only[A3,decide_eq_true_eq];omega
theorem B8(P:Z→Z→Prop){len:Z}(hl:len≤maxLen)(h0:∀n,P (n+1) len)(hs:∀n i,i<len→P n (i+1)→P (n+1) i){i:Z}(hi:i≤len):P bigN i:=by
 have key:∀k i n,i+k=len→k<n→P n i:=by
  intro k
  induction k with
  | zero=>
   intro i n h1 h2;obtain⟨q,rfl⟩:=sn (n:=n) (by omega);obtain rfl:i=len:=by omega
   exact h0 q
  | succ k ih=>
   intro i n h1 h2;obtain⟨q,rfl⟩:=sn (n:=n) (by omega);exact hs q i (by omega) (ih _ _ (by omega) (by omega))
 exact key (len - i) i bigN (by omega) (yY (Nat.sub_le _ _) (BL hl))
theorem E7{α R:Type}{L:Z→X→U R}(l:Q α)(p:α→Y)(x K:U R)(hl:l.length≤maxLen)
  (hs:∀(n i:Z) (h:i<l.length),L (n+1) (i:X)=if p l[i]=E then x else L n (IntKind.i64.wrap ((i:X)+1))) (he:∀n,L (n+1) (l.length:X)=K):L bigN 0=if l.any p=E then x else K:=by
 have:=B8 (fun n i=>L n (i:X)=if(l.drop i).any p=E then x else K) hl (fun n=>by simpa using he n) (fun n i h ih=>by
  simp only[hs n i h,An h hl,ih,zW h,List.any_cons];cases p l[i]<;>simp) (zL _)
 simpa using this
theorem IP{α:Type}{l:Q α}{x:α}(hl:l.length≤maxLen)(h:l.getLast?=O x):ix l (IntKind.i64.wrap ((l.length:X) - 1))=O x:=by
 have h0:0<l.length:=by cases l with | nil=>cases h | cons=>simp
 rw[show(l.length:X) - 1=((l.length - 1:Z):X) by omega,Ap (by omega) (by rw[Az] at hl; omega),Ak,← zX,h]
theorem Gz{i:X}{n:Z}:idx i n=E↔0≤i∧i<(n:X):=by simp[idx]
theorem C6{c:X1}(h:AH c=E):c.Points.length≤8∧c.Segments.length≤10∧(∀x∈c.Points,x.Name.length≤maxLen)∧∀x∈c.Segments,idx x.A c.Points.length=E∧idx x.B c.Points.length=E:=by
 simp only[AH,zE,decide_eq_true_eq,yB,kJ] at h;obtain⟨h1,h2,h3,h4⟩:=h;refine⟨h1,h2,fun x hx=> ?_,fun x hx=> ?_⟩
 ·obtain⟨i,hi,rfl⟩:=zO hx;have:=h3 i hi;simp only[GO,zC hi,zE] at this
  exact Ag (by have:=(sa this.1).2; omega)
 ·obtain⟨i,hi,rfl⟩:=zO hx;have:=h4 i hi;simp only[DC,zC hi,zE,decide_eq_true_eq] at this
  exact⟨this.1,this.2.1⟩
theorem Fp{c:X1}{s:X6}{i:X}(hc:AH c=E)(hi:idx i c.Segments.length=E):1≤AA (Ao c i) s∧AA (Ao c i) s≤480:=by
 obtain⟨_,_,a,b⟩:=(EC hc).2.2 _ (BE hi).2;unfold AA;split
 ·rw[Ap (n:=2*_) (by omega) (by omega)]; omega
 ·omega
def Bt(h:X4)(a:Xb):Y:=idx a.Ship h.Fleet.length&&(idx a.From h.Chart.Points.length&&(idx a.To h.Chart.Points.length&&(decide (a.From≠a.To)&&(BY a.Ready&&(decide (a.Ready≤a.Due)&&decide (a.Due≤2880))))))
theorem Qg(h:X4)(a:Xb):JI h a=O (Bt h a):=by
 unfold JI Bt;simp only[Du,zB,GB,Dh,L5,BY,Qf];cases idx a.Ship h.Fleet.length<;>cases idx a.From h.Chart.Points.length<;>cases idx a.To h.Chart.Points.length<;>simp[bne_iff_ne]
theorem pY{h:X4}(s:HSmall h)(a:Xb):Lf h a=O (AO h&&Bt h a):=by
 unfold Lf;rw[Ss s,zB,Qg];cases AO h<;>rfl
theorem En{h:X4}(hh:AO h=E):D7 h.Forecast=E∧AH h.Chart=E∧Dt h.Fleet=E∧IY h.Regime=E∧EQ h.Crew=E:=by
 simpa only[AO,zE] using hh
theorem YO{h:X4}(s:HSmall h)(a:Xb):JV h a=O (AO h&&Bt h a):=by
 unfold JV;rw[YR s,zB];cases hh:AO h with
 | false=>simp
 | true=>
  obtain⟨_,hc,hf,_,_⟩:=En hh;have h1:=(Kq hf).1;have h2:=(C6 hc).1;simp only[if_true,CG _ (show h.Fleet.length≤1000 by omega),CG _ (show h.Chart.Points.length≤1000 by omega),zB,Bu,Bt,zQ,L5,BY,Qf];cases idx a.Ship h.Fleet.length<;>cases idx a.From h.Chart.Points.length<;>cases idx a.To h.Chart.Points.length<;>simp[bne_iff_ne]
theorem gS(a1:Q Xb)(v4:X)(a0:X4)(x6:Xb)(y10:Q Xb)(y11:X)(K:X→U Y):∀n v,JX a1 v4 a0 x6 y10 y11 K n v=Dl a1 v4 a0 x6 y10 y11 K n v:=by
 intro n
 induction n with
 | zero=>intro v; rfl
 | succ n ih=>intro v; simp only[JX,Dl,ih,BEq.comm (a:=x6.Ship)]
theorem gR{h:X4}(s:HSmall h)(hh:AO h=E)(cs:Q Xb):∀n v,JW cs h n v=CB cs h n v:=by
 intro n
 induction n with
 | zero=>intro v; rfl
 | succ n ih=>intro v; simp only[JW,CB,YO s,Qg,hh,zQ,gS,funext ih]
theorem gT{h:X4}(s:HSmall h){cs:Q Xb}:∃b,I7 h cs=O b∧Cn h cs=O b∧(b=E→AO h=E∧cs.length≤6∧∀a∈cs,Bt h a=E):=by
 unfold I7 Cn;rw[YR s,Ss s,zB];cases hh:AO h with
 | false=>exact⟨G,rfl,rfl,fun h=>by cases h⟩
 | true=>
  simp only[if_true,funext (gR s hh cs _),zB];by_cases h6:(6:X)<(cs.length:X)
  ·simp only[h6,decide_true,if_true];exact⟨G,zA,zA,fun h=>by cases h⟩
  ·simp only[h6,decide_false,zD,if_false];have hl:cs.length≤maxLen:=Ag (by omega)
   have:=B8 (fun n i=>∃b,CB cs h n (i:X)=O b∧(b=E→∀j (hj:j<cs.length),i≤j→Bt h cs[j]=E)) hl (fun n=>⟨E,by simp[CB],fun _ j h1 h2=>by omega⟩) (fun n i hi ih=>by
    obtain⟨b,e1,e2⟩:=ih;rw[CB];simp only[Aj,hi,decide_true,if_true,Af hi,zB,Qg,E8 (Nat.le_of_lt hi),kA,kO];cases hok:Bt h cs[i] with
    | false=>exact⟨G,rfl,fun h=>by cases h⟩
    | true=>
     simp only[if_true]
     have e:=E7 (L:=Dl cs (i:X) h cs[i] (cs.take i) ((cs.take i).length:X) (CB cs h n)) (cs.take i) (fun x=>x.Ship==cs[i].Ship) (O G) (CB cs h n (IntKind.i64.wrap ((i:X)+1))) (Ag (by simp; omega)) (fun m j hj=>by
      rw[Dl];simp only[Aj,hj,decide_true,if_true,Af hj,zB]) fun m=>by rw[Dl,if_neg (by simp)]
     rw[e,An hi hl,e1];split
     ·exact⟨G,zA,fun h=>by cases h⟩
     ·refine⟨b,zA,fun hb j h1 h2=> ?_⟩;by_cases hji:j=i
      ·subst hji; exact hok
      ·exact e2 hb j h1 (by omega)) (zL _)
   obtain⟨b,e1,e2⟩:=this
   exact⟨b,e1,e1,fun hb=>⟨trivial,by omega,fun a ha=>by
    obtain⟨j,hj,rfl⟩:=zO ha;exact e2 hb j hj (zL _)⟩⟩
def BP(x:X2)(a:X):X:=if a=x.A then x.B else if a=x.B then x.A else -1
theorem RJ(x:X2)(a:X):JF x a=O (BP x a):=by
 unfold JF BP;by_cases h1:a=x.A
 ·rw[if_pos (by simpa using h1),if_pos h1]
 ·rw[if_neg (by simpa using h1),if_neg h1];by_cases h2:a=x.B
  ·rw[if_pos (by simpa using h2),if_pos h2]
  ·rw[if_neg (by simpa using h2),if_neg h2]
theorem SL(x:X2)(a:X):Nb x a=O (BP x a):=RJ x a
theorem UZ{c:X1}(hc:AH c=E){x:X2}(hx:x∈c.Segments)(a:X):BP x a= -1∨idx (BP x a) c.Points.length=E:=by
 obtain⟨h1,h2⟩:=(C6 hc).2.2.2 x hx;unfold BP;split
 ·exact Or.inr h2
 ·split
  ·exact Or.inr h1
  ·exact Or.inl zA
theorem S2{l:Q X}(hl:l.length≤maxLen)(a:X):Kf l a=O (l.any fun x=>x==a):=by
 have:=E7 (L:=Ix a l) l (fun x=>x==a) (O E) (O G) hl (fun n i h=>by
  rw[Ix];simp only[Aj,h,decide_true,if_true,Af h,zB]) fun n=>by simp[Ix]
 unfold Kf;rw[this];cases l.any fun x=>x==a<;>rfl
def DX(y:X8):Q Y:= [y.i0,y.i1,y.i2,y.i3,y.i4,y.i5,y.i6,y.i7]
theorem YK(y:X8){n:Z}(hn:n<8):DX (X8.set y n E)=(DX y).set n E:=by
 have:n=0∨n=1∨n=2∨n=3∨n=4∨n=5∨n=6∨n=7:=by omega
 rcases this with rfl|rfl|rfl|rfl|rfl|rfl|rfl|rfl<;>rfl
def Met(y:X8)(l:Q X):Prop:=∀x:X,0≤x→x<8→ix (DX y) x=O (l.any fun z=>z==x)
theorem Met.snoc{y:X8}{l:Q X}(H:Met y l){r:X}(h0:0≤r)(h8:r<8):Met (X8.set y r.toNat E) (l++ [r]):=fun x x0 x8=>by
 obtain⟨n,rfl⟩:∃n:Z,r=(n:X):=⟨r.toNat,by omega⟩;obtain⟨m,rfl⟩:∃m:Z,x=(m:X):=⟨x.toNat,by omega⟩;have hl:(DX y).length=8:=rfl;have hm:=H m x0 x8;rw[Ak] at hm
 rw[zP,YK y (by omega),Ak,List.getElem?_set,hm];by_cases e:n=m
 ·subst e;rw[if_pos rfl,if_pos (by omega)];simp
 ·rw[if_neg e];have:((n:X)==(m:X))=G:=beq_eq_false_iff_ne.2 (by omega);simp[this]
structure RtOk (c:X1) (rt l:Q X):Prop where
 len:l.length=rt.length+1
 pt:∀x∈l,idx x c.Points.length=E
 seg:∀i (h:i<rt.length),idx rt[i] c.Segments.length=E
 stp:∀i (h:i<rt.length),∃x,l[i]?=O x∧l[i+1]?=O (BP (Ao c rt[i]) x)∧0≤BP (Ao c rt[i]) x
theorem Ym{c:X1}(hc:AH c=E){rt:Q X}{a:X}(ha:idx a c.Points.length=E)(hl:rt.length≤10000000) :
  ∃l b,Gi c a rt=O (l,b)∧He c a rt=O (l,b)∧(b=G→l= [])∧(b=E→RtOk c rt l):=by
 obtain⟨hp8,hs10,_,_⟩:=C6 hc;have ha':=Gz.1 ha;have fail:∃l b,(O (([]:Q X),G):U (Q X × Y))=O (l,b)∧(O (([]:Q X),G):U (Q X × Y))=O (l,b)∧(b=G→l= [])∧(b=E→RtOk c rt l):=⟨[],G,rfl,rfl,fun _=>rfl,fun h=>by cases h⟩
 have main:=B8 (fun n i=>∀v5 v7 l,l.getLast?=O v5→l.length=i+1→Met v7 l→(∀x∈l,idx x c.Points.length=E)→
   (∀j (h:j<rt.length),j<i→idx rt[j] c.Segments.length=E∧∃x,l[j]?=O x∧l[j+1]?=O (BP (Ao c rt[j]) x)∧0≤BP (Ao c rt[j]) x)→
   ∃l' b,DP rt c n (i:X) l=O (l',b)∧FO rt c n v5 (i:X) v7 l=O (l',b)∧(b=G→l'= [])∧(b=E→RtOk c rt l')) (len:=rt.length) (Ag (by omega))
  (fun n v5 v7 l h1 h2 h3 h4 h5=>⟨l,E,by simp[DP],by simp[FO],(fun h=>by cases h),fun _=>⟨h2,h4,fun j h=>(h5 j h h).1,fun j h=>(h5 j h h).2⟩⟩)
  (fun n i hi ih v5 v7 l h1 h2 h3 h4 h5=>by
   rw[DP,FO];simp only[Aj,hi,decide_true,if_true,Af hi,zB,Du,CG _ (show c.Segments.length≤1000 by omega)];cases hx:idx rt[i] c.Segments.length with
   | false=>exact fail
   | true=>
    simp only[if_true,(BE hx).1,zB,IP (Ag (by omega)) h1,SL,RJ];have he:=UZ hc (BE hx).2 v5;have hr:∃r,BP (Ao c rt[i]) v5=r:=⟨_,rfl⟩;obtain⟨r,hr⟩:=hr;rw[hr] at he ⊢
    by_cases h0:r<0
    ·simp only[h0,decide_true,if_true,Hf,Gj];exact fail
    ·have hri:=he.resolve_left (by omega);have hr':=Gz.1 hri;have hd:(decide (0≤r)&&decide (r<8))=E:=by simp; omega
     have hm:=h3 r hr'.1 (by omega);unfold DX at hm
     simp only[h0,decide_false,zD,if_false,hd,if_true,S2 (Ag (n:=l.length) (by omega)),zB,hm];cases hb:l.any fun z=>z==r with
     | true=>simp only[Hf,Gj,if_true]; exact fail
     | false=>
      simp only[Hf,Gj,zD,if_false,hd,if_true];rw[if_pos (AN (by omega) (by simp) (by omega)),if_pos (AN (by omega) (by simp) (by omega)),An hi (Ag (by omega))];refine ih r _ _ (by simp) (by simp; omega) (h3.snoc hr'.1 (by omega)) (fun x hx=> ?_) fun j h1' h2'=> ?_
      ·rcases zV.1 hx with hx|hx
       ·exact h4 x hx
       ·simp only[zS] at hx; exact hx▸hri
      ·by_cases hji:j=i
       ·subst hji;refine⟨hx,v5,?_,?_,by rw[hr]; exact hr'.1⟩
        ·rw[zH (by omega),← h1,zX,h2]; rfl
        ·rw[zT (by omega),h2,hr]; simp
       ·obtain⟨g1,x,g2,g3,g4⟩:=h5 j h1' (by omega);exact⟨g1,x,by rw[zH (by omega)]; exact g2,by rw[zH (by omega)]; exact g3,g4⟩) (zL _)
 have hd:(decide (0≤a)&&decide (a<8))=E:=by simp; omega
 unfold Gi He;rw[Du,ha,zB];simp only[if_true,hd]
 have m0:Met ⟨G,G,G,G,G,G,G,G⟩ []:=fun x x0 x8=>by
  obtain⟨n,rfl⟩:∃n:Z,x=(n:X):=⟨x.toNat,by omega⟩;have:n=0∨n=1∨n=2∨n=3∨n=4∨n=5∨n=6∨n=7:=by omega
  rcases this with rfl|rfl|rfl|rfl|rfl|rfl|rfl|rfl<;>rfl
 exact main a _ [a] rfl zA (m0.snoc ha'.1 (by omega)) (by simpa using ha) fun j _ h=>by omega
theorem Yz{c:X1}(hc:AH c=E){rt:Q X}{a:X}(hl:rt.length≤10000000) :
  ∃l b,Ei c a rt=O b∧ET c a rt=O b∧F5 c a rt=O l∧DK c a rt=O l∧(b=G→l= [])∧(b=E→RtOk c rt l):=by
 have hn:=(C6 hc).2.2.1;have h8:=(C6 hc).1;unfold F5 DK Ei ET;simp only[DD hn,Fl hn,hc,zB,if_true,CG _ (show c.Points.length≤1000 by omega)];cases ha:idx a c.Points.length with
 | false=>
  refine⟨[],G,zA,?_,zA,?_,fun _=>rfl,fun h=>by cases h⟩<;>(unfold He; rw[Du,ha]; rfl)
 | true=>
  obtain⟨l,b,e1,e2,e3,e4⟩:=Ym hc ha hl;refine⟨l,b,by simp only[if_true,e1,zB],by simp only[e2,zB],?_,by simp only[e2,zB],e3,e4⟩;simp only[if_true,e1,zB];cases b with
  | false=>rw[e3 rfl]; rfl
  | true=>rfl
theorem oU(l:Q X5)(a:X)(hl:l.length≤100000):∃b,MK l a=O b∧Ll l a=O b∧(b=E→∃w∈l,w.From≤a∧a≤w.To):=by
 have e1:=E7 (L:=Ih a l) l (fun x=>decide (x.From≤a)&&decide (a≤x.To)) (O E) (O G) (Ag (by omega)) (fun n i h=>by
  rw[Ih];simp only[Aj,h,decide_true,if_true,Af h,zB,Bu]) fun n=>by simp[Ih]
 have e2:=E7 (L:=Hq a l) l (fun x=>decide (x.From≤a)&&decide (a≤x.To)) (O E) (O G) (Ag (by omega)) (fun n i h=>by
  rw[Hq];simp only[Aj,h,decide_true,if_true,Af h,zB,Dh]) fun n=>by simp[Hq]
 unfold MK Ll;rw[e1,e2];split
 ·rename_i h
  obtain⟨w,w1,w2⟩:=kP.1 h;simp only[zE,decide_eq_true_eq] at w2
  exact⟨E,zA,zA,fun _=>⟨w,w1,w2⟩⟩
 ·exact⟨G,zA,zA,fun h=>by cases h⟩
theorem sb(l:Q X5)(a:X)(hl:l.length≤100000)(hW:∀w∈l,w.From≤w.To):∃r,MR l a=O r∧Lt l a=O r∧(r<0∨(a≤r∧∃w∈l,w.From≤r∧r≤w.To)):=by
 have hm:l.length≤maxLen:=Ag (by omega);unfold MR Lt;rw[YX hm,WM hm,zB,zB];split
 ·exact B8 (fun n i=>∃r,Ik a l n (i:X)=O r∧Hr a l n (i:X)=O r∧(r<0∨(a≤r∧∃w∈l,w.From≤r∧r≤w.To))) hm (fun n=>⟨-1,by simp[Ik],by simp[Hr],Or.inl (by omega)⟩) (fun n i h ih=>by
   rw[Ik,Hr];simp only[Aj,h,decide_true,if_true,Af h,zB,An h hm];split
   ·rename_i hd
    simp only[decide_eq_true_eq] at hd
    have hw:=hW _ (zF h);exact⟨_,zA,zA,Or.inr ⟨by split<;>omega,l[i],zF h,by split<;>omega,by split<;>omega⟩⟩
   ·exact ih) (zL _)
 ·exact⟨-1,zA,zA,Or.inl (by omega)⟩
def wt(c:X1)(x:X):Y:=(c.Points[x.toNat]?.getD ⟨[],G⟩).Wait
structure VoyOk (f:Xd) (c:X1) (s:X6) (rt pts:Q X) (v:Xk):Prop where
 ne:rt≠ []
 r:RtOk c rt pts
 ml:v.minutes.length=rt.length
 ul:v.sure.length=rt.length
 m:∀i (h:i<rt.length),v.minutes[i]?=O (AA (Ao c rt[i]) s)
 w:∀i (h:i<rt.length),∃x,pts[i]?=O x∧v.waits[i]?=O (wt c x)
 u:∀i (h:i<rt.length),∃l,v.sure[i]?=O l∧l.length≤2881∧∀w∈l,0≤w.From∧w.From≤w.To∧w.To+AA (Ao c rt[i]) s≤2880
 st:PK f c s rt=O v.sure
theorem xN{f:Xd}{c:X1}{s:X6}(hf:D7 f=E)(hc:AH c=E)(hs:Ck s=E)(hsn:s.Name.length≤maxLen){rt pts:Q X}{a:X}(hl:rt.length≤10000000)(hr:RtOk c rt pts)(h0:rt≠ [])
  (e1:ET c a rt=O E) (e2:DK c a rt=O pts):∃v,HM f c s a rt=O (v,E)∧VoyOk f c s rt pts v:=by
 have hn:=(C6 hc).2.2.1;have hz:((rt.length:X)==(0:X))=G:=by cases rt with | nil=>exact absurd rfl h0 | cons=>simp; omega
 have hp:=hr.len;have hlen:(pts.take rt.length).length=rt.length:=by simp; omega
 have hlm:rt.length≤maxLen:=Ag (by omega)
 have hspec:=B8 (fun n i=>∀us,us.length=i→∃vs,Gm rt f c s n (i:X) us=O (us++vs)∧∀ws ms,ws.length=i→ms.length=i→
   ∃ws' ms',HO rt f c s (pts.take rt.length) ((pts.take rt.length).length:X) n (i:X) ws ms us=O (⟨ws++ws',ms++ms',us++vs⟩,E)∧ms'.length=rt.length - i∧vs.length=rt.length - i∧
    (∀j (h:j<rt.length),i≤j→ms'[j - i]?=O (AA (Ao c rt[j]) s)∧(∃x,pts[j]?=O x∧ws'[j - i]?=O (wt c x))∧∃l,vs[j - i]?=O l∧l.length≤2881∧∀w∈l,0≤w.From∧w.From≤w.To∧w.To+AA (Ao c rt[j]) s≤2880)) hlm
  (fun n us hu=>⟨[],by simp[Gm],fun ws ms hw hm=>⟨[],[],by simp[HO,hlen],by simp,by simp,fun j h h'=>by omega⟩⟩)
  (fun n i h ih us hu=>by
   obtain⟨l,l1,l2,l3,l4⟩:=vg (s:=s) hf hn hsn hc hs (hr.seg i h);have hlt':i<(pts.take rt.length).length:=by omega
   have hpi:i<pts.length:=by omega
   have hpt:=hr.pt pts[i] (zF hpi);have hg:(pts.take rt.length)[i]=pts[i]:=by simp
   obtain⟨vs,v1,v2⟩:=ih (us++ [l]) (by simp; omega);refine⟨l::vs,?_,fun ws ms hw hm=> ?_⟩
   ·rw[Gm];simp only[Aj,h,decide_true,if_true,Af h,zB,l1];rw[if_pos (AN (by omega) (by simp) (by omega)),An h hlm,v1];simp
   ·obtain⟨ws',ms',g1,g2,g2',g3⟩:=v2 (ws++ [wt c pts[i]]) (ms++ [AA (Ao c rt[i]) s]) (by simp; omega) (by simp; omega);refine⟨wt c pts[i]::ws',AA (Ao c rt[i]) s::ms',?_,by simp; omega,by simp; omega,fun j hj hij=> ?_⟩
    ·rw[HO];simp only[Aj,hlt',decide_true,if_true,Af hlt',Af h,hg,zB,(NF (⟨[],G⟩:X7) hpt).1,(BE (hr.seg i h)).1,NE,l2];rw[if_pos (AN (by omega) (by simp) (by omega)),if_pos (AN (by omega) (by simp) (by omega)),if_pos (AN (by omega) (by simp) (by omega)),An h hlm];refine g1.trans ?_;simp
    ·by_cases hji:j=i
     ·subst hji;simp only[Nat.sub_self,kB];exact⟨trivial,⟨_,zC hpi,zA⟩,l,zA,l3,l4⟩
     ·obtain⟨q,hq⟩:∃q,j - i=q+1:=⟨j - i - 1,by omega⟩;have:=g3 j hj (by omega);rw[show j - (i+1)=q by omega] at this
      rw[hq];simpa using this) (zL _)
 obtain⟨vs,v1,v2⟩:=hspec [] rfl;obtain⟨ws',ms',g1,g2,g3,g4⟩:=v2 [] [] rfl rfl;refine⟨⟨ws',ms',vs⟩,?_,h0,hr,by simpa using g2,by simpa using g3,fun i h=>by simpa using(g4 i h (zL _)).1,fun i h=>by simpa using(g4 i h (zL _)).2.1,fun i h=>by simpa using(g4 i h (zL _)).2.2,show Gm rt f c s bigN 0 []=O vs by simpa using v1⟩;unfold HM;simp only[ND,GA hsn,hf,hs,e1,e2,zB,if_true,HN,hz,zD,if_false];rw[E8 (by omega),zB];simp only[kA,kO];exact g1
structure Sailed (c:X1) (s:X6) (rt:Q X) (st:X) (l:Q X):Prop where
 len:l.length=rt.length
 hd:l[0]?=O st
 sf:∀i (h:i<rt.length),∃y,l[i]?=O y∧0≤y∧y+AA (Ao c rt[i]) s≤2880
 up:∀i (h:i+1<rt.length),∃x y,l[i]?=O x∧l[i+1]?=O y∧IntKind.i64.wrap (x+AA (Ao c rt[i]) s)≤y
theorem ue{f:Xd}{c:X1}{s:X6}(hc:AH c=E){rt pts:Q X}{v:Xk}(hl:rt.length≤10000000)(H:VoyOk f c s rt pts v)(st:X) :
  ∃l b,Kg c s pts rt v.sure st=O (l,b)∧LY v st=O (l,b)∧(b=E→Sailed c s rt st l):=by
 have h0:0<rt.length:=zU.2 H.ne;have hlm:rt.length≤maxLen:=Ag (by omega);obtain⟨l0,u1,u2,u3⟩:=H.u 0 h0;obtain⟨b,b1,b2,b3⟩:=oU l0 st (by omega);have hx:ix v.sure (0:X)=O l0:=by have:=Ak v.sure 0; rw[u1] at this; exact this
 unfold Kg LY;simp only[hx,zB,b1,b2];cases b with
 | false=>exact⟨[],G,rfl,rfl,fun h=>by cases h⟩
 | true=>
  simp only[if_true]
  refine B8 (fun n i=>∀l,1≤i→l.length=i→l[0]?=O st→(∀j (h:j<rt.length),j<i→∃y,l[j]?=O y∧0≤y∧y+AA (Ao c rt[j]) s≤2880)→(∀j (h:j+1<rt.length),j+1<i→∃x y,l[j]?=O x∧l[j+1]?=O y∧IntKind.i64.wrap (x+AA (Ao c rt[j]) s)≤y)→
   ∃l' b,Ek pts rt v.sure c s n (i:X) l=O (l',b)∧Eg v n (i:X) l=O (l',b)∧(b=E→Sailed c s rt st l')) hlm
   (fun n l h1 h2 h3 h5 h4=>⟨l,E,by simp[Ek],by simp[Eg,H.ul],fun _=>⟨h2,h3,fun j h=>h5 j h h,fun j h=>h4 j h h⟩⟩)
   (fun n i h ih l h1 h2 h3 h5 h4=> ?_) (i:=1) (by omega) [st] (by omega) rfl rfl (fun j hj h=> ?_) (fun j _ h=>by omega)
  case refine_2=>
   obtain rfl:j=0:=by omega
   obtain⟨w,w1,w2,w3⟩:=b3 rfl;have:=u3 w w1;exact⟨st,zA,by omega,by omega⟩
  obtain⟨w,g1,g2,g3⟩:=H.u i h;have hu:i<v.sure.length:=by have:=H.ul; omega
  have ew:IntKind.i64.wrap ((i:X) - 1)=((i - 1:Z):X):=by
   rw[show(i:X) - 1=((i - 1:Z):X) by omega];exact Ap (by omega) (by omega)
  have hi1:i - 1<rt.length:=by omega
  have hil:i - 1<l.length:=by omega
  obtain⟨x,x1,x2⟩:=H.w i h;have hpt:=H.r.pt x (List.mem_of_getElem? x1);obtain⟨r,r1,r2,r3⟩:=sb w (IntKind.i64.wrap (l[i - 1]+AA (Ao c rt[i - 1]) s)) (by omega) (fun x hx=>(g3 x hx).2.1);rw[Ek,Eg];simp only[Aj,h,hu,decide_true,if_true,ew,Af hil,Af hi1,Ak,H.m _ hi1,(BE (H.r.seg _ hi1)).1,zB,Ot,g1,r1,r2,x1,x2,(NF (⟨[],G⟩:X7) hpt).1];have fail:∃l' b,(O (([]:Q X),G):U (Q X × Y))=O (l',b)∧(O (([]:Q X),G):U (Q X × Y))=O (l',b)∧(b=E→Sailed c s rt st l'):=⟨[],G,rfl,rfl,fun h=>by cases h⟩;by_cases hr0:r<0
  ·simp only[hr0,decide_true,if_true,IA,HP];exact fail
  ·obtain⟨hge,w',w1,w2,w3⟩:=r3.resolve_left hr0;have hwb:=g3 w' w1
   have hne:(r !=IntKind.i64.wrap (l[i - 1]+AA (Ao c rt[i - 1]) s))=decide (IntKind.i64.wrap (l[i - 1]+AA (Ao c rt[i - 1]) s)<r):=by
    rw[L5];by_cases e:r=IntKind.i64.wrap (l[i - 1]+AA (Ao c rt[i - 1]) s)
    ·simp[← e]
    ·have:IntKind.i64.wrap (l[i - 1]+AA (Ao c rt[i - 1]) s)<r:=by omega
     simp[e,this]
   have go:∃l' b,Ek pts rt v.sure c s n (IntKind.i64.wrap ((i:X)+1)) (l++ [r])=O (l',b)∧Eg v n (IntKind.i64.wrap ((i:X)+1)) (l++ [r])=O (l',b)∧(b=E→Sailed c s rt st l'):=by
    rw[An h hlm];refine ih (l++ [r]) (by omega) (by simp; omega) (by rw[zH (by omega)]; exact h3) (fun j hj1 hj2=> ?_) fun j hj1 hj2=> ?_
    ·by_cases hji:j=i
     ·subst hji;exact⟨r,by rw[zT (by omega),h2]; simp,by omega,by omega⟩
     ·obtain⟨y,q1,q2,q3⟩:=h5 j hj1 (by omega);exact⟨y,by rw[zH (by omega)]; exact q1,q2,q3⟩
    by_cases hji:j+1=i
    ·subst hji;exact⟨l[j],r,by rw[zH (by omega),zC],by rw[zT (by omega),h2]; simp,by simpa using hge⟩
    ·obtain⟨x,y,q1,q2,q3⟩:=h4 j hj1 (by omega);exact⟨x,y,by rw[zH (by omega)]; exact q1,by rw[zH (by omega)]; exact q2,q3⟩
   have hap:A3 l.length [r].length 8=E:=AN (by omega) (by simp) (by omega);simp only[hr0,decide_false,zD,if_false,hne,IA,HP,hap,if_true];split
   ·change ∃l' b,(if(!wt c x)=E then _ else _)=_∧_
    split
    ·exact fail
    ·exact go
   ·exact go
def OO(c:X1)(s:X6)(sh:X)(rt pts l:Q X)(i:Z)(ps:Q X3):Prop:=
 ps.length=i∧∀j (h:j<rt.length),j<i→∃x y,pts[j]?=O x∧l[j]?=O y∧0≤y∧y≤2880∧ps[j]?=O ⟨sh,rt[j],(Ao c rt[j]).A==x,y,IntKind.i64.wrap (y+AA (Ao c rt[j]) s)⟩
theorem tW{c:X1}{s:X6}(hs:Ck s=E)(hsn:s.Name.length≤maxLen){rt pts l:Q X}{a sh:X}(hl:rt.length≤10000000)(hr:RtOk c rt pts)(hlen:l.length=rt.length)(hS:∀i (h:i<rt.length),∃y,l[i]?=O y∧0≤y∧y≤2880)
  (e1:Ei c a rt=O E) (e2:ET c a rt=O E) (e3:F5 c a rt=O pts) (e4:DK c a rt=O pts) :
  ∃ps,MT c sh s a rt l=O ps∧Lw c sh s a rt l=O ps∧OO c s sh rt pts l rt.length ps:=by
 have hlm:rt.length≤maxLen:=Ag (by omega);have hz:((rt.length:X) !=(l.length:X))=G:=by rw[hlen]; simp
 unfold MT Lw;simp only[e1,e2,e3,e4,KP hsn,GA hsn,hs,zB,if_true,hz,zD,if_false]
 refine B8 (fun n i=>∀ps,OO c s sh rt pts l i ps→∃ps',Im sh l rt c s pts n (i:X) ps=O ps'∧Hu sh l rt c s pts n (i:X) ps=O ps'∧OO c s sh rt pts l rt.length ps') hlm
  (fun n ps hp=>⟨ps,by simp[Im],by simp[Hu],hp⟩) (fun n i h ih ps hp=> ?_) (zL _) [] ⟨rfl,fun j _ h=>by omega⟩
 have hi:i<l.length:=by omega
 have hpi:i<pts.length:=by have:=hr.len; omega
 rw[Im,Hu];simp only[Aj,h,decide_true,if_true,Af h,Af hi,Af hpi,(BE (hr.seg i h)).1,zB,Bu,GB,Ot,NE,BEq.comm (a:=pts[i])];split
 ·rename_i hm
  simp only[zE,decide_eq_true_eq] at hm
  have hp1:=hp.1;rw[if_pos (AN (by omega) (by simp) (by omega)),if_pos (AN (by omega) (by simp) (by omega)),An h hlm];refine ih _ ⟨by simp; omega,fun j hj1 hj2=> ?_⟩;by_cases hji:j=i
  ·subst hji;exact⟨pts[j],l[j],zC _,zC _,hm.1,hm.2,by rw[zT (by omega),hp1]; simp⟩
  ·obtain⟨x,y,q1,q2,q3,q4,q5⟩:=hp.2 j hj1 (by omega);exact⟨x,y,q1,q2,q3,q4,by rw[zH (by omega)]; exact q5⟩
 ·rename_i hm
  obtain⟨y,y1,y2,y3⟩:=hS i h;rw[zC hi,zG] at y1
  exact absurd (by simp[y1,y2,y3]) hm
theorem Yy{c:X1}(hc:AH c=E){rt:Q X}(hl:rt.length≤10000000)(hs:∀i (h:i<rt.length),idx rt[i] c.Segments.length=E):∃r,Gg c rt=O r∧FY c rt=O r∧0≤r:=by
 have hlm:rt.length≤maxLen:=Ag (by omega);have hn:=(C6 hc).2.2.1;have h10:=(C6 hc).2.1;unfold Gg FY;simp only[DD hn,Fl hn,hc,zB,if_true];refine B8 (fun n i=>∀v:X,0≤v→v≤240*(i:X)→∃r,Iq rt c n v (i:X)=O r∧Hx rt c n v (i:X)=O r∧0≤r) hlm (fun n v h1 h2=>⟨v,by simp[Iq],by simp[Hx],h1⟩) (fun n i h ih v h1 h2=> ?_) (zL _) 0 (by omega) (by omega);obtain⟨_,_,a,b⟩:=(EC hc).2.2 _ (BE (hs i h)).2;rw[Iq,Hx];simp only[Aj,h,decide_true,if_true,Af h,(BE (hs i h)).1,zB,Du,CG _ (show c.Segments.length≤1000 by omega),hs i h,An h hlm];rw[Ap (by omega) (by omega)];exact ih _ (by omega) (by omega)
theorem fK{c:X1}{s:X6}(hc:AH c=E)(hs:Ck s=E)(hsn:s.Name.length≤maxLen){rt l:Q X}(hl:rt.length≤10000000)(hsg:∀i (h:i<rt.length),idx rt[i] c.Segments.length=E)(hlen:l.length=rt.length)(h0:rt≠ []) :
  ∃r,ME c s rt l=O r∧Ld c s rt l=O r∧∀y,l[rt.length - 1]?=O y→0≤y→y≤2880→∃x,rt[rt.length - 1]?=O x∧r=IntKind.i64.wrap (y+AA (Ao c x) s):=by
 obtain⟨m,m1,m2,m3⟩:=Yy hc hl hsg;have hp:0<rt.length:=zU.2 h0;have hz:((rt.length:X)==(0:X))=G:=beq_eq_false_iff_ne.2 (by omega);have hq:((rt.length:X) !=(l.length:X))=G:=by rw[hlen]; simp
 have ew:IntKind.i64.wrap ((rt.length:X) - 1)=((rt.length - 1:Z):X):=by
  rw[show(rt.length:X) - 1=((rt.length - 1:Z):X) by omega];exact Ap (by omega) (by omega)
 have h1:rt.length - 1<rt.length:=by omega
 have h2:rt.length - 1<l.length:=by omega
 unfold ME Ld;simp only[m1,m2,zB,show decide (m<0)=G by simp; omega,zD,if_false,KP hsn,GA hsn,hs,if_true,hq,hz,hlen,ew,Af h1,Af h2,Bu,GB,(BE (hsg _ h1)).1,Ot,NE,bne_self_eq_false];split
 ·refine⟨_,zA,zA,fun y e _ _=>⟨_,zC h1,?_⟩⟩;rw[zC h2,zG] at e
  rw[e]
 ·rename_i hm
  refine⟨-1,zA,zA,fun y e a b=>absurd ?_ hm⟩;rw[zC h2,zG] at e
  simp only[zE,decide_eq_true_eq,e];exact⟨a,b⟩
structure AtOk (h:X4) (a:Xb) (rt:Q X) (st:X) (o:X0):Prop where
 ha:Bt h a=E
 mo:∃pts l,RtOk h.Chart rt pts∧Sailed h.Chart (AL h.Fleet a.Ship) rt st l∧OO h.Chart (AL h.Fleet a.Ship) a.Ship rt pts l rt.length o.Passages
def AP(c:X1)(s:X6)(rt:Q X):X:=(rt.map fun k=>AA (Ao c k) s).sum
theorem gx{h:X4}{s:X6}{rt:Q X}{v:Xk}{f:Xd}{pts:Q X}(hc:AH h.Chart=E)(hl:rt.length≤10000000)(H:VoyOk f h.Chart s rt pts v)(st r:X)(ps:Q X3){c0:X}(h0:AP h.Chart s rt≤c0)(h1:c0≤100000) :
  Gt rt h s st r ps bigN 0 c0=O (⟨st,r,c0 - AP h.Chart s rt,ps⟩,decide (r≤2880))∧G5 v st r ps bigN 0 c0=O (⟨st,r,c0 - AP h.Chart s rt,ps⟩,decide (r≤2880)):=by
 have hlm:rt.length≤maxLen:=Ag (by omega)
 have pos:∀l:Q X,(∀x∈l,idx x h.Chart.Segments.length=E)→0≤AP h.Chart s l:=by
  intro l
  induction l with
  | nil=>intro _; simp[AP]
  | cons a l ih=>
   intro hx;have h1:=ih fun x hm=>hx x (yH _ hm)
   have h2:=(Fp (s:=s) hc (hx a (yJ ..))).1;have e:AP h.Chart s (a::l)=AA (Ao h.Chart a) s+AP h.Chart s l:=by simp[AP]
   omega
 have hsg:∀x∈rt,idx x h.Chart.Segments.length=E:=fun x hx=>by
  obtain⟨i,hi,rfl⟩:=zO hx;exact H.r.seg i hi
 have:=B8 (fun n i=>∀c0,AP h.Chart s (rt.drop i)≤c0→c0≤100000→Gt rt h s st r ps n (i:X) c0=O (⟨st,r,c0 - AP h.Chart s (rt.drop i),ps⟩,decide (r≤2880))∧G5 v st r ps n (i:X) c0=O (⟨st,r,c0 - AP h.Chart s (rt.drop i),ps⟩,decide (r≤2880))) hlm (fun n c0 _ _=>by
   have e:AP h.Chart s (rt.drop rt.length)=0:=by simp[AP]
   rw[e,Int.sub_zero];exact⟨by simp[Gt],by simp[G5,H.ml]⟩) (fun n i hi ih c0 g0 g1=>by
  have hm:i<v.minutes.length:=by have:=H.ml; omega
  have e:AP h.Chart s (rt.drop i)=AA (Ao h.Chart rt[i]) s+AP h.Chart s (rt.drop (i+1)):=by rw[zW hi]; rfl
  have hp:=pos (rt.drop (i+1)) fun x hx=>hsg x (List.mem_of_mem_drop hx)
  obtain⟨m1,m2⟩:=Fp (s:=s) hc (H.r.seg i hi);rw[Gt,G5];simp only[Aj,hi,hm,decide_true,if_true,Af hi,Ak,H.m i hi,(BE (H.r.seg i hi)).1,zB,Ot,An hi hlm];rw[Ap (n:=c0 - _) (by omega) (by omega)];have:=ih (c0 - AA (Ao h.Chart rt[i]) s) (by omega) (by omega);rw[show c0 - AA (Ao h.Chart rt[i]) s - AP h.Chart s (rt.drop (i+1))=c0 - AP h.Chart s (rt.drop i) by omega] at this
  exact this) (zL _) c0 (by simpa using h0) h1
 simpa using this
theorem Sailed.sum{c:X1}{s:X6}{rt l:Q X}{st:X}(hc:AH c=E)(hsg:∀i (h:i<rt.length),idx rt[i] c.Segments.length=E)(H:Sailed c s rt st l):∀k (hk:k<rt.length),∃y,l[k]?=O y∧st+AP c s (rt.take k)≤y:=by
 intro k
 induction k with
 | zero=>intro hk; exact⟨st,H.hd,by simp[AP]⟩
 | succ k ih=>
  intro hk;obtain⟨y,y1,y2⟩:=ih (by omega);obtain⟨u,v,u1,u2,u3⟩:=H.up k hk;obtain⟨z,z1,z2,z3⟩:=H.sf k (by omega);rw[y1,zG] at u1 z1
  subst u1 z1;have hm:=Fp (s:=s) hc (hsg k (by omega));rw[Ap (by omega) (by omega)] at u3
  have e:AP c s (rt.take (k+1))=AP c s (rt.take k)+AA (Ao c rt[k]) s:=by
   rw[zJ (by omega)];unfold AP;rw[kW,List.sum_append];simp
  exact⟨v,u2,by omega⟩
theorem tJ{h:X4}{a:Xb}(ha:Bt h a=E)(hc:AH h.Chart=E)(hso:Ck (AL h.Fleet a.Ship)=E)(hsn:(AL h.Fleet a.Ship).Name.length≤maxLen){rt pts:Q X}{v:Xk}(hl:rt.length≤10000000)
  (V:VoyOk h.Forecast h.Chart (AL h.Fleet a.Ship) rt pts v) (e1:Ei h.Chart a.From rt=O E) (e2:ET h.Chart a.From rt=O E) (e3:F5 h.Chart a.From rt=O pts) (e4:DK h.Chart a.From rt=O pts)
  {st:X} (hr:a.Ready≤st) (hd:st≤2880):∃l b,Kg h.Chart (AL h.Fleet a.Ship) pts rt v.sure st=O (l,b)∧(b=G→∃o,HJ h a v rt st=O (o,G))∧
   (b=E→∃o,Ng h a rt l=O (o,E)∧HJ h a v rt st=O (o,E)∧AtOk h a rt st o∧o.Arrival≤2880∧0≤o.Cost∧o.Cost≤2880∧∀y,l[rt.length - 1]?=O y→∃x,rt[rt.length - 1]?=O x∧o.Arrival=IntKind.i64.wrap (y+AA (Ao h.Chart x) (AL h.Fleet a.Ship))):=by
 obtain⟨l,b,b1,b2,b3⟩:=ue hc hl V st;refine⟨l,b,b1,fun hb=> ?_,fun hb=> ?_⟩
 ·subst hb;exact⟨⟨0,0,0,[]⟩,by simp only[HJ,b2,zB,zD,if_false]⟩
 ·subst hb;have S:=b3 rfl;have ha':=ha;simp only[Bt,BY,zE,decide_eq_true_eq] at ha'
  obtain⟨q1,_,_,_,⟨q5,_⟩,_⟩:=ha';obtain⟨s1,s2⟩:=GC q1
  have hsS:∀i (h':i<rt.length),∃y,l[i]?=O y∧0≤y∧y≤2880:=fun i h'=>by
   obtain⟨y,y1,y2,y3⟩:=S.sf i h';have:=(Fp (s:=AL h.Fleet a.Ship) hc (V.r.seg i h')).1;exact⟨y,y1,y2,by omega⟩
  obtain⟨ps,p1,p2,p3⟩:=tW (sh:=a.Ship) hso hsn hl V.r S.len hsS e1 e2 e3 e4;obtain⟨r,r1,r2,r3⟩:=fK hc hso hsn hl V.r.seg S.len V.ne;have hp:=zU.2 V.ne;have hlt:rt.length - 1<rt.length:=by omega
  obtain⟨y,y1,y2,y3⟩:=S.sf _ hlt;have hm:=Fp (s:=AL h.Fleet a.Ship) hc (V.r.seg _ hlt);obtain⟨x,x1,x2⟩:=r3 y y1 y2 (by omega);rw[zC hlt,zG] at x1
  rw[← x1,Ap (by omega) (by omega)] at x2
  obtain⟨z,z1,z2⟩:=S.sum hc V.r.seg _ hlt;rw[y1,zG] at z1
  subst z1
  have es:AP h.Chart (AL h.Fleet a.Ship) rt=AP h.Chart (AL h.Fleet a.Ship) (rt.take (rt.length - 1))+AA (Ao h.Chart rt[rt.length - 1]) (AL h.Fleet a.Ship):=by
   have e:rt=rt.take (rt.length - 1)++ [rt[rt.length - 1]]:=by
    rw[← zJ hlt,show rt.length - 1+1=rt.length by omega,yF]
   have:∀u w:Q X,AP h.Chart (AL h.Fleet a.Ship) (u++w)=AP h.Chart (AL h.Fleet a.Ship) u+AP h.Chart (AL h.Fleet a.Ship) w:=fun u w=>by simp[AP]
   rw[congrArg (AP h.Chart (AL h.Fleet a.Ship)) e,this];simp[AP]
  obtain⟨c1,c2⟩:=gx hc hl V st r ps (c0:=r - a.Ready) (by omega) (by omega);have ew:IntKind.i64.wrap (r - a.Ready)=r - a.Ready:=Ap (by omega) (by omega);have hx0:ix l (0:X)=O st:=by have:=Ak l 0; rw[S.hd] at this; exact this
  have hpos:0≤AP h.Chart (AL h.Fleet a.Ship) rt:=by
   have:∀w:Q X,(∀x∈w,idx x h.Chart.Segments.length=E)→0≤AP h.Chart (AL h.Fleet a.Ship) w:=by
    intro w
    induction w with
    | nil=>intro _; simp[AP]
    | cons u w ih=>
     intro hx;have h1:=ih fun x hm=>hx x (yH _ hm)
     have h2:=(Fp (s:=AL h.Fleet a.Ship) hc (hx u (yJ ..))).1;have e:AP h.Chart (AL h.Fleet a.Ship) (u::w)=AA (Ao h.Chart u) (AL h.Fleet a.Ship)+AP h.Chart (AL h.Fleet a.Ship) w:=by simp[AP]
     omega
   exact this rt fun x hx=>by
    obtain⟨i,hi,rfl⟩:=zO hx;exact V.r.seg i hi
  have hd28:decide (r≤2880)=E:=by simp; omega
  refine⟨⟨st,r,r - a.Ready - AP h.Chart (AL h.Fleet a.Ship) rt,ps⟩,?_,?_,⟨ha,pts,l,V.r,S,p3⟩,by simp only; omega,by simp only; omega,by simp only; omega,fun y' h'=> ?_⟩
  ·simp only[Ng,s1,zB,hx0,r1,p1,ew,c1,hd28]
  ·simp only[HJ,b2,if_true,s1,zB,r2,p2,ew,c2,hd28]
  ·rw[y1,zG] at h'
   subst h';exact r3 y y1 y2 (by omega)
structure GoodP (c:X1) (fl:Q X6) (l:Q X3):Prop where
 ne:l≠ []
 inn:∀p∈l,C3 c fl p=E
 ship:∃sh,∀p∈l,p.Ship=sh
 link:∀j (h:j+1<l.length),(Cm c l[j+1]).1=(Cm c l[j]).2∧l[j].End≤l[j+1].Start
theorem ku{s:X2}{x:X}(h:0≤BP s x):(if(s.A==x)=E then(s.A,s.B) else(s.B,s.A))=(x,BP s x):=by
 unfold BP at *
 by_cases h1:s.A=x
 ·subst h1; simp
 ·have h1':¬x=s.A:=fun e=>h1 e.symm
  by_cases h2:x=s.B
  ·subst h2; simp[h1,h1']
  ·simp[h1',h2] at h
theorem AtOk.good{h:X4}{a:Xb}{st:X}{o:X0}(hh:AO h=E)(H:AtOk h a (o.Passages.map fun p=>p.Segment) st o):GoodP h.Chart h.Fleet o.Passages:=by
 obtain⟨ha,pts,l,hr,S,hp⟩:=H;obtain⟨_,hc,hfl,_,_⟩:=En hh;simp only[Bt,zE] at ha
 have hne:o.Passages≠ []:=fun e=>by
  have h1:=S.hd;have h2:=S.len;rw[e] at h2
  cases l with
  | nil=>cases h1
  | cons=>simp at h2
 obtain⟨_,hp⟩:=hp;generalize hps:o.Passages=ps at *
 have hlen:(ps.map fun p=>p.Segment).length=ps.length:=by simp
 have hpos:0<ps.length:=zU.2 hne
 have at_:∀j (hj:j<ps.length),∃x y,pts[j]?=O x∧l[j]?=O y∧0≤y∧y≤2880∧idx ps[j].Segment h.Chart.Segments.length=E∧ps[j]=⟨a.Ship,ps[j].Segment,(Ao h.Chart ps[j].Segment).A==x,y,y+AA (Ao h.Chart ps[j].Segment) (AL h.Fleet a.Ship)⟩:=fun j hj=>by
  obtain⟨x,y,q1,q2,q3,q4,q5⟩:=hp j (by omega) (by omega);have hs:=hr.seg j (by omega);simp only[kQ] at hs q5
  obtain⟨m1,m2⟩:=Fp (s:=AL h.Fleet a.Ship) hc hs;rw[Ap (by omega) (by omega),zC hj,zG] at q5
  exact⟨x,y,q1,q2,q3,q4,hs,q5⟩
 have up:∀j (hj:j+1<ps.length),ps[j].End≤ps[j+1].Start:=fun j hj=>by
  obtain⟨x,y,_,q2,q3,q4,q5,q6⟩:=at_ j (by omega);obtain⟨x',y',_,r2,_,_,_,r6⟩:=at_ (j+1) hj;obtain⟨u,v,s1,s2,s3⟩:=S.up j (by omega);rw[q2,zG] at s1
  rw[r2,zG] at s2
  subst s1 s2;simp only[kQ] at s3
  obtain⟨m1,m2⟩:=Fp (s:=AL h.Fleet a.Ship) hc q5;rw[Ap (by omega) (by omega)] at s3
  rw[q6,r6];exact s3
 refine⟨hne,fun p hpm=> ?_,⟨a.Ship,fun p hpm=> ?_⟩,fun j hj=>⟨?_,up j hj⟩⟩
 ·obtain⟨j,hj,rfl⟩:=zO hpm;obtain⟨x,y,q1,q2,q3,q4,q5,q6⟩:=at_ j hj;obtain⟨m1,m2⟩:=Fp (s:=AL h.Fleet a.Ship) hc q5
  have hend:y+AA (Ao h.Chart ps[j].Segment) (AL h.Fleet a.Ship)≤2880:=by
   obtain⟨z,z1,_,z3⟩:=S.sf j (by omega);rw[q2,zG] at z1
   subst z1;simpa using z3
  rw[q6];simp only[C3,BY,zE,decide_eq_true_eq];exact⟨ha.1,q5,⟨q3,q4⟩,hend,(Ap (by omega) (by omega)).symm⟩
 ·obtain⟨j,hj,rfl⟩:=zO hpm;obtain⟨x,y,q1,q2,q3,q4,q5,q6⟩:=at_ j hj;rw[q6]
 ·have e:∀j (hj:j<ps.length),∃x,pts[j]?=O x∧0≤BP (Ao h.Chart ps[j].Segment) x∧pts[j+1]?=O (BP (Ao h.Chart ps[j].Segment) x)∧Cm h.Chart ps[j]=(x,BP (Ao h.Chart ps[j].Segment) x):=fun j hj=>by
   obtain⟨x,y,q1,q2,q3,q4,q5,q6⟩:=at_ j hj;obtain⟨x',t1,t2,t3⟩:=hr.stp j (by omega);simp only[kQ] at t2 t3
   rw[q1,zG] at t1
   subst t1;refine⟨x,q1,t3,t2,?_⟩;rw[← ku t3];have ht:ps[j].Toward=((Ao h.Chart ps[j].Segment).A==x):=by rw[q6]
   unfold Cm;rw[ht]
  obtain⟨x,_,_,g3,g4⟩:=e j (by omega);obtain⟨x',k1,_,_,k4⟩:=e (j+1) hj;rw[g3,zG] at k1
  rw[g4,k4,k1]
def DZ(a b g:X):Y:=decide (a - b<g∧b - a<g)
def E0(p q:X3):Y:=decide (p.Start<q.End∧q.Start<p.End)
def DJ(c:X1)(r:Xh)(p q:X3):Y:=
 decide (p.Segment=q.Segment)&&(if p.Ship=q.Ship then E0 p q else if p.Toward=q.Toward then(DZ p.Start q.Start r.Gap || (DZ p.End q.End r.Gap || decide ((p.Start<q.Start∧q.End<p.End)∨(q.Start<p.Start∧p.End<q.End)))) else E0 p q&&(r.NoMeet || !(Ao c p.Segment).Meet))
theorem UQ(c:X1)(r:Xh)(p q:X3):DJ c r p q=DJ c r q p:=by
 have n:∀a b g,DZ a b g=DZ b a g:=fun a b g=>by unfold DZ; congr 1; exact propext And.comm
 have v:E0 p q=E0 q p:=by unfold E0; congr 1; exact propext And.comm
 unfold DJ;by_cases e:p.Segment=q.Segment
 ·simp only[e,n q.Start,n q.End,← v,eq_comm (a:=q.Ship),eq_comm (a:=q.Toward),or_comm (a:=q.Start<p.Start∧p.End<q.End)]
 ·have e':¬q.Segment=p.Segment:=fun h=>e h.symm
  simp[e,e']
theorem YZ{a b g:X}(a0:0≤a)(a1:a≤2880)(b0:0≤b)(b1:b≤2880):Ki a b g=O (DZ a b g):=by
 unfold Ki Nc DZ;by_cases h:b<a
 ·have h':¬a<b:=by omega
  simp only[h,h',if_true,if_false,show ¬b<0 by omega,decide_false,zD,Ap (n:=a - b) (by omega) (by omega),zG,decide_eq_decide];omega
 ·simp only[h,if_false,show ¬a<0 by omega,decide_false,zD,zG,decide_eq_decide];by_cases h':a<b
  ·simp only[h',if_true,Ap (n:=b - a) (by omega) (by omega)]; omega
  ·simp only[h',if_false,Ap (n:=a - a) (by omega) (by omega)]; omega
theorem WR{a b g:X}(a0:0≤a)(a1:a≤2880)(b0:0≤b)(b1:b≤2880)(g0:0≤g)(g1:g≤60):JQ a b g=O (DZ a b g):=by
 unfold JQ DZ;rw[EI g0 (by omega)];by_cases h:b<a
 ·have h':¬a<b:=by omega
  simp only[h,h',if_true,if_false,EI (n:=a) (by omega) (by omega),EI (n:=b) (by omega) (by omega),EI (n:=a - b) (by omega) (by omega),zG,decide_eq_decide];omega
 ·by_cases h':a<b
  ·simp only[h,h',if_true,if_false,EI (n:=a) (by omega) (by omega),EI (n:=b) (by omega) (by omega),EI (n:=b - a) (by omega) (by omega),zG,decide_eq_decide];omega
  ·simp only[h,h',if_true,if_false,EI (n:=a) (by omega) (by omega),EI (n:=a - a) (by omega) (by omega),zG,decide_eq_decide];omega
theorem tR{p q:X3}(hp:p.Start<p.End)(hq:q.Start<q.End):Ka p q=O (E0 p q)∧JD p q=O (E0 p q):=by
 have:decide ((if p.Start<q.Start then q.Start else p.Start)<(if q.End<p.End then q.End else p.End))=E0 p q:=by
  unfold E0;rw[decide_eq_decide];split<;>split<;>omega
 unfold Ka JD;rw[this];exact⟨zA,zA⟩
theorem UR{c:X1}{fl:Q X6}{r:Xh}(hc:AH c=E)(hr:IY r=E){p q:X3}(hp:C3 c fl p=E)(hq:C3 c fl q=E) :
  (∃n,MH c r p q=O n∧(n !=0)=DJ c r p q)∧∃n,LL c r p q=O n∧(n !=0)=DJ c r p q:=by
 obtain⟨_,p2,p3,p4,p5⟩:=DA hc hp;obtain⟨_,q2,q3,q4,q5⟩:=DA hc hq;have hn:=(C6 hc).2.2.1;have h10:=(C6 hc).2.1;have hr':=hr;simp only[IY,zE,decide_eq_true_eq] at hr'
 obtain⟨o1,o2⟩:=tR (Oe hc hp) (Oe hc hq);have n1:=YZ (a:=p.Start) (b:=q.Start) (g:=r.Gap) (by omega) (by omega) (by omega) (by omega);have n2:=YZ (a:=p.End) (b:=q.End) (g:=r.Gap) (by omega) (by omega) (by omega) (by omega);have m1:=WR (a:=p.Start) (b:=q.Start) (g:=r.Gap) (by omega) (by omega) (by omega) (by omega) hr'.1 hr'.2;have m2:=WR (a:=p.End) (b:=q.End) (g:=r.Gap) (by omega) (by omega) (by omega) (by omega) hr'.1 hr'.2;have hreg:Ip r=O E:=by simp only[Ip,Bu,zB]; exact congrArg O hr
 unfold MH LL LM LN HF LO DJ;simp only[DD hn,hc,hreg,zB,if_true,CG _ (show c.Segments.length≤1000 by omega),p2,Du,o1,o2,n1,n2,m1,m2,(BE p2).1,Bool.not_true,zD,if_false];by_cases e1:p.Segment=q.Segment
 ·by_cases e2:p.Ship=q.Ship
  ·cases ho:E0 p q<;>simp[e1,e2]
  ·by_cases e3:p.Toward=q.Toward
   ·cases h1:DZ p.Start q.Start r.Gap<;>cases h2:DZ p.End q.End r.Gap<;>simp[e1,e2,e3];by_cases g1:p.Start<q.Start<;>by_cases g2:q.End<p.End<;>by_cases g3:q.Start<p.Start<;>by_cases g4:p.End<q.End<;>simp[g1,g2,g3,g4]<;>omega
   ·cases ho:E0 p q<;>cases hm:r.NoMeet<;>cases hs:(Ao c p.Segment).Meet<;>simp[e1,e2,e3]<;>simp_all
 ·simp[e1]
def Bo(c:X1)(r:Xh)(a b:Q X3):Y:=a.any fun p=>b.any fun q=>DJ c r p q
theorem gg(c:X1)(r:Xh)(a b:Q X3):Bo c r a b=Bo c r b a:=by
 rw[zR];simp only[Bo,kP];constructor
 ·rintro⟨p,hp,q,hq,h⟩
  exact⟨q,hq,p,hp,by rw[UQ]; exact h⟩
 ·rintro⟨p,hp,q,hq,h⟩
  exact⟨q,hq,p,hp,by rw[UQ]; exact h⟩
theorem UK{c:X1}{fl:Q X6}{r:Xh}(hc:AH c=E)(hr:IY r=E){a b:Q X3}(ha:∀p∈a,C3 c fl p=E)(hb:∀p∈b,C3 c fl p=E)(la:a.length≤maxLen)(lb:b.length≤maxLen) :
  MG c r a b=O (Bo c r a b)∧LK c r a b=O (Bo c r a b):=by
 have fin:∀x:Y,(if x=E then O E else O G)=O x:=fun x=>by cases x<;>rfl
 constructor
 ·have:=E7 (L:=F3 b a c r) a (fun p=>b.any fun q=>DJ c r p q) (O E) (O G) la (fun n i h=>by
   rw[F3];simp only[Aj,h,decide_true,if_true,Af h,zB]
   exact E7 (L:=Ib b a (i:X) c r a[i] (F3 b a c r n)) b (fun q=>DJ c r a[i] q) (O E) (F3 b a c r n (IntKind.i64.wrap ((i:X)+1))) lb (fun m j hj=>by
    obtain⟨x,x1,x2⟩:=(UR hc hr (ha _ (zF h)) (hb _ (zF hj))).1;rw[Ib];simp only[Aj,hj,decide_true,if_true,Af hj,zB,x1,x2]) fun m=>by rw[Ib,if_neg (by simp)]) fun n=>by rw[F3,if_neg (by simp)]
  unfold MG;rw[this,fin];rfl
 ·have:=E7 (L:=EX b a c r) a (fun p=>b.any fun q=>DJ c r p q) (O E) (O G) la (fun n i h=>by
   rw[EX];simp only[Aj,h,decide_true,if_true,Af h,zB]
   exact E7 (L:=HE b a (i:X) c r a[i] (EX b a c r n)) b (fun q=>DJ c r a[i] q) (O E) (EX b a c r n (IntKind.i64.wrap ((i:X)+1))) lb (fun m j hj=>by
    obtain⟨x,x1,x2⟩:=(UR hc hr (ha _ (zF h)) (hb _ (zF hj))).2;rw[HE];simp only[Aj,hj,decide_true,if_true,Af hj,zB,x1,x2]) fun m=>by rw[HE,if_neg (by simp)]) fun n=>by rw[EX,if_neg (by simp)]
  unfold LK;rw[this,fin];rfl
theorem XF{B C:Z→Z→Y}{N M n m:Z}(h:N≤M)(e:∀i j,i<N→j<N→B i j=C i j)(H:Ca B (2 ^ N - 1) n)(K:Ca C (2 ^ M - 1) m):n≤m:=by
 obtain⟨f,f1,f2⟩:=K.1
 have b:∀i,(2 ^ N - 1).testBit i=E→i<N∧(2 ^ M - 1).testBit i=E:=fun i hi=>by
  rw[yO,decide_eq_true_eq] at hi
  exact⟨hi,by rw[yO,decide_eq_true_eq]; omega⟩
 exact H.2 m ⟨f,fun i hi=>f1 i (b i hi).2,fun i j hi hj hne he=>by rw[e i j (b i hi).1 (b j hj).1]; exact f2 i j (b i hi).2 (b j hj).2 hne he⟩
theorem Uz{p:X}{m:Q X}{l k:Q X9}{i j:Z}(hi:i<l.length)(hj:j<l.length):B0 p m l i j=B0 p m (l++k) i j:=by
 unfold B0;rw[zH hi,zH hj]
theorem Jp{p:X}{m:Q X}{l:Q X9}(hm:m.length≤maxLen)(h1:l.length≤12)(h2:∀d∈l,Bg d=E)(h3:BY p=E)(h4:Ex m=E) :
  ∃n:Z,Ca (B0 p m l) (2 ^ l.length - 1) n∧(∃w,Ii p m l=O (w,(n:X),E))∧∀k:X,FZ p m l k=O (decide ((n:X)≤k)):=by
 obtain⟨n,w1,w2,n12,n1,e1,e2⟩:=eV hm (eg h1 h2 h3 h4);refine⟨n,n1,⟨w1,e1⟩,fun k=> ?_⟩;have hn:n≤l.length:=n1.2 _ (P1 (by have:=kK (n:=l.length) (show 0<2 by omega); omega));unfold FZ;by_cases hk:(l.length:X)≤k
 ·have:(n:X)≤k:=by omega
  simp[hk,this]
 ·simp[hk,e2]
section
variable {c : X1} {fl : Q X6}
def BI(c:X1)(fl:Q X6)(all:Q X3):Q X9:=all.flatMap fun p=>zI (AL fl p.Ship).Tugs.toNat (CA c p p)
def GV(l:Q X9):Q X9 × Y:=if l.length≤12 then(l,E) else([],G)
theorem ZE(hn:∀x∈c.Points,x.Name.length≤maxLen)(hf:∀x∈fl,x.Name.length≤maxLen)(hc:AH c=E)(hfl:Dt fl=E){all:Q X3}(hl:all.length≤maxLen)(hp:∀p∈all,C3 c fl p=E) :
  PO c fl all=O (GV (BI c fl all))∧LX c fl all=O (GV (BI c fl all)):=by
 refine B8 (fun n i=>∀acc:Q X9,acc.length≤12→Fc fl all c n (i:X) acc=O (GV (acc++BI c fl (all.drop i)))∧F0 fl all c n (i:X) acc=O (GV (acc++BI c fl (all.drop i)))) hl
  (fun n acc ha=>by simp[Fc,F0,BI,GV,ha]) (fun n i h ih acc ha=> ?_) (zL _) [] (by simp)
 have hpi:=hp _ (zF h);obtain⟨f1,f2,f3,f4,f5⟩:=DA hc hpi;obtain⟨s1,s2⟩:=GC f1;have hso:=(Kq hfl).2 _ s2
 have hT:0≤(AL fl all[i].Ship).Tugs∧(AL fl all[i].Ship).Tugs≤4:=by
  simp only[Ck,zE,decide_eq_true_eq] at hso
  omega
 have hTe:(AL fl all[i].Ship).Tugs=((AL fl all[i].Ship).Tugs.toNat:X):=by omega
 have hd:BI c fl (all.drop i)=zI (AL fl all[i].Ship).Tugs.toNat (CA c all[i] all[i])++BI c fl (all.drop (i+1)):=by
  rw[zW h]; rfl
 rw[Fc,F0,hd];simp only[Aj,h,decide_true,if_true,Af h,zB,YU hn hf hc hfl,ph hn hf hc hfl,hpi,Oq f2,s1];generalize (AL fl all[i].Ship).Tugs.toNat=T at *
 have g1:=wy (c:=c) (p:=all[i]) s1 f2 all (i:X) (Fc fl all c n) hTe (by omega) T 0 bigN acc (by omega) (by rw[BW]; omega) (by omega);have g2:=wx (c:=c) (fl:=fl) (p:=all[i]) f2 all (i:X) (F0 fl all c n) hTe (by omega) T 0 bigN acc (by omega) (by rw[BW]; omega) (by omega);have g1:Gs fl (Cm c all[i]) all (i:X) c all[i] (Fc fl all c n) bigN 0 acc=_:=g1;have g2:G6 fl all (i:X) (AL fl all[i].Ship) c all[i] (F0 fl all c n) bigN 0 acc=_:=g2;rw[g1,g2,← yM,An h hl];generalize acc++zI T (CA c all[i] all[i])=ac2 at ih ⊢
 by_cases h12:(12:X)<(ac2.length:X)
 ·have:¬ac2.length+(BI c fl (all.drop (i+1))).length≤12:=by omega
  simp[h12,GV,this]
 ·simp only[h12,decide_false,zD,if_false];exact ih ac2 (by omega)
theorem Tb(hc:AH c=E){all:Q X3}(hp:∀p∈all,C3 c fl p=E):∀d∈BI c fl all,Bg d=E:=fun d hd=>by
 obtain⟨p,hpm,hd⟩:=List.mem_flatMap.1 hd;rw[(List.mem_replicate.1 hd).2];have:=DA hc (hp p hpm);exact UX hc this.2.1 this.2.1 this.2.2.1 (Oe hc (hp p hpm)) this.2.2.2.2
def Em(l:Q X3):X3:=l.head?.getD ⟨0,0,G,0,0⟩
def GF(l:Q X3):X3:=l.getLast?.getD ⟨0,0,G,0,0⟩
def BN(c:X1)(pl:Q X0):Q X9:=pl.map fun o=>CA c (Em o.Passages) (GF o.Passages)
theorem RL{l:Q X3}(h:l≠ []):l.head?=O (Em l)∧l.getLast?=O (GF l):=by
 cases l with
 | nil=>exact absurd rfl h
 | cons a l=>
  refine⟨zA,?_⟩;unfold GF;cases e:(a::l).getLast? with
  | none=>rw[kM] at e; cases e
  | some x=>rfl
theorem GoodP.duty{l:Q X3}(hc:AH c=E)(H:GoodP c fl l):C3 c fl (Em l)=E∧C3 c fl (GF l)=E∧Bg (CA c (Em l) (GF l))=E:=by
 obtain⟨e1,e2⟩:=RL H.ne;have i1:=H.inn _ (List.mem_of_head? e1);have i2:=H.inn _ (List.mem_of_getLast? e2);have f1:=DA hc i1;have f2:=DA hc i2;have hpos:=zU.2 H.ne
 have hlt:∀j (h:j<l.length),(l[0]'hpos).Start<l[j].End:=by
  intro j
  induction j with
  | zero=>intro h; exact Oe hc (H.inn _ (zF h))
  | succ j ih=>
   intro h;have g1:=ih (by omega);have g2:=(H.link j h).2;have g3:=Oe hc (H.inn _ (zF h));omega
 have s1:l[0]'hpos=Em l:=by rw[kF,zC hpos] at e1; exact kX e1
 have s2:l[l.length - 1]'(by omega)=GF l:=by rw[zX,zC (by omega)] at e2; exact kX e2
 have:=hlt (l.length - 1) (by omega);rw[s1,s2] at this
 exact⟨i1,i2,UX hc f1.2.1 f2.2.1 f1.2.2.1 this f2.2.2.2.2⟩
theorem td(hn:∀x∈c.Points,x.Name.length≤maxLen)(hf:∀x∈fl,x.Name.length≤maxLen)(hc:AH c=E)(hfl:Dt fl=E){l:Q X3}(hl:l.length≤100000000)(H:GoodP c fl l):MU c fl l=O (CA c (Em l) (GF l),E):=by
 have hlm:l.length≤maxLen:=Ag (by omega);have hpos:=zU.2 H.ne;have h10:=(C6 hc).2.1;obtain⟨e1,e2⟩:=RL H.ne;obtain⟨i1,i2,_⟩:=H.duty hc;have h00:ix l (0:X)=O (Em l):=by have:=Ak l 0; rw[← kF,e1] at this; exact this
 obtain⟨sh,hsh⟩:=H.ship
 have chain:ML c l=O E:=by
  unfold ML;rw[DD hn,hc,zB,if_pos rfl];refine B8 (fun n i=>Gb l c n (i:X)=O E) hlm (fun n=>by simp[Gb]) (fun n i h ih=> ?_) (zL _);have hs:=(DA hc (H.inn _ (zF h))).2.1;have hq:(l[i].Ship !=(Em l).Ship)=G:=by rw[hsh _ (zF h),hsh _ (List.mem_of_head? e1)]; simp
  rw[Gb];simp only[Aj,h,decide_true,if_true,Af h,h00,zB,hq,zD,if_false,CG _ (show c.Segments.length≤1000 by omega),hs,An h hlm,ih];cases i with
  | zero=>rfl
  | succ i=>
   have hz:(((i+1:Z):X)==(0:X))=G:=beq_eq_false_iff_ne.2 (by omega)
   have ew:IntKind.i64.wrap (((i+1:Z):X) - 1)=(i:X):=by
    rw[show((i+1:Z):X) - 1=(i:X) by omega];exact Ap (by omega) (by omega)
   have hi:i<l.length:=by omega
   have hs':=(DA hc (H.inn _ (zF hi))).2.1;obtain⟨k1,k2⟩:=H.link i h;have hx:¬l[i+1].Start<l[i].End:=by omega
   simp only[hz,zD,if_false,Oq hs,ew,Af hi,zB,Oq hs',k1,bne_self_eq_false,hx,decide_false]
 unfold MU MV;have hz:((l.length:X)==(0:X))=G:=beq_eq_false_iff_ne.2 (by omega);simp only[hz,zD,if_false,chain,zB,Bool.not_true];refine B8 (fun n i=>In fl l c n (i:X)=O (CA c (Em l) (GF l),E)) hlm (fun n=> ?_) (fun n i h ih=> ?_) (zL _)
 ·have s1:=(DA hc i1).2.1;have s2:=(DA hc i2).2.1;rw[In,if_neg (by simp),IP hlm e2,zB,h00,zB,Oq s1,zB,Oq s2,zB];rfl
 ·rw[In];simp only[Aj,h,decide_true,if_true,Af h,zB,YU hn hf hc hfl,H.inn _ (zF h),An h hlm,ih]
end
def Bz(pl:Q X0):Q X3:=(Bw pl).flatten
def FitP(h:X4)(pl:Q X0):Prop:=
 (BI h.Chart h.Fleet (Bz pl)).length≤12∧(∃n:Z,Ca (B0 0 h.Crew.Moves (BI h.Chart h.Fleet (Bz pl))) (2 ^ (BI h.Chart h.Fleet (Bz pl)).length - 1) n∧(n:X)≤h.Crew.Tugs)∧
  ∃n:Z,Ca (B0 h.Crew.Rest h.Crew.Moves (BN h.Chart pl)) (2 ^ (BN h.Chart pl).length - 1) n∧(n:X)≤h.Crew.Pilots
theorem XG{B:Z→Z→Y}{S n m:Z}(H:Ca B S n)(K:Ca B S m):n=m:=Nat.le_antisymm (H.2 _ K.1) (K.2 _ H.1)
def DG(h:X4)(pl:Q X0):Prop:=∀o∈pl,GoodP h.Chart h.Fleet o.Passages∧o.Passages.length≤1048576
theorem Ns{h:X4}{pl:Q X0}(H:DG h pl):∀p∈Bz pl,C3 h.Chart h.Fleet p=E:=fun p hp=>by
 obtain⟨l,hl,hp⟩:=List.mem_flatten.1 hp;obtain⟨o,ho,rfl⟩:=kR.1 hl;exact(H o ho).1.inn p hp
theorem SS{h:X4}{pl:Q X0}(hc:AH h.Chart=E)(H:DG h pl):∀d∈BN h.Chart pl,Bg d=E:=fun d hd=>by
 obtain⟨o,ho,rfl⟩:=kR.1 hd;exact((H o ho).1.duty hc).2.2
theorem FitP.app{h:X4}{pl ql:Q X0}(hh:AO h=E)(s:HSmall h)(H:DG h (pl++ql))(hl:pl.length≤12)(F:FitP h (pl++ql)):FitP h pl:=by
 obtain⟨_,hc,_,_,hw⟩:=En hh;obtain⟨m1,m2⟩:=RE hw;have Hp:DG h pl:=fun o ho=>H o (List.mem_append_left _ ho)
 have et:BI h.Chart h.Fleet (Bz (pl++ql))=BI h.Chart h.Fleet (Bz pl)++BI h.Chart h.Fleet (Bz ql):=by simp[Bz,Bw,BI,List.flatMap_append]
 have ep:BN h.Chart (pl++ql)=BN h.Chart pl++BN h.Chart ql:=by simp[BN]
 obtain⟨f1,⟨n,f2,f3⟩,m,f4,f5⟩:=F;rw[et] at f1 f2
 rw[ep] at f4
 have l1:(BI h.Chart h.Fleet (Bz pl)).length≤12:=by rw[zK] at f1; omega
 obtain⟨n',k1,_,_⟩:=Jp (p:=0) s.mv l1 (Tb hc (Ns Hp)) (by decide) m2;obtain⟨m',k2,_,_⟩:=Jp (p:=h.Crew.Rest) s.mv (l:=BN h.Chart pl) (by simpa[BN] using hl) (SS hc Hp) m1 m2;have q1:=XF (by simp) (fun i j hi hj=>Uz hi hj) k1 f2;have q2:=XF (by simp) (fun i j hi hj=>Uz hi hj) k2 f4;exact⟨l1,⟨n',k1,by omega⟩,m',k2,by omega⟩
theorem FitP.iff{h:X4}{pl:Q X0}{n m:Z}(h12:(BI h.Chart h.Fleet (Bz pl)).length≤12)(k1:Ca (B0 0 h.Crew.Moves (BI h.Chart h.Fleet (Bz pl))) (2 ^ (BI h.Chart h.Fleet (Bz pl)).length - 1) n)(k4:Ca (B0 h.Crew.Rest h.Crew.Moves (BN h.Chart pl)) (2 ^ (BN h.Chart pl).length - 1) m) :
  (n:X)≤h.Crew.Tugs∧(m:X)≤h.Crew.Pilots↔FitP h pl:=by
 constructor
 ·rintro⟨a,b⟩
  exact⟨h12,⟨n,k1,a⟩,m,k4,b⟩
 ·rintro⟨_,⟨n',a1,a2⟩,m',b1,b2⟩
  rw[XG k1 a1,XG k4 b1];exact⟨a2,b2⟩
theorem Vg{h:X4}{pl:Q X0}(hl:pl.length≤12)(H:DG h pl):(Bz pl).length≤1000000000000:=by
 have:∀(ql:Q X0),(∀o∈ql,o.Passages.length≤1048576)→(Bz ql).length≤ql.length*1048576:=by
  intro ql
  induction ql with
  | nil=>intro _; simp[Bz,Bw]
  | cons o ql ih=>
   intro h;have h1:=ih fun x hx=>h x (yH _ hx)
   have h2:=h o (yJ ..);have e:Bz (o::ql)=o.Passages++Bz ql:=rfl;rw[e,zK,kS];omega
 have:=this pl fun o ho=>(H o ho).2
 omega
theorem UW{h:X4}(s:HSmall h)(hh:AO h=E){pl:Q X0}(hl:pl.length≤12)(H:DG h pl):∃b,Dn h pl=O b∧(b=E↔FitP h pl):=by
 obtain⟨_,hc,hfl,_,hw⟩:=En hh;obtain⟨m1,m2⟩:=RE hw;have hlm:pl.length≤maxLen:=Ag (by omega)
 have key:=B8 (fun n i=>∀v2 v3,v2.length≤i*1048576→v3.length=i→G0 pl h n (i:X) v2 v3=(LX h.Chart h.Fleet (v2++Bz (pl.drop i))).bind fun r12=>
   if r12.2 then(FZ 0 h.Crew.Moves r12.1 h.Crew.Tugs).bind fun r14=>if r14 then(FZ h.Crew.Rest h.Crew.Moves (v3++BN h.Chart (pl.drop i)) h.Crew.Pilots).bind fun r16=>O r16 else O G else O G) hlm
  (fun n v2 v3 h1 h2=>by rw[G0,if_neg (by simp)]; simp[Bz,Bw,BN]) (fun n i hi ih v2 v3 h1 h2=> ?_) (zL _) [] [] (by simp) rfl
 ·have key:Dn h pl=_:=key;rw[key,kA,yV,yV,(ZE s.pn s.fn hc hfl (Ag (Vg hl H)) (Ns H)).2,zB];unfold GV;by_cases h12:(BI h.Chart h.Fleet (Bz pl)).length≤12
  ·obtain⟨n,k1,_,k3⟩:=Jp (p:=0) s.mv h12 (Tb hc (Ns H)) (by decide) m2;obtain⟨m,k4,_,k6⟩:=Jp (p:=h.Crew.Rest) s.mv (l:=BN h.Chart pl) (by simpa[BN] using hl) (SS hc H) m1 m2;simp only[h12,if_true,k3,k6,zB];refine⟨decide ((n:X)≤h.Crew.Tugs)&&decide ((m:X)≤h.Crew.Pilots),by by_cases q:(n:X)≤h.Crew.Tugs<;>simp[q],?_⟩;simp only[zE,decide_eq_true_eq];exact FitP.iff h12 k1 k4
  ·simp only[h12,if_false];exact⟨G,zA,⟨(fun h=>by cases h),fun F=>absurd F.1 h12⟩⟩
 ·obtain⟨g1,g2⟩:=H _ (zF hi);obtain⟨e1,e2⟩:=RL g1.ne;obtain⟨i1,i2,_⟩:=g1.duty hc;have hz:(0:X)<(pl[i].Passages.length:X):=by have:=zU.2 g1.ne; omega
  have h00:ix pl[i].Passages (0:X)=O (Em pl[i].Passages):=by have:=Ak pl[i].Passages 0; rw[← kF,e1] at this; exact this
  rw[G0];simp only[Aj,hi,decide_true,if_true,Af hi,zB,hz,h00,IP (Ag (by omega)) e2,WN (DA hc i1).2.1 (DA hc i2).2.1];rw[if_pos (OV (by omega) (by omega)),if_pos (AN (by omega) (by simp) (by omega)),An hi hlm,ih _ _ (by simp; omega) (by simp; omega)];simp only[zW hi,Bz,Bw,BN,List.map_cons,List.flatten_cons,yM,List.singleton_append]
theorem vT{h:X4}(s:HSmall h)(hh:AO h=E){pl:Q X0}(hl:pl.length≤12)(H:DG h pl):∃b,MI h.Crew h.Chart h.Fleet (Bw pl)=O b∧(b=E↔FitP h pl):=by
 obtain⟨_,hc,hfl,_,hw⟩:=En hh;obtain⟨m1,m2⟩:=RE hw;have hlm:pl.length≤maxLen:=Ag (by omega);obtain⟨m,k4,⟨w4,k5⟩,_⟩:=Jp (p:=h.Crew.Rest) s.mv (l:=BN h.Chart pl) (by simpa[BN] using hl) (SS hc H) m1 m2
 have pil:MW h.Crew h.Chart h.Fleet (Bw pl)=O (m:X):=by
  unfold MW;rw[SZ s.mv,hw,zB,if_pos rfl];have hcl:(Bw pl).length=pl.length:=by simp[Bw]
  refine B8 (fun n i=>∀v,v.length=i→v++BN h.Chart (pl.drop i)=BN h.Chart pl→Ge h.Fleet (Bw pl) h.Crew h.Chart n (i:X) v=O (m:X)) hlm (fun n v h1 h2=> ?_) (fun n i hi ih v h1 h2=> ?_) (zL _) [] rfl (by simp)
  ·rw[Ge,if_neg (by rw[hcl]; simp)];have:v=BN h.Chart pl:=by simpa[BN] using h2
   rw[this,k5];rfl
  ·obtain⟨g1,g2⟩:=H _ (zF hi);have hi':i<(Bw pl).length:=by omega
   have hg:(Bw pl)[i]=pl[i].Passages:=by simp[Bw]
   have hz:((pl[i].Passages.length:X)==(0:X))=G:=beq_eq_false_iff_ne.2 (by have:=zU.2 g1.ne; omega);rw[Ge];simp only[Aj,hi',decide_true,if_true,Af hi',hg,zB,hz,zD,if_false,td s.pn s.fn hc hfl (by omega) g1];rw[if_pos (AN (by omega) (by simp) (by omega)),An hi hlm];exact ih _ (by simp; omega) (by rw[← h2,zW hi,yM]; rfl)
 have hT:∃t:X,Kc h.Crew h.Chart h.Fleet (Bz pl)=O t∧((0≤t∧t≤h.Crew.Tugs)∧(m:X)≤h.Crew.Pilots↔FitP h pl):=by
  unfold Kc;rw[(ZE s.pn s.fn hc hfl (Ag (Vg hl H)) (Ns H)).1,zB,SZ s.mv,hw,zB,if_pos rfl];unfold GV;by_cases h12:(BI h.Chart h.Fleet (Bz pl)).length≤12
  ·obtain⟨n,k1,⟨w1,k2⟩,_⟩:=Jp (p:=0) s.mv h12 (Tb hc (Ns H)) (by decide) m2;simp only[h12,if_true,k2,zB];exact⟨n,rfl,by rw[← FitP.iff h12 k1 k4]; constructor<;>(rintro⟨a,b⟩; exact⟨by omega,b⟩)⟩
  ·simp only[h12,if_false];exact⟨-1,zA,⟨(fun h=>by omega),fun F=>absurd F.1 h12⟩⟩
 obtain⟨t,t1,t2⟩:=hT
 have:=(mI (L:=Ie h.Fleet (Bw pl) h.Crew h.Chart) (Bw pl) (O ((decide (0≤t)&&decide (t≤h.Crew.Tugs))&&decide ((m:X)≤h.Crew.Pilots))) (by simp[Bw]; omega) (fun x hx=>by
  obtain⟨o,ho,rfl⟩:=kR.1 hx
  exact(H o ho).2) (fun n i acc hi ha=>by
   have:(Bw pl)[i].length≤1048576:=by
    obtain⟨o,ho,e⟩:=kR.1 (zF hi);rw[← e]; exact(H o ho).2
   have hcl:(Bw pl).length=pl.length:=by simp[Bw]
   rw[Ie];simp only[Aj,hi,decide_true,if_true,Af hi,zB]
   rw[if_pos (OV (by omega) (by omega))]) fun n=>by
    rw[Ie,if_neg (by simp)];have t1:Kc h.Crew h.Chart h.Fleet (Bw pl).flatten=O t:=t1;rw[t1,zB,Bu,zB,pil,zB,Bu];cases decide (0≤t)&&decide (t≤h.Crew.Tugs)<;>simp).1
 refine⟨_,this,?_⟩;rw[← t2];simp only[zE,decide_eq_true_eq]
theorem gi{l:Q X0}(h:l.length≤1000):Ee l=O l:=by
 unfold Ee BM;rw[if_pos ⟨by omega,by omega,by omega,by omega⟩];simp only[zB,Int.toNat_zero,List.replicate_zero,yV];rw[if_pos (by simp only[A3,kY,decide_eq_true_eq]; omega)]
def R9(h:X4)(l:Q X0)(o:X0):Prop:=∀x∈l,Bo h.Chart h.Regime x.Passages o.Passages=G
theorem mF{h:X4}(s:HSmall h)(hh:AO h=E){l:Q X0}{o:X0}(hl:l.length≤11)(H:DG h (l++ [o])):∃b,LQ h l o=O b∧(b=E↔R9 h l o∧FitP h (l++ [o])):=by
 obtain⟨_,hc,_,hr,_⟩:=En hh;obtain⟨b,b1,b2⟩:=UW s hh (pl:=l++ [o]) (by simp; omega) H;have Ho:=H o (by simp)
 have e:=E7 (L:=HH l h o) l (fun x=>Bo h.Chart h.Regime x.Passages o.Passages) (O G) (O b) (Ag (by omega)) (fun n i hi=>by
  have Hi:=H l[i] (List.mem_append_left _ (zF hi));rw[HH]
  simp only[Aj,hi,decide_true,if_true,Af hi,zB,(UK hc hr Hi.1.inn Ho.1.inn (Ag (by omega)) (Ag (by omega))).2]) fun n=>by
   rw[HH,if_neg (by simp),gi (by omega),zB,if_pos (AN (by omega) (by simp) (by omega)),b1];rfl
 have e:LQ h l o=_:=e;rw[e];cases ha:l.any fun x=>Bo h.Chart h.Regime x.Passages o.Passages with
 | true=>
  obtain⟨x,x1,x2⟩:=kP.1 ha;exact⟨G,zA,(fun h=>by cases h),fun K=>by rw[K.1 x x1] at x2; cases x2⟩
 | false=>
  refine⟨b,zA,b2.trans ⟨fun F=>⟨fun x hx=> ?_,F⟩,fun K=>K.2⟩⟩;have:=List.any_eq_false.1 ha x hx;simpa using this
theorem FitP.nil{h:X4}(hh:AO h=E):FitP h []:=by
 have hw:=(En hh).2.2.2.2;simp only[EQ,zE,decide_eq_true_eq] at hw
 exact⟨by simp[BI,Bz,Bw],⟨0,Sy,hw.1.1⟩,0,Sy,hw.2.1.1⟩
theorem wa{xs:Q Xb}(h:xs.length≤1048576):HY xs=O xs:=by
 unfold HY;rw[Eu h (by omega)];have:=Hb (L:=HZ xs) xs id (IQ h) (fun n i acc hi ha=>by simp[HZ,Ak,hi,ha,Ps]) (fun n acc=>by simp[HZ]) (zI xs.length ⟨0,0,0,0,0⟩) (by simp);simpa using this
theorem kw{xs:Q Xb}(h:xs.length≤maxLen):M1 xs xs=O E:=by
 unfold M1;have:=FJ (L:=HR xs xs) xs (fun _=>E) h (fun n i hi=>by simp[HR,Ak,hi,Pm]) (fun n=>by simp[HR]);simp[this]
theorem sE(P:Z→Z→Prop){len:Z}(h0:∀n,P (n+1) len)(hs:∀n i,i<len→P n (i+1)→P (n+1) i):∀k i n,i+k=len→k<n→P n i:=by
 intro k
 induction k with
 | zero=>
  intro i n h1 h2;obtain⟨q,rfl⟩:=sn (n:=n) (by omega);obtain rfl:i=len:=by omega
  exact h0 q
 | succ k ih=>
  intro i n h1 h2;obtain⟨q,rfl⟩:=sn (n:=n) (by omega);exact hs q i (by omega) (ih _ _ (by omega) (by omega))
theorem Uw:∃m,bigN=m+1∧1000000000000<m:=⟨1208925819614629174706175,by rw[BW],by omega⟩
def OZ(y:X8):Z:=(DX y).countP fun b=> !b
theorem gy{l:Q Y}:∀{n:Z},l[n]?=O G→((l.set n E).countP fun b=> !b)+1=l.countP fun b=> !b:=by
 induction l with
 | nil=>intro n h; simp at h
 | cons a l ih=>
  intro n h;cases n with
  | zero=>simp only[kB,zG] at h; subst h; simp
  | succ n=>
   simp only[List.getElem?_cons_succ] at h;have:=ih h;simp only[List.set_cons_succ,List.countP_cons];omega
theorem UL{y:X8}{a:X}(h:ix (DX y) a=O G):OZ (X8.set y (Int.toNat a) E)+1=OZ y∧0≤a∧a<8:=by
 have hg:=B7 h;have hl:(DX y).length=8:=rfl
 have ha:0≤a:=by
  unfold ix at h;split at h
  ·rename_i h1; exact h1
  ·cases h
 have hn:a.toNat<8:=by
  have:=(kL.1 hg).1;omega
 refine⟨?_,ha,by omega⟩;unfold OZ;rw[YK y hn];exact gy hg
theorem Ru{l:Q X}(h:l.length≤1000):Bx l=O l:=by
 unfold Bx BM;rw[if_pos ⟨by omega,by omega,by omega,by omega⟩];simp only[zB,Int.toNat_zero,List.replicate_zero,yV];rw[if_pos (by simp only[A3,kY,decide_eq_true_eq]; omega)]
structure Lead (c:X1) (a:X) (rt l:Q X):Prop where
 r:RtOk c rt l
 hd:l[0]?=O a
 fr:∀i (h:i+1<l.length),((l.take (i+1)).any fun z=>z==l[i+1])=G
theorem Lead.snoc{c:X1}{a:X}{rt l:Q X}(H:Lead c a rt l){x:X}(hx:l.getLast?=O x){i:Z}(hi:i<c.Segments.length)(he:idx (BP c.Segments[i] x) c.Points.length=E)(hf:(l.any fun z=>z==BP c.Segments[i] x)=G) :
  Lead c a (rt++ [(i:X)]) (l++ [BP c.Segments[i] x]):=by
 have hlen:=H.r.len;have hsi:idx (i:X) c.Segments.length=E:=Gz.2 ⟨by omega,by omega⟩;have hsg:Ao c (i:X)=c.Segments[i]:=by unfold Ao; rw[zP,zC hi]; rfl
 refine⟨⟨by simp; omega,fun y hy=> ?_,fun j hj=> ?_,fun j hj=> ?_⟩,by rw[zH (by omega)]; exact H.hd,fun j hj=> ?_⟩
 ·rcases zV.1 hy with hy|hy
  ·exact H.r.pt y hy
  ·rw[zS] at hy; subst hy; exact he
 ·by_cases h:j<rt.length
  ·rw[zN h]; exact H.r.seg j h
  ·rw[yI (by omega)]; simpa using hsi
 ·simp only[zK,zY] at hj
  by_cases h:j<rt.length
  ·obtain⟨y,y1,y2,y3⟩:=H.r.stp j h;rw[zN h];exact⟨y,by rw[zH (by omega)]; exact y1,by rw[zH (by omega)]; exact y2,y3⟩
  ·obtain rfl:j=rt.length:=by omega
   rw[yI (by omega)];simp only[Nat.sub_self,List.getElem_singleton,hsg];exact⟨x,by rw[zH (by omega),← hx,zX,hlen]; rfl,by rw[zT (by omega),hlen]; simp,(Gz.1 he).1⟩
 ·simp only[zK,zY] at hj
  by_cases h:j+1<l.length
  ·rw[kI (by omega),zN h];exact H.fr j h
  ·have e:j+1=l.length:=by omega
   rw[yI (by omega)];simp only[e,Nat.sub_self,List.getElem_singleton];rw[kI (by omega),yF];exact hf
theorem Lead.points{c:X1}{a:X}{rt l:Q X}(hc:AH c=E)(hl:rt.length≤1000000)(H:Lead c a rt l):Gi c a rt=O (l,E):=by
 have hlen:=H.r.len;have h10:=(C6 hc).2.1
 have h1:l.take 1= [a]:=by
  have h0:=H.hd;cases l with
  | nil=>cases h0
  | cons x l=>simp only[kB,zG] at h0; subst h0; rfl
 unfold Gi;rw[← h1];refine B8 (fun n i=>DP rt c n (i:X) (l.take (i+1))=O (l,E)) (Ag (by omega)) (fun n=> ?_) (fun n i hi ih=> ?_) (zL rt.length)
 ·rw[DP,if_neg (by simp),← hlen,yF]
 ·obtain⟨x,x1,x2,x3⟩:=H.r.stp i hi;have hi1:i+1<l.length:=by omega
  have hlast:(l.take (i+1)).getLast?=O x:=by
   rw[zX,kT,Nat.min_eq_left (by omega),List.getElem?_take_of_lt (by omega)];simpa using x1
  rw[zC hi1,zG] at x2
  have hfr:=H.fr i hi1;rw[x2] at hfr
  have hneg:¬BP (Ao c rt[i]) x<0:=by omega
  rw[DP];simp only[Aj,hi,decide_true,if_true,Af hi,zB,CG _ (show c.Segments.length≤1000 by omega),H.r.seg i hi,(BE (H.r.seg i hi)).1,IP (Ag (n:=(l.take (i+1)).length) (by simp; omega)) hlast,SL,hneg,decide_false,zD,if_false,S2 (Ag (n:=(l.take (i+1)).length) (by simp; omega)),hfr,Gj];rw[if_pos (AN (by simp; omega) (by simp) (by omega)),An hi (Ag (by omega)),← x2];rw[show l.take (i+1)++ [l[i+1]]=l.take (i+1+1) by rw[zJ hi1]];exact ih
theorem yu{c:X1}(hc:AH c=E){a0:X}:∀(u n:Z) (a b:X) (rt pts:Q X) (y:X8) (out:Q (Q X)),u<n→OZ y≤u→ix (DX y) a=O G→Met (X8.set y a.toNat E) pts→pts.getLast?=O a→Lead c a0 rt pts→rt.length+u≤100→out.length+10 ^ u≤100000000→
  ∃r,FQ n c a b rt y out=O r∧Gl n c pts rt b out=O r∧r.length≤out.length+10 ^ u∧∀x∈r,x∈out∨(x.length≤100∧∃p,Lead c a0 x p∧p.getLast?=O b):=by
 obtain⟨_,hs10,_,_⟩:=C6 hc;intro u
 induction u with
 | zero=>
  intro n a b rt pts y out hn hu hi;have:=(UL hi).1;omega
 | succ u ih=>
  intro n a b rt pts y out hn hu hi hm hla hL hr ho;obtain⟨q,rfl⟩:=sn (n:=n) (by omega);obtain⟨hc1,ha0,ha8⟩:=UL hi;have hp:10 ^ (u+1)=10*10 ^ u:=by rw[Nat.pow_succ]; omega
  have hp1:0<10 ^ u:=kK (by omega);have hpl:=hL.r.len;rw[FQ,P7,Gl,PI,IP (Ag (by omega)) hla,zB];by_cases hab:(a==b)=E
  ·have e:a=b:=by simpa using hab
   rw[if_pos hab,if_pos hab,Ru (by omega),zB,if_pos (AN (by omega) (by simp) (by omega)),if_pos (AN (by simp) (by omega) (by omega))];refine⟨_,zA,zA,by simp; omega,fun x hx=> ?_⟩;rcases zV.1 hx with hx|hx
   ·exact Or.inl hx
   ·simp only[zS] at hx; subst hx; exact Or.inr ⟨by omega,pts,hL,e▸hla⟩
  ·rw[if_neg hab,if_neg hab,if_pos (by simp; omega)];generalize hy:X8.set y (Int.toNat a) E=y' at hm
   have hy':(⟨y'.i0,y'.i1,y'.i2,y'.i3,y'.i4,y'.i5,y'.i6,y'.i7⟩:X8)=y':=rfl;rw[hy'];rw[hy] at hc1
   obtain⟨r,e1,e2,e3,e4⟩:=B8 (fun m i=>∀o:Q (Q X),o.length≤out.length+i*10 ^ u→(∀x∈o,x∈out∨(x.length≤100∧∃p,Lead c a0 x p∧p.getLast?=O b))→
     ∃r,FP (FQ q) a b rt c y' m (i:X) o=O r∧Gk (Gl q) pts rt b a c m (i:X) o=O r∧r.length≤out.length+c.Segments.length*10 ^ u∧∀x∈r,x∈out∨(x.length≤100∧∃p,Lead c a0 x p∧p.getLast?=O b)) (Ag (n:=c.Segments.length) (by omega))
    (fun m o hl hx=>⟨o,by simp[FP],by simp[Gk],hl,hx⟩) (fun m i hlt ihk o hl hx=>by
     have hsucc:(i+1)*10 ^ u=i*10 ^ u+10 ^ u:=Nat.succ_mul i _;have hle:i*10 ^ u≤9*10 ^ u:=Nat.mul_le_mul_right _ (by omega);rw[FP,Gk];simp only[Aj,hlt,decide_true,if_true,Af hlt,zB,RJ,SL];have he:=UZ hc (zF hlt) a;have hE:∃e,BP c.Segments[i] a=e:=⟨_,rfl⟩;obtain⟨e,hE⟩:=hE;rw[hE] at he ⊢
     by_cases h0:0≤e
     ·have hei:=he.resolve_left (by omega);have he':=Gz.1 hei;have hp8:=(C6 hc).1;have hd:(decide (0≤e)&&decide (e<8))=E:=by simp; omega
      have hmE:=hm e h0 (by omega);have hmE':=hmE;unfold DX at hmE'
      simp only[h0,decide_true,if_true,S2 (Ag (n:=pts.length) (by omega)),zB];rw[if_pos (by simp; omega),hmE',zB];cases hb:pts.any fun z=>z==e with
      | true=>
       simp only[Hg,Iy,Bool.not_true,zD,if_false,An hlt (Ag (n:=c.Segments.length) (by omega))];exact ihk o (by omega) hx
      | false=>
       simp only[Hg,Iy,Bool.not_false,if_true,An hlt (Ag (n:=c.Segments.length) (by omega))];rw[Ru (by omega),zB,if_pos (AN (by omega) (by simp) (by omega)),if_pos (AN (by simp) (by omega) (by omega)),if_pos (AN (by omega) (by simp) (by omega)),if_pos (AN (by simp) (by omega) (by omega)),if_pos (AN (by omega) (by simp) (by omega))];rw[hb] at hmE
       obtain⟨r,e1,e2,e3,e4⟩:=ih q e b (rt++ [(i:X)]) (pts++ [e]) y' o (by omega) (by omega) hmE (hm.snoc h0 (by omega)) (by simp) (by have:=hL.snoc hla hlt (by rw[hE]; exact hei) (by rw[hE]; exact hb); rw[hE] at this; exact this) (by simp; omega) (by omega);rw[e1,e2,zB,zB]
       exact ihk r (by omega) fun x h=>by
        rcases e4 x h with h|h
        ·exact hx x h
        ·exact Or.inr h
     ·simp only[h0,decide_false,zD,if_false,Hg,Iy,An hlt (Ag (n:=c.Segments.length) (by omega))];exact ihk o (by omega) hx) (zL _) out (by omega) fun x hx=>Or.inl hx
   have hle:c.Segments.length*10 ^ u≤10*10 ^ u:=Nat.mul_le_mul_right _ hs10;exact⟨r,e1,e2,by omega,e4⟩
theorem fv{c:X1}(hc:AH c=E){a b:X}(ha:idx a c.Points.length=E)(hb:idx b c.Points.length=E):∃r,N0 c a b=O r∧LA c a b=O r∧r.length≤100000000∧∀x∈r,x.length≤100∧∃p,Lead c a x p∧p.getLast?=O b:=by
 have hp8:=(C6 hc).1;have hn:=(C6 hc).2.2.1;have ha':=Gz.1 ha
 have hi:ix (DX ⟨G,G,G,G,G,G,G,G⟩) a=O G:=by
  obtain⟨n,rfl⟩:∃n:Z,a=(n:X):=⟨a.toNat,by omega⟩;have:n=0∨n=1∨n=2∨n=3∨n=4∨n=5∨n=6∨n=7:=by omega
  rcases this with rfl|rfl|rfl|rfl|rfl|rfl|rfl|rfl<;>rfl
 have m0:Met ⟨G,G,G,G,G,G,G,G⟩ []:=fun x x0 x8=>by
  obtain⟨n,rfl⟩:∃n:Z,x=(n:X):=⟨x.toNat,by omega⟩;have:n=0∨n=1∨n=2∨n=3∨n=4∨n=5∨n=6∨n=7:=by omega
  rcases this with rfl|rfl|rfl|rfl|rfl|rfl|rfl|rfl<;>rfl
 obtain⟨r,e1,e2,e3,e4⟩:=yu hc (a0:=a) 8 bigN a b [] [a] ⟨G,G,G,G,G,G,G,G⟩ [] (by rw[BW]; omega) (by decide) hi (m0.snoc ha'.1 (by omega)) rfl ⟨⟨rfl,by simpa using ha,fun i h=>by simp at h,fun i h=>by simp at h⟩,rfl,fun i h=>by simp at h⟩ (by simp) (by simp);refine⟨r,?_,?_,by simpa using e3,fun x hx=>(e4 x hx).resolve_left (by simp)⟩
 ·unfold N0 RS;simp only[DD hn,hc,zB,if_true,CG _ (show c.Points.length≤1000 by omega),ha,hb,e2]
 ·unfold LA RM;simp only[Fl hn,hc,zB,if_true,Du,ha,hb,e1]
theorem ft{c:X1}(hc:AH c=E){a b:X}(ha:idx a c.Points.length=E)(hb:idx b c.Points.length=E):∃rt q,MF c a b=O (rt,q)∧Le c a b=O (rt,q)∧(q=G→rt= [])∧(q=E→rt.length≤100∧∃p,Lead c a rt p∧p.getLast?=O b):=by
 obtain⟨r,e1,e2,e3,e4⟩:=fv hc ha hb;unfold MF Le;rw[e1,e2,zB,zB];cases hr0:r with
 | nil=>exact⟨[],G,by obtain⟨m,hm,_⟩:=Uw; rw[hm]; rfl,rfl,fun _=>rfl,fun h=>by cases h⟩
 | cons r0 rs=>
  rw[← hr0];have hpos:0<r.length:=by rw[hr0]; simp
  have hz:((r.length:X)==(0:X))=G:=beq_eq_false_iff_ne.2 (by omega);have h00:ix r (0:X)=O r0:=by rw[hr0]; rfl
  have hm0:r0∈r:=by rw[hr0]; simp
  have hlm:r.length≤maxLen:=Ag (by omega);rw[hz,if_neg (by simp),h00,zB]
  have rm:∀x∈r,∃m,Gg c x=O m∧FY c x=O m:=fun x hx=>by
   obtain⟨h1,p,h2,_⟩:=e4 x hx;obtain⟨m,m1,m2,_⟩:=Yy hc (rt:=x) (by omega) h2.r.seg;exact⟨m,m1,m2⟩
  have key:=sE (fun n i=>∀v∈r,∃rt∈r,F2 r c n v E (i:X)=O (rt,E)∧ER r c n v (i:X)=O (rt,E)) (len:=r.length)
   (fun n v hv=>⟨v,hv,by simp[F2],by simp[ER]⟩) (fun n i hi ih v hv=>by
    obtain⟨m1,g1,g2⟩:=rm _ (zF hi);obtain⟨m2,g3,g4⟩:=rm v hv;rw[F2,ER];simp only[Aj,hi,decide_true,if_true,Af hi,zB,g1,g2,g3,g4,An hi hlm,JU];by_cases hlt:m1<m2
    ·simp only[hlt,decide_true,if_true];exact ih _ (zF hi)
    ·simp only[hlt,decide_false,zD,if_false];exact ih v hv)
  obtain⟨m,hm,hm1⟩:=Uw;obtain⟨rt,hrt,k1,k2⟩:=key (r.length - 1) 1 m (by omega) (by omega) r0 hm0;obtain⟨m1,g1,g2⟩:=rm r0 hm0;refine⟨rt,E,?_,?_,(fun h=>by cases h),fun _=>e4 rt hrt⟩
  ·rw[hm,F2];have hd:(decide ((0:X)<(r.length:X)))=E:=by simp; omega
   simp only[hd,if_true,h00,zB,zD,if_false,JU];exact k1
  ·rw[hm,ER];have hd:(decide ((0:X)<(r.length:X)))=E:=by simp; omega
   simp only[hd,if_true,h00,zB,g2,show ¬m1<m1 by omega,decide_false,zD,if_false];exact k2
def GZ(h:X4)(o:X0):Prop:=(GoodP h.Chart h.Fleet o.Passages∧o.Passages.length≤1048576)∧0≤o.Cost∧o.Cost≤2880
theorem AtOk.optG{h:X4}{a:Xb}{rt:Q X}{st:X}{o:X0}(hh:AO h=E)(hl:rt.length≤100)(H:AtOk h a rt st o)(h1:0≤o.Cost)(h2:o.Cost≤2880):GZ h o:=by
 obtain⟨ha,pts,l,hr,S,hp⟩:=H
 have e:rt=o.Passages.map fun p=>p.Segment:=by
  refine List.ext_getElem (by simp[hp.1]) fun i g1 g2=> ?_
  obtain⟨x,y,_,_,_,_,q⟩:=hp.2 i g1 g1;simp only[List.length_map] at g2
  rw[zC g2,zG] at q
  simp[q]
 have hlen:=hp.1;subst e;exact⟨⟨AtOk.good hh ⟨ha,pts,l,hr,S,hp⟩,by omega⟩,h1,h2⟩
theorem tK{h:X4}(s:HSmall h)(hh:AO h=E){a:Xb}(ha:Bt h a=E):∃L,K9 h a=O L∧Ht h a=O L∧L.length≤8∧∀o∈L,GZ h o:=by
 obtain⟨hf,hc,hfl,_,_⟩:=En hh;have ha':=ha;simp only[Bt,BY,zE,decide_eq_true_eq] at ha'
 obtain⟨q1,q2,q3,q4,⟨q5,q6⟩,q7,q8⟩:=ha';obtain⟨s1,s2⟩:=GC q1;have hso:=(Kq hfl).2 _ s2;have hsn:=s.fn _ s2;obtain⟨rt,q,b1,b2,b3,b4⟩:=ft hc q2 q3;have nil_:∃L,O ([]:Q X0)=O L∧O ([]:Q X0)=O L∧L.length≤8∧∀o∈L,GZ h o:=⟨[],rfl,rfl,by simp,fun o h=>by cases h⟩;unfold K9 Ht;simp only[YO s,pY s,hh,ha,Bool.and_self,zB,if_true,b1,b2];cases q with
 | false=>
  rw[b3 rfl];obtain⟨pts,bb,g1,g2,g3,g4,_,_⟩:=Yz hc (rt:= []) (a:=a.From) (by simp)
  have hv:∃v,HD h a []=O v:=by
   unfold HD;rw[g4,zB];split
   ·exact⟨_,zA⟩
   ·have hl:pts.length≤1:=by
     have:=g4;obtain⟨p,b',e1,e2,e3,e4⟩:=Ym hc q2 (rt:= []) (by simp);have hn:=(C6 hc).2.2.1;unfold DK at this
     rw[Fl hn,hc,zB,if_pos rfl,e2,zB,zG] at this
     subst this;cases b' with
     | false=>rw[e3 rfl]; simp
     | true=>rw[(e4 rfl).len]; simp
    rename_i hne
    have:∃x,pts.getLast?=O x:=by
     cases hp:pts.getLast? with
     | none=>rw[kM] at hp; rw[hp] at hne; simp at hne
     | some x=>exact⟨x,rfl⟩
    obtain⟨x,hx⟩:=this;rw[IP (Ag (by omega)) hx,zB];unfold JJ;split
    ·exact⟨_,zA⟩
    ·rw[s1,zB]
     have:∃w,HM h.Forecast h.Chart (AL h.Fleet a.Ship) a.From []=O w:=by
      unfold HM;simp only[ND,GA hsn,hf,hso,g2,zB,if_true];split<;>exact⟨_,rfl⟩
     obtain⟨w,hw⟩:=this;rw[hw];exact⟨_,zA⟩
  obtain⟨v,hv⟩:=hv;simp only[hv,zB,zD,if_false];exact nil_
 | true=>
  obtain⟨hl,p,P,hp⟩:=b4 rfl;obtain⟨pts,bb,g1,g2,g3,g4,g5,g6⟩:=Yz hc (rt:=rt) (a:=a.From) (by omega)
  have hpts:bb=E∧pts=p:=by
   have e:=P.points hc (by omega);have hn:=(C6 hc).2.2.1;have h8:=(C6 hc).1;unfold Ei at g1
   simp only[DD hn,hc,zB,if_true,CG _ (show h.Chart.Points.length≤1000 by omega),q2,e,zG] at g1
   subst g1;unfold F5 Ei at g3
   simp only[DD hn,hc,zB,if_true,CG _ (show h.Chart.Points.length≤1000 by omega),q2,e,zG] at g3
   exact⟨zA,g3.symm⟩
  obtain⟨rfl,rfl⟩:=hpts;have hr:=g6 rfl;have hpl:=hr.len
  have h0:rt≠ []:=fun e=>by
   subst e;have hd:=P.hd;rw[zX,hpl] at hp
   rw[show([]:Q X).length+1 - 1=0 from rfl,hd] at hp
   exact q4 (kX hp)
  obtain⟨v,v1,V⟩:=xN hf hc hso hsn (by omega) hr h0 g2 g4;have hz:((pts.length:X)==(0:X))=G:=beq_eq_false_iff_ne.2 (by omega)
  have hcv:HD h a rt=O (v,E):=by
   unfold HD;simp only[g4,zB,hz,zD,if_false,IP (Ag (by omega)) hp,bne_self_eq_false,JJ,s1,v1]
  simp only[hcv,zB,if_true,s1,V.st,g3]
  have key:∀(k n:Z) (m:X) (acc:Q X0),2880<m+15*(k:X)→k<n→a.Ready≤m→m≤2880+15→acc.length≤8→(∀o∈acc,GZ h o)→
    ∃L,F4 (rt,E) h a (AL h.Fleet a.Ship) v.sure pts n m acc=O L∧FU (rt,E) h a (v,E) n m acc=O L∧L.length≤8∧∀o∈L,GZ h o:=by
   intro k
   induction k with
   | zero=>
    intro n m acc h1 h2 h3 h4 h5 h6;obtain⟨q,rfl⟩:=sn (n:=n) (by omega);have:¬m≤a.Due:=by omega
    exact⟨acc,by simp[F4,this],by simp[FU,this],h5,h6⟩
   | succ k ih=>
    intro n m acc h1 h2 h3 h4 h5 h6;obtain⟨q,rfl⟩:=sn (n:=n) (by omega);rw[F4,FU];by_cases hd:m≤a.Due
    ·by_cases h8:(acc.length:X)<8
     ·have hw:IntKind.i64.wrap (m+15)=m+15:=Ap (by omega) (by omega);obtain⟨l,b,c1,c2,c3⟩:=tJ ha hc hso hsn (by omega) V g1 g2 g3 g4 h3 (by omega);simp only[hd,h8,decide_true,if_true,c1,zB];cases b with
      | false=>
       obtain⟨o,o1⟩:=c2 rfl;simp only[o1,zB,zD,if_false,Il,JC,hw];exact ih q _ acc (by omega) (by omega) (by omega) (by omega) h5 h6
      | true=>
       obtain⟨o,o1,o2,o3,_,o4,o5,_⟩:=c3 rfl;simp only[o1,o2,zB,if_true,Il,JC,hw];rw[if_pos (AN (by omega) (by simp) (by omega)),if_pos (AN (by omega) (by simp) (by omega))]
       exact ih q _ _ (by omega) (by omega) (by omega) (by omega) (by simp; omega) fun x hx=>by
        rcases zV.1 hx with hx|hx
        ·exact h6 x hx
        ·rw[zS] at hx; subst hx; exact o3.optG hh hl o4 o5
     ·simp only[hd,h8,decide_true,decide_false,if_true,zD,if_false];exact⟨acc,zA,zA,h5,h6⟩
    ·simp only[hd,decide_false,zD,if_false];exact⟨acc,zA,zA,h5,h6⟩
  exact key 200 bigN a.Ready [] (by omega) (by rw[BW]; omega) (Int.le_refl _) (by omega) (by simp) fun o h=>by cases h
structure CallsGood (h:X4) (cs:Q Xb):Prop where
 ok:∀a∈cs,Bt h a=E
 six:cs.length≤6
def E2(l:Q X0):X:=(l.map X0.Cost).sum
def QZ(l:Q X0):Prop:=∀o∈l,0≤o.Cost∧o.Cost≤2880
theorem wG{l:Q X0}(h:QZ l):0≤E2 l∧E2 l≤2880*(l.length:X):=by
 induction l with
 | nil=>simp[E2]
 | cons x l ih=>
  have:=h x (by simp);have:=ih fun o ho=>h o (by simp[ho])
  simp only[E2,List.map_cons,List.sum_cons,kS] at *
  omega
theorem Zr(l:Q X0)(o:X0):E2 (l++ [o])=E2 l+o.Cost:=by simp[E2]
theorem gw{l:Q X0}(hl:l.length≤1000)(h:QZ l):Lh l=O (E2 l):=by
 have key:∀(k i n:Z),i+k=l.length→k<n→Hh l n (E2 (l.take i)) (i:X)=O (E2 l):=by
  intro k
  induction k with
  | zero=>
   intro i n hi hn;obtain⟨q,rfl⟩:=sn (n:=n) (by omega);have:i=l.length:=by omega
   subst this;rw[yF];simp[Hh]
  | succ k ih=>
   intro i n hi hn;obtain⟨q,rfl⟩:=sn (n:=n) (by omega);have hlt:i<l.length:=by omega
   have b1:=wG (l:=l.take i) fun o ho=>h o (List.mem_of_mem_take ho)
   have b2:=h _ (zF hlt);have b3:((l.take i).length:X)≤1000:=by simp only[kT]; omega
   have e:=ih (i+1) q (by omega) (by omega);rw[zJ hlt,Zr] at e
   rw[Hh];simp only[Aj,hlt,decide_true,if_true,Af hlt,zB,An hlt (Ag (by omega))];rw[Ap (by omega) (by omega)];exact e
 exact key l.length 0 bigN (by omega) (BL (Ag (by omega)))
structure Fnd where
 f:Y
 b:Q X
 w:Xj
def wl(a b:Xj):Y:=decide (a.i0<b.i0) || (decide (a.i0=b.i0)&&decide (a.i1<b.i1))
def QE(A:Fnd)(ch:Q X)(w:Xj):Fnd:=if(A.f&& !wl w A.w)=E then A else⟨E,ch,w⟩
def CC(h:X4)(pl:Q X0):Y:=(Dn h pl).getD G
def CV(h:X4)(pl:Q X0)(o:X0):Y:= !(pl.any fun x=>Bo h.Chart h.Regime x.Passages o.Passages)
def Eb(F:X0→X→Fnd→Fnd):Q X0→Z→Fnd→Fnd
 | [],_,A=>A
 | o::l,n,A=>Eb F l (n+1) (F o (n:X) A)
def C4(h:X4)(wv:Q X0→Xj):Q (Q X0)→Q X0→Q X→Fnd→Fnd
 | [],pl,ch,A=>if CC h pl=E then QE A ch (wv pl) else A
 | l::ls,pl,ch,A=>Eb (fun o n A=>if CV h pl o=E then C4 h wv ls (pl++ [o]) (ch++ [n]) A else A) l 0 A
theorem UY{F:X0→X→Fnd→Fnd}{A:Fnd}:∀{l:Q X0} {n:Z},(∀o∈l,∀n,F o n A=A)→Eb F l n A=A:=by
 intro l
 induction l with
 | nil=>intro n _; rfl
 | cons o l ih=>
  intro n H;rw[Eb,H o (yJ ..)];exact ih fun x hx=>H x (yH _ hx)
section
variable {h : X4} {cs : Q Xb} {os : Q (Q X0)}
def GoodC(h:X4)(pl:Q X0):Prop:=∀o∈pl,GZ h o
theorem GoodC.pl{pl:Q X0}(H:GoodC h pl):DG h pl:=fun o ho=>(H o ho).1
theorem GoodC.cost{pl:Q X0}(H:GoodC h pl):QZ pl:=fun o ho=>(H o ho).2
theorem GoodC.snoc{pl:Q X0}{o:X0}(H:GoodC h pl)(ho:GZ h o):GoodC h (pl++ [o]):=fun x hx=>by
 rcases zV.1 hx with hx|hx
 ·exact H x hx
 ·rw[zS] at hx; subst hx; exact ho
theorem Kn(s:HSmall h)(hh:AO h=E){pl:Q X0}(hl:pl.length≤12)(H:DG h pl):Dn h pl=O (CC h pl)∧(CC h pl=E↔FitP h pl):=by
 obtain⟨b,b1,b2⟩:=UW s hh hl H;have:CC h pl=b:=by unfold CC; rw[b1]; rfl
 rw[this];exact⟨b1,b2⟩
theorem hI(s:HSmall h)(hh:AO h=E){pl:Q X0}(hl:pl.length≤12)(H:DG h pl):MI h.Crew h.Chart h.Fleet (Bw pl)=O (CC h pl):=by
 obtain⟨b,b1,b2⟩:=vT s hh hl H;have:b=CC h pl:=by rw[zR,b2,(Kn s hh hl H).2]
 rw[b1,this]
theorem vZ(s:HSmall h)(hh:AO h=E){wv:Q X0→Xj}:∀(ls:Q (Q X0)) (pl:Q X0) (ch:Q X) (A:Fnd),(∀l∈ls,GoodC h l)→GoodC h pl→pl.length+ls.length≤12→CC h pl=G→C4 h wv ls pl ch A=A:=by
 intro ls
 induction ls with
 | nil=>intro pl ch A _ _ _ hf; rw[C4,if_neg (by rw[hf]; simp)]
 | cons l ls ih=>
  intro pl ch A hg hp hl hf;simp only[kS] at hl
  rw[C4];refine UY fun o ho n=> ?_
  have ho':=hg l (yJ ..) o ho;split
  ·refine ih _ _ _ (fun l hm=>hg l (yH _ hm)) (hp.snoc ho') (by simp; omega) ?_;cases e:CC h (pl++ [o]) with
   | false=>rfl
   | true=>
    have F:=(Kn s hh (by simp; omega) (hp.snoc ho').pl).2.1 e;have:=(Kn s hh (by omega) hp.pl).2.2 (FitP.app hh s (hp.snoc ho').pl (by omega) F);rw[hf] at this
    cases this
  ·rfl
theorem zk{a b c:Xj}(h1:wl a b=G)(h2:wl b c=G):wl a c=G:=by
 simp only[wl,Bool.or_eq_false_iff,Bool.and_eq_false_iff,decide_eq_false_iff_not] at *
 omega
def Ea(h:X4)(os:Q (Q X0)):Q (Q (Q (Q Y))):=os.map fun a=>os.map fun b=>a.map fun o=>b.map fun p=>Bo h.Chart h.Regime o.Passages p.Passages
theorem gh(hh:AO h=E)(h6:os.length≤6)(h8:∀l∈os,l.length≤8)(hg:∀l∈os,GoodC h l):Ni h os=O (Ea h os):=by
 obtain⟨_,hc,_,hr,_⟩:=En hh;unfold Ni;refine Fy (L:=D5 os h) os (fun a=>os.map fun b=>a.map fun o=>b.map fun p=>Bo h.Chart h.Regime o.Passages p.Passages) O (Ag (by omega)) (fun n i acc hi ha=> ?_) fun n acc _=>by rw[D5,if_neg (by simp)]
 rw[D5];simp only[Aj,hi,decide_true,if_true,Af hi,zB];have g1:=h8 _ (zF hi);refine(Fy (L:=DR os os[i] (i:X) h acc (D5 os h n)) os (fun b=>os[i].map fun o=>b.map fun p=>Bo h.Chart h.Regime o.Passages p.Passages) (fun v=>if A3 acc.length [v].length 24=E then D5 os h n (IntKind.i64.wrap ((i:X)+1)) (acc++ [v]) else none) (Ag (by omega)) (fun n2 j ac2 hj ha2=> ?_) fun n2 ac2 _=>by rw[DR,if_neg (by simp)]).trans (by rw[if_pos (AN (by omega) (by simp) (by omega))]);rw[DR];simp only[Aj,hj,decide_true,if_true,Af hj,zB];have g2:=h8 _ (zF hj);refine(Fy (L:=Fe os os[i] os[j] (i:X) (j:X) h acc ac2 (DR os os[i] (i:X) h acc (D5 os h n) n2)) os[i] (fun o=>os[j].map fun p=>Bo h.Chart h.Regime o.Passages p.Passages) (fun v=>if A3 ac2.length [v].length 24=E then DR os os[i] (i:X) h acc (D5 os h n) n2 (IntKind.i64.wrap ((j:X)+1)) (ac2++ [v]) else none) (Ag (by omega)) (fun n3 k ac3 hk ha3=> ?_) fun n3 ac3 _=>by rw[Fe,if_neg (by simp)]).trans (by rw[if_pos (AN (by omega) (by simp) (by omega))]);rw[Fe];simp only[Aj,hk,decide_true,if_true,Af hk,zB];have o1:=(hg _ (zF hi) _ (zF hk)).1;refine(Fy (L:=ID os os[i] os[j] (i:X) (j:X) (k:X) h os[i][k] acc ac2 ac3 (Fe os os[i] os[j] (i:X) (j:X) h acc ac2 (DR os os[i] (i:X) h acc (D5 os h n) n2) n3)) os[j] (fun p=>Bo h.Chart h.Regime os[i][k].Passages p.Passages) (fun v=>if A3 ac3.length [v].length 24=E then Fe os os[i] os[j] (i:X) (j:X) h acc ac2 (DR os os[i] (i:X) h acc (D5 os h n) n2) n3 (IntKind.i64.wrap ((k:X)+1)) (ac3++ [v]) else none) (Ag (by omega)) (fun n4 m ac4 hm ha4=> ?_) fun n4 ac4 _=>by rw[ID,if_neg (by simp)]).trans (by rw[if_pos (AN (by omega) (by simp) (by omega))]);have o2:=(hg _ (zF hj) _ (zF hm)).1;rw[ID];simp only[Aj,hm,decide_true,if_true,Af hm,zB,(UK hc hr o1.1.inn o2.1.inn (Ag (by omega)) (Ag (by omega))).1];rw[if_pos (AN (by omega) (by simp) (by omega))]
def Chos(os:Q (Q X0))(pl:Q X0)(ch:Q X):Prop:=pl.length=ch.length∧∀i (h:i<pl.length),∃(l:Q X0) (c:Z),os[i]?=O l∧ch[i]?=O (c:X)∧l[c]?=O pl[i]
theorem Chos.snoc{pl:Q X0}{ch:Q X}(H:Chos os pl ch){l:Q X0}(hl:os[pl.length]?=O l){i:Z}(hi:i<l.length):Chos os (pl++ [l[i]]) (ch++ [(i:X)]):=by
 obtain⟨h1,h2⟩:=H;refine⟨by simp; omega,fun j hj=> ?_⟩;simp only[zK,zY] at hj
 by_cases h:j<pl.length
 ·obtain⟨l',c,c1,c2,c3⟩:=h2 j h;exact⟨l',c,c1,by rw[zH (by omega)]; exact c2,by rw[zN h]; exact c3⟩
 ·obtain rfl:j=pl.length:=by omega
  exact⟨l,i,hl,by rw[h1,zT (by omega)]; simp,by rw[yI (by omega),zC hi]; simp⟩
theorem XK(a b:Xj):LZ a b=O (wl a b):=by
 unfold LZ wl;by_cases h1:a.i0<b.i0
 ·simp[h1]
 ·by_cases h2:a.i0=b.i0
  ·simp[h2]
  ·simp[h1,h2]
theorem Y6{pl:Q X0}{o:X0}:CV h pl o=E↔R9 h pl o:=by
 simp only[CV,R9,Bool.not_eq_true',List.any_eq_false];exact⟨fun H x hx=>by simpa using H x hx,fun H x hx=>by simpa using H x hx⟩
end
theorem gV{m n:Z}(h:m+n≤140737488355328):H8 m n=E:=by
 unfold H8;rw[decide_eq_true_eq];omega
theorem ifc{α:Type}{m n:Z}(h:m+n≤140737488355328)(x y:α):(if H8 m n=E then x else y)=x:=by rw[if_pos (gV h)]
theorem qq(l:Q (Q I))(x sep:Q I)(h:l≠ []):join (l++ [x]) sep=join l sep++sep++x:=by
 cases l with
 | nil=>exact absurd rfl h
 | cons a r=>rw[List.cons_append,join_cons,join_cons]; simp[joinTail]
theorem qr(l:Q (Q I))(sep:Q I)(i:Z):(join (l.take i) sep).length≤(join l sep).length:=by
 cases l with
 | nil=>simp
 | cons a r=>
  cases i with
  | zero=>simp[join,List.intercalate]
  | succ i=>
   rw[List.take_succ_cons,join_cons,join_cons];simp only[zK,joinTail]
   have:((yK (sep++ ·) (r.take i)).flatten).length≤((yK (sep++ ·) r).flatten).length:=by
    rw[List.map_take]
    conv=>rhs; rw[← List.take_append_drop i (yK (sep++ ·) r)]
    rw[yT,zK];omega
   omega
theorem qo{l:Q (Q I)}{sep:Q I}(hl:l.length≤maxLen)(hj:(join l sep).length≤140737488355328):MO l sep=O (join l sep):=by
 have key:∀(k i n:Z),i+k=l.length→k<n→Gd sep l n (join (l.take i) sep) (i:X)=O (join l sep):=by
  intro k
  induction k with
  | zero=>
   intro i n hi hn;obtain⟨m,rfl⟩:∃m,n=m+1:=⟨n - 1,by omega⟩;have:i=l.length:=by omega
   subst this;rw[Gd];simp
  | succ k ih=>
   intro i n hi hn;obtain⟨m,rfl⟩:∃m,n=m+1:=⟨n - 1,by omega⟩;have hlt:i<l.length:=by omega
   have hnext:join (l.take (i+1)) sep=if i=0 then l[i] else join (l.take i) sep++sep++l[i]:=by
    rw[zJ hlt];split
    ·rename_i h0; subst h0; simp[join,List.intercalate]
    ·rename_i h0
     exact qq _ _ _ (by
      intro e;have e2:=congrArg List.length e;rw[kT,kY,Nat.min_eq_left (by omega)] at e2
      exact h0 e2)
   have hle:=qr l sep (i+1);rw[Gd];simp only[Aj,hlt,decide_true,if_true,Af hlt,zB];rw[← ih (i+1) m (by omega) (by omega)];by_cases h0:i=0
   ·subst h0;simp only[Int.ofNat_zero,kZ,decide_false,zD,if_false,K6];simp only[if_true] at hnext
    rw[hnext] at hle ⊢
    rw[List.take_zero,join_nil,ifc (by simp; omega),yV];rfl
   ·have hp:(0:X)<(i:X):=by omega
    simp only[hp,decide_true,if_true,K6];rw[if_neg h0] at hnext
    rw[hnext] at hle ⊢
    simp only[zK] at hle
    rw[ifc (by omega),ifc (by simp; omega),An hlt hl]
 have:=key l.length 0 bigN (by omega) (BL hl);simpa[MO,join_nil] using this
theorem pq{l:Q (Q I)}{sep:Q I}(hl:l.length≤140737488355328)(hj:(join l sep).length≤140737488355328):Lo l sep=O (join l sep):=by
 simp[Lo,PS,hl,hj]
end Go.Vi
