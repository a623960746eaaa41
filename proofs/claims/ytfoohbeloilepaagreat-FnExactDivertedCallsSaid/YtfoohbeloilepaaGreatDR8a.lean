/-
Plain laws. No condition.
-/
import Derived.Test.YtfoohbeloilepaaGreatDNf
import Derived.Test.YtfoohbeloilepaaGreatDVi33
import Derived.KernelRfl
namespace Go.Vi
set_option linter.all false
open Option renaming bind_some → zB, some → O
open List renaming getElem?_eq_getElem → zC, getElem_mem → zF, getElem?_append_left → zH, replicate → zI, take_succ_eq_append_getElem → zJ, range → zL, getElem_append_left → zM, getElem_of_mem → zN, length_append → zO, mem_singleton → zS, getElem?_append_right → zT, length_pos_iff → zU, mem_append → zV, drop_eq_getElem_cons → zW, getLast?_eq_getElem? → zX, length_singleton → zY, all_eq_true → yB, getElem?_set_ne → yE, take_length → yF, getElem?_set_self → yG, mem_cons_of_mem → yH, getElem_append_right → yI, mem_cons_self → yJ, range' → yK, append_assoc → yL, drop_zero → yX, getElem?_cons_zero → yY, getElem?_map → kA, head?_eq_getElem? → kC, map → kD, getElem_set_self → kE, foldr_cons → kF, nil_append → kG, take_append_of_le_length → kH, flatten_append → kI, mem_range → kJ, getElem?_eq_some_iff → kL, getLast?_eq_none_iff → kM, range'_succ → kN, any_eq_true → kP, getElem_map → kQ, mem_map → kR, length_cons → kS, map_append → kV
open Bool renaming false_eq_true → zD, and_eq_true → zE, true_and → zQ, eq_iff_iff → zR, or_eq_true → kU, not_true → kX, true → E, false → G
open Option.some renaming injEq → zG, inj → kW
open Nat renaming zero_le → zK, mod_two_eq_zero_or_one → yA, lt_or_ge → yC, lt_trans → yD, testBit_or → yM, testBit_two_pow_sub_one → yN, pow_le_pow_right → yO, eq_of_testBit_eq → yP, pow_lt_pow_right → yQ, testBit_and → yS, lt_of_lt_of_le → yT, lt_of_le_of_lt → yV, mul_le_mul → yW, or_lt_two_pow → yZ, le_refl → kB, pow_pos → kK, sub_zero → kO, and_div_two → kT
open Int renaming toNat_natCast → zP, tdiv → zZ, tmod_eq_emod_of_nonneg → yR, tmod → yU
open IntKind renaming wrap → kY
open _root_ renaming List → Q, Option → U, Int → X, Bool → Y, Nat → Z, UInt8 → I, rfl → zA
def AH(a b:Z):Z:=a ^^^ (a &&& b)
theorem EZ(a b i:Z):(AH a b).testBit i=(a.testBit i&& !b.testBit i):=by
 simp only[AH,Nat.testBit_xor,yS];cases a.testBit i<;>cases b.testBit i<;>rfl
theorem JR(n i:Z):(2 ^ n).testBit i=decide (n=i):=Nat.testBit_two_pow
theorem HB{s n i:Z}(h:s<2 ^ n)(hi:s.testBit i=E):i<n:=by
 rcases yC i n with h1|h1
 ·exact h1
 ·have:s<2 ^ i:=yT h (yO (by omega) h1);rw[Nat.testBit_lt_two_pow this] at hi
  cases hi
theorem A2s{s i:Z}(hi:s.testBit i=E):i<s:=HB Nat.lt_two_pow_self hi
theorem aJ(p:Z→Y):∀k:Z,∃q:Z,∀i,q.testBit i=(decide (i<k)&&p i)
 | 0=>⟨0,fun i=>by simp⟩
 | k+1=>by
  obtain⟨q,hq⟩:=aJ p k;refine⟨q ||| (if p k then 2 ^ k else 0),fun i=> ?_⟩;rw[yM,hq];by_cases hp:p k=E
  ·rw[if_pos hp,JR];by_cases h:k=i
   ·subst h; simp[hp]
   ·have:decide (i<k+1)=decide (i<k):=by simp; omega
    simp[h,this]
  ·rw[if_neg hp,Nat.zero_testBit];by_cases h:k=i
   ·subst h; simp[hp]
   ·have:decide (i<k+1)=decide (i<k):=by simp; omega
    simp[this]
theorem A18{q r:Z}(h:q &&& r=q){i:Z}(hi:q.testBit i=E):r.testBit i=E:=by
 have:=congrArg (fun x=>x.testBit i) h;simp only[yS,hi,zQ] at this
 exact this
theorem Uz{q r:Z}(h:∀i,q.testBit i=E→r.testBit i=E):q &&& r=q:=by
 apply yP
 intro i;rw[yS];cases hq:q.testBit i with
 | false=>rfl
 | true=>rw[h i hq]; rfl
theorem xE:∀(n r p q:Z),r≤n→p &&& r=p→q &&& r=q→q<p→q≤(p - 1) &&& r:=by
 intro n
 induction n with
 | zero=>
  intro r p q hr hp hq hlt;have:r=0:=by omega
  subst this;rw[Nat.and_zero] at hp hq
  omega
 | succ n ih=>
  intro r p q hr hp hq hlt;by_cases h0:r=0
  ·subst h0;rw[Nat.and_zero] at hp hq
   omega
  have hp2:(p / 2) &&& (r / 2)=p / 2:=by rw[← kT,hp]
  have hq2:(q / 2) &&& (r / 2)=q / 2:=by rw[← kT,hq]
  have e2:∀a b:Z,(a &&& b) % 2=(a % 2)*(b % 2):=fun a b=>by
   have h:=yS a b 0;simp only[Nat.testBit_zero] at h;rcases yA a with ha|ha<;>rcases yA b with hb|hb<;>rcases yA (a &&& b) with hc|hc<;>simp_all
  have hpm:=e2 p r;have hqm:=e2 q r;rw[hp] at hpm
  rw[hq] at hqm
  have hd:((p - 1) &&& r) / 2=((p - 1) / 2) &&& (r / 2):=kT;have hm:=e2 (p - 1) r;rcases yA p with h1|h1
  ·-- an even one
   have i1:=ih (r / 2) (p / 2) (q / 2) (by omega) hp2 hq2 (by omega);have e3:(p - 1) / 2=p / 2 - 1:=by omega
   rw[e3] at hd
   have e4:(p - 1) % 2=1:=by omega
   rw[e4,Nat.one_mul] at hm
   have hqr:q % 2≤r % 2:=by
    rcases yA q with h2|h2
    ·omega
    ·rw[h2,Nat.one_mul] at hqm; omega
   omega
  ·have e3:(p - 1) / 2=p / 2:=by omega
   rw[e3,hp2] at hd
   omega
theorem jV{p r:Z}(h:0<p):(p - 1) &&& r<p:=by
 have:= @Nat.and_le_left (p - 1) r;omega
theorem jW(p r:Z):(p &&& r) &&& r=p &&& r:=by rw[Nat.and_assoc,Nat.and_self]
def Es(B:Z→Z→Y)(S m:Z):Prop:=∃f:Z→Z,(∀i,S.testBit i=E→f i<m)∧∀i j,S.testBit i=E→S.testBit j=E→i≠j→f i=f j→B i j=E
def F6(B:Z→Z→Y)(S:Z):Prop:=∀i j,S.testBit i=E→S.testBit j=E→i≠j→B i j=E
def Cp(B:Z→Z→Y)(S n:Z):Prop:=Es B S n∧∀m,Es B S m→n≤m
theorem Qg{B:Z→Z→Y}{S n:Z}(h:S<2 ^ n):Es B S n:=⟨id,fun i hi=>HB h hi,fun i j _ _ hne e=>absurd e hne⟩
theorem Up{B:Z→Z→Y}:Cp B 0 0:=⟨⟨id,fun i hi=>by simp at hi,fun i j hi=>by simp at hi⟩,fun m _=>zK m⟩
theorem mJ{B:Z→Z→Y}{S t rest q n:Z}(hS:∀i,S.testBit i=E→i=t∨rest.testBit i=E)(hq:F6 B (q ||| 2 ^ t))(h:Es B (AH rest q) n):Es B S (1+n):=by
 obtain⟨f,f1,f2⟩:=h
 have key:∀i,S.testBit i=E→(i=t∨q.testBit i=E)∨(AH rest q).testBit i=E:=fun i hi=>by
  rcases hS i hi with h|h
  ·exact .inl (.inl h)
  ·cases hb:q.testBit i with
   | true=>exact .inl (.inr rfl)
   | false=>right; rw[EZ,h,hb]; rfl
 have hin:∀i,(i=t∨q.testBit i=E)→(q ||| 2 ^ t).testBit i=E:=fun i hi=>by
  rw[yM,JR];rcases hi with h|h
  ·simp[h]
  ·simp[h]
 refine⟨fun i=>if i=t∨q.testBit i=E then n else f i,fun i hi=> ?_,fun i j hi hj hne e=> ?_⟩
 ·by_cases hx:i=t∨q.testBit i=E
  ·simp only[hx,if_true]; omega
  ·simp only[hx,if_false];rcases key i hi with h|h
   ·exact absurd h hx
   ·have:=f1 i h; omega
 ·by_cases hx:i=t∨q.testBit i=E
  ·by_cases hy:j=t∨q.testBit j=E
   ·exact hq i j (hin i hx) (hin j hy) hne
   ·simp only[hx,hy,if_true,if_false] at e
    have:=f1 j ((key j hj).resolve_left hy);omega
  ·by_cases hy:j=t∨q.testBit j=E
   ·simp only[hx,hy,if_true,if_false] at e
    have:=f1 i ((key i hi).resolve_left hx);omega
   ·simp only[hx,hy,if_false] at e
    exact f2 i j ((key i hi).resolve_left hx) ((key j hj).resolve_left hy) hne e
theorem mK{B:Z→Z→Y}{S t rest m:Z}(hS:S.testBit t=E)(hr:∀i,rest.testBit i=E→S.testBit i=E)(h:Es B S m):∃q n,q &&& rest=q∧F6 B (q ||| 2 ^ t)∧n+1=m∧Es B (AH rest q) n:=by
 obtain⟨f,f1,f2⟩:=h;obtain⟨q,hq⟩:=aJ (fun i=>rest.testBit i&&decide (f i=f t)) rest
 have hq2:∀i,q.testBit i=E↔rest.testBit i=E∧f i=f t:=fun i=>by
  rw[hq i];constructor
  ·intro h;simp only[zE,decide_eq_true_eq] at h;exact h.2
  ·intro⟨h1,h2⟩;simp only[zE,decide_eq_true_eq];exact⟨A2s h1,h1,h2⟩
 have hm:=f1 t hS;refine⟨q,m - 1,Uz fun i hi=>((hq2 i).1 hi).1,fun i j hi hj hne=> ?_,by omega,fun i=>if f i=m - 1 then f t else f i,fun i hi=> ?_,fun i j hi hj hne e=> ?_⟩
 ·have side:∀i,(q ||| 2 ^ t).testBit i=E→S.testBit i=E∧f i=f t:=fun i hi=>by
   rw[yM,JR,kU,decide_eq_true_eq] at hi
   rcases hi with h|h
   ·exact⟨hr i ((hq2 i).1 h).1,((hq2 i).1 h).2⟩
   ·subst h; exact⟨hS,rfl⟩
  obtain⟨i1,i2⟩:=side i hi;obtain⟨j1,j2⟩:=side j hj;exact f2 i j i1 j1 hne (i2.trans j2.symm)
 ·rw[EZ,zE] at hi
  have hne:f i≠f t:=fun e=>by
   have:=(hq2 i).2 ⟨hi.1,e⟩;rw[this] at hi
   simp at hi
  have:=f1 i (hr i hi.1);show(if f i=m - 1 then f t else f i)<m - 1
  split<;>omega
 ·rw[EZ,zE] at hi hj
  have hni:f i≠f t:=fun e=>by
   have:=(hq2 i).2 ⟨hi.1,e⟩;rw[this] at hi
   simp at hi
  have hnj:f j≠f t:=fun e=>by
   have:=(hq2 j).2 ⟨hj.1,e⟩;rw[this] at hj
   simp at hj
  have e2:f i=f j:=by
   have e:(if f i=m - 1 then f t else f i)=(if f j=m - 1 then f t else f j):=e;split at e<;>split at e<;>omega
  exact f2 i j (hr i hi.1) (hr j hj.1) hne e2
def D4(B:Z→Z→Y)(N m:Z)(w:Q Z):Prop:=∃f:Z→Z,(∀(j:Z) (h:j<w.length),f j=w[j])∧(∀j,j<N→f j<m)∧∀i j,i<N→j<N→i≠j→f i=f j→B i j=E
def JZ(B:Z→Z→Y)(w:Q Z)(c:Z):Prop:=∀(k:Z) (h:k<w.length),w[k]=c→B w.length k=E
theorem qB{B:Z→Z→Y}{N m:Z}{w:Q Z}{c:Z}(h:D4 B N m (w++ [c])):D4 B N m w:=by
 obtain⟨f,f1,f2⟩:=h;exact⟨f,fun j hj=>by rw[f1 j (by simp; omega),zM hj],f2⟩
theorem qD{B:Z→Z→Y}{N m u:Z}{w:Q Z}(hw:w.length<N)(hu:∀x∈w,x<u)(h:D4 B N m w):∃c,c≤u∧c<m∧JZ B w c∧D4 B N m (w++ [c]):=by
 obtain⟨f,f1,f2,f3⟩:=h
 have done:∀f:Z→Z,(∀(j:Z) (h:j<w.length),f j=w[j])→(∀j,j<N→f j<m)→(∀i j,i<N→j<N→i≠j→f i=f j→B i j=E)→f w.length≤u→∃c,c≤u∧c<m∧JZ B w c∧D4 B N m (w++ [c]):=by
  intro f f1 f2 f3 hle;refine⟨f w.length,hle,f2 _ hw,fun k hk e=>f3 _ _ hw (by omega) (by omega) ((e.symm.trans (f1 k hk).symm)),f,fun j hj=> ?_,f2,f3⟩;rcases yC j w.length with h|h
  ·rw[zM h]; exact f1 j h
  ·have:j=w.length:=by simp at hj; omega
   subst this;simp
 by_cases hc:f w.length≤u
 ·exact done f f1 f2 f3 hc
 ·have hm:=f2 _ hw;refine done (fun x=>if f x=f w.length then u else if f x=u then f w.length else f x) (fun j hj=> ?_) (fun j hj=> ?_) (fun i j hi hj hne e=>f3 i j hi hj hne ?_) (by simp)
  ·have e1:=f1 j hj;have e2:=hu _ (zF hj);show(if f j=f w.length then u else if f j=u then f w.length else f j)=w[j]
   rw[if_neg (by omega),if_neg (by omega),e1]
  ·have:=f2 j hj;show(if f j=f w.length then u else if f j=u then f w.length else f j)<m
   split
   ·omega
   ·split<;>omega
  ·have e:(if f i=f w.length then u else if f i=u then f w.length else f i)=(if f j=f w.length then u else if f j=u then f w.length else f j):=e;split at e<;>split at e<;>(try split at e)<;>(try split at e)<;>omega
theorem qC{B:Z→Z→Y}{N m:Z}{w:Q Z}(hl:w.length=N)(hm:∀x∈w,x<m)(hB:∀i j,B i j=B j i)(hv:∀(i k:Z) (hi:i<w.length) (hk:k<i),w[i]=w[k]→B i k=E):D4 B N m w:=by
 subst hl;have e:∀(j:Z) (h:j<w.length),w[j]?.getD 0=w[j]:=fun j h=>by rw[zC h]; rfl
 refine⟨fun j=>w[j]?.getD 0,fun j hj=>e j hj,fun j hj=> ?_,fun i j hi hj hne h=> ?_⟩
 ·show w[j]?.getD 0<m
  rw[e j hj]; exact hm _ (zF hj)
 ·have h:w[i]?.getD 0=w[j]?.getD 0:=h;rw[e i hi,e j hj] at h;rcases yC j i with hlt|hge
  ·exact hv i j hi hlt h
  ·rw[hB]; exact hv j i hj (by omega) h.symm
theorem WT{B:Z→Z→Y}{N m:Z}:Es B (2 ^ N - 1) m↔D4 B N m []:=by
 have ht:∀i,(2 ^ N - 1).testBit i=decide (i<N):=fun i=>yN N i
 constructor
 ·rintro⟨f,f1,f2⟩
  exact⟨f,fun j h=>by simp at h,fun j hj=>f1 j (by rw[ht]; simpa using hj),fun i j hi hj hne e=>f2 i j (by rw[ht]; simpa using hi) (by rw[ht]; simpa using hj) hne e⟩
 ·rintro⟨f,_,f1,f2⟩
  exact⟨f,fun j hj=>f1 j (by rw[ht] at hj; simpa using hj),fun i j hi hj hne e=>f2 i j (by rw[ht] at hi; simpa using hi) (by rw[ht] at hj; simpa using hj) hne e⟩
theorem Bw(n lo hi:X):Aw n lo hi=O (decide (lo≤n)&&decide (n≤hi)):=by
 unfold Aw;by_cases h:lo≤n<;>simp[h]
theorem DC(n lo hi:X):BV n lo hi=O (decide (lo≤n)&&decide (n≤hi)):=by
 unfold BV;by_cases h:lo≤n<;>simp[h]
theorem Ei{n bytes:Z}(h:n≤1048576)(hb:bytes≤1000):BQ (n:X) (n:X) bytes=O n:=by
 unfold BQ
 have:(n:X)*(bytes:X)≤140737488355328:=by
  have:n*bytes≤1048576*1000:=yW h hb;have e:((n*bytes:Z):X)=(n:X)*(bytes:X):=by simp
  omega
 rw[if_pos ⟨by omega,by omega,this,by omega⟩];simp
theorem EQ{n:Z}(h:n≤1048576):n≤maxLen:=by rw[Az]; omega
theorem A21{xs:Q X}(h:xs.length≤1048576):NJ xs=O xs:=by
 unfold NJ;rw[Ei h (by omega)];have:=Gk (L:=IH xs) xs id (EQ h) (fun n i acc hi ha=>by simp[IH,An,hi,ha]) (fun n acc=>by simp[IH]) (zI xs.length 0) (by simp);simpa using this
theorem Xt{xs ys:Q X}(h:xs.length≤maxLen):Fu xs ys=O (decide (xs=ys)):=by
 unfold Fu;by_cases hl:xs.length=ys.length
 ·have:=HO (L:=Iw xs ys) xs ys h hl (fun n i h1 h2=>by simp[Iw,An,h1,h2]) (fun n=>by simp[Iw]);simp[hl,this]
 ·have:¬(xs.length:X)=ys.length:=by omega
  have:xs≠ys:=fun e=>hl (by rw[e])
  simp_all
theorem FX{α:Type}{row:α→Q D}{xs:Q α}(h:(D.sl (kD row xs)).Ok):xs.length≤maxLen:=by simpa using h.sl.1
theorem Hc(n:X):D5 n=O (decide (0≤n)&&decide (n≤2880)):=by simp[D5,DC]
theorem XN{len:Z}(p:Z→Y)(K:U Y):∀(k i:Z),(yK i k).foldr (fun i r=>if p i=E then r else O G) K=if(yK i k).all p=E then K else O G
 | 0,i=>by simp
 | k+1,i=>by
  rw[kN,kF,XN (len:=len) p K k (i+1),List.all_cons];cases p i<;>rfl
theorem XO{len:Z}(p:Z→Y)(K:U Y):∀(k i:Z),(yK i k).foldr (fun i r=>if p i=E then O G else r) K=if(yK i k).any p=E then O G else K
 | 0,i=>by simp
 | k+1,i=>by
  rw[kN,kF,XO (len:=len) p K k (i+1),List.any_cons];cases p i<;>rfl
theorem Gg{L:Z→X→U Y}(len:Z)(p:Z→Y)(K:U Y)(hl:len≤maxLen)
  (hs:∀(n i:Z),i<len→L (n+1) (i:X)=if p i=E then L n (kY .i64 ((i:X)+1)) else O G) (he:∀n,L (n+1) (len:X)=K):L bigN 0=if(zL len).all p=E then K else O G:=by
 have:=JJ L len hl (fun i r=>if p i=E then r else O G) K hs he len 0 bigN (by omega) (Bp hl);rw[XN (len:=len),← List.range_eq_range'] at this
 exact this
theorem Wi{L:Z→X→U Y}(len:Z)(p:Z→Y)(K:U Y)(hl:len≤maxLen)
  (hs:∀(n i:Z),i<len→L (n+1) (i:X)=if p i=E then O G else L n (kY .i64 ((i:X)+1))) (he:∀n,L (n+1) (len:X)=K):L bigN 0=if(zL len).any p=E then O G else K:=by
 have:=JJ L len hl (fun i r=>if p i=E then O G else r) K hs he len 0 bigN (by omega) (Bp hl);rw[XO (len:=len),← List.range_eq_range'] at this
 exact this
def JG(s:Q I)(i:Z):Y:=match s[i]? with
 | some b=>(decide (97≤(b.toNat:X))&&decide ((b.toNat:X)≤122)) || (!(decide (i=0))&&(decide (48≤(b.toNat:X))&&decide ((b.toNat:X)≤57)))
 | none=>G
def Pq(s:Q I):Y:=decide (1≤(s.length:X))&&decide ((s.length:X)≤8)
def EM(s:Q I):Y:=Pq s&&(zL s.length).all (JG s)
theorem aX(c:X)(K:U Y)(z':Y)(z:X)(i:Z)(hz:z=(i:X)) :
  (if decide (97≤c)=E then(if decide (c≤122)=E then K else if(z==0)=E then O G else if decide (c<48)=E then O G else if decide (57<c)=E then O G else K)
   else if G=E then K else if(z==0)=E then O G else if decide (c<48)=E then O G else if decide (57<c)=E then O G else K) =
  if((decide (97≤c)&&decide (c≤122)) || (!(decide (i=0))&&(decide (48≤c)&&decide (c≤57))))=E then K else O G:=by
 subst hz;have e0:(((i:Z):X)==0)=decide (i=0):=by rw[zR]; simp
 have e1:decide (c<48)= !decide (48≤c):=by rw[zR]; simp
 have e2:decide (57<c)= !decide (c≤57):=by rw[zR]; simp
 rw[e0,e1,e2];cases decide (i=0)<;>cases decide (97≤c)<;>cases decide (c≤122)<;>cases decide (48≤c)<;>cases decide (c≤57)<;>rfl
theorem be{s:Q I}(h:s.length≤maxLen):Lf s=O (EM s):=by
 unfold Lf;rw[Gg (L:=GO s) s.length (JG s) (O (Pq s)) h (fun n i hi=> ?_) (fun n=>by simp[GO,Bw,Pq])]
 ·unfold EM;cases(zL s.length).all (JG s)<;>simp
 ·simp only[GO,O2,O3,An,JG,zC hi,zB,Ag,hi,decide_true,if_true];exact aX _ _ E (i:X) i zA
theorem Zq{s:Q I}(h:s.length≤maxLen):Kr s=O (EM s):=by
 unfold Kr;rw[DC];rw[Gg (L:=Gr s) s.length (JG s) (O E) h (fun n i hi=> ?_) (fun n=>by simp[Gr])]
 ·unfold EM Pq;simp only[zB];cases(zL s.length).all (JG s)<;>cases(decide (1≤(s.length:X))&&decide ((s.length:X)≤8))<;>simp
 ·simp only[Gr,Mz,MA,An,JG,zC hi,zB,Ag,hi,decide_true,if_true];exact aX _ _ E (i:X) i zA
theorem OK{R:Type}(p:Z→Y)(f:Z→R)(z:R):∀(k i:Z),(yK i k).foldr (fun i r=>if p i=E then O (f i) else r) (O z)=O ((yK i k).foldr (fun i r=>if p i=E then f i else r) z)
 | 0,i=>by simp
 | k+1,i=>by
  rw[kN,kF,OK p f z k (i+1),kF];cases p i<;>simp
def Pz(xs:Q X7)(s:Q I)(i:Z):Y:=match xs[i]? with
 | some x=>decide (x.Name=s)
 | none=>G
def PA(xs:Q X7)(s:Q I):X:=(yK 0 xs.length).foldr (fun i r=>if Pz xs s i=E then(i:X) else r) (-1)
theorem A04{c:X1}{s:Q I}(h:c.Points.length≤maxLen):Oe c s=O (PA c.Points s):=by
 unfold Oe;exact(JJ (Ja s c) c.Points.length h (fun i r=>if Pz c.Points s i=E then O (i:X) else r) (O (-1)) (fun n i hi=>by simp[Ja,An,hi,Pz]) (fun n=>by simp[Ja]) c.Points.length 0 bigN (by omega) (Bp h)).trans (OK _ _ _ _ _)
theorem tq{c:X1}{s:Q I}(h:c.Points.length≤maxLen):MK c s=O (PA c.Points s):=by
 unfold MK;exact(JJ (I5 s c) c.Points.length h (fun i r=>if Pz c.Points s i=E then O (i:X) else r) (O (-1)) (fun n i hi=>by simp[I5,An,hi,Pz]) (fun n=>by simp[I5]) c.Points.length 0 bigN (by omega) (Bp h)).trans (OK _ _ _ _ _)
def jn(y:X2)(a b:X):Y:=(decide (y.A=a)&&decide (y.B=b)) || (decide (y.A=b)&&decide (y.B=a))
theorem A1d(y:X2)(a b:X):Ot y a b=O (jn y a b):=by
 unfold Ot jn;by_cases h1:y.A=a<;>by_cases h2:y.B=b<;>by_cases h3:y.A=b<;>by_cases h4:y.B=a<;>simp_all
theorem uB(y:X2)(a b:X):MM y a b=O (jn y a b):=by
 unfold MM jn;by_cases h1:y.A=a<;>by_cases h2:y.B=b<;>by_cases h3:y.A=b<;>by_cases h4:y.B=a<;>simp_all
theorem A2f{xs:Q X}{l:X}(h0:0≤l)(h1:l≤1048576)(hx:xs.length≤maxLen):∃r,Nz xs l=O r∧(0≤r→r≤l∧xs.length≤1048576):=by
 unfold Nz;rw[Az] at hx
 rw[Ao (by omega) (by omega)];by_cases h:l - (xs.length:X)<0
 ·exact⟨-1,by simp[h],by omega⟩
 ·exact⟨l - xs.length,by simp[h],by omega⟩
theorem Jx(i n:X):Bo i n=O (decide (0≤i)&&decide (i<n)):=by
 unfold Bo;by_cases h:0≤i<;>simp[h]
def idx(i:X)(n:Z):Y:=decide (0≤i)&&decide (i<(n:X))
theorem Uc(i:X){n:Z}(h:n≤1000):(decide (0≤i)&&decide (i≤kY .i64 ((n:X) - 1)))=idx i n:=by
 rw[Ao (by omega) (by omega)];unfold idx;congr 1
 rw[zR];simp;omega
def DX(c:X1)(i:Z):Y:=match c.Segments[i]? with
 | some x=>idx x.A c.Points.length&&(idx x.B c.Points.length&&(!(decide (x.A=x.B))&&((decide (0≤x.Depth)&&decide (x.Depth≤3000))&&((decide (1≤x.Minutes)&&decide (x.Minutes≤240))&& !((zL i).any fun j=>match c.Segments[j]? with | some y=>jn y x.A x.B | none=>G)))))
 | none=>G
def Hu(c:X1)(i:Z):Y:=match c.Points[i]? with
 | some x=>EM x.Name&&decide (PA c.Points x.Name=(i:X))
 | none=>G
def AF(c:X1):Y:=decide (c.Points.length≤8)&&(decide (c.Segments.length≤10)&&((zL c.Points.length).all (Hu c)&&(zL c.Segments.length).all (DX c)))
theorem E3{n i:Z}(h:i≤n):bnd (n:X) (i:X) (0:X) n=O (0,i):=by
 unfold bnd;rw[if_pos ⟨by omega,by omega,by omega,by omega⟩];simp
theorem cW{α:Type}{l:Q α}{i j:Z}(hj:j<i):(l.take i)[j]?=l[j]?:=by simp[List.getElem?_take,hj]
theorem DB{c:X1}(hn:∀x∈c.Points,x.Name.length≤maxLen):D6 c=O (AF c):=by
 unfold D6 AF;by_cases h1:c.Points.length≤8
 ·have h1':¬(8:X)<c.Points.length:=by omega
  by_cases h2:c.Segments.length≤10
  ·have h2':¬(10:X)<c.Segments.length:=by omega
   have hp:c.Points.length≤maxLen:=by rw[Az]; omega
   have hs:c.Segments.length≤maxLen:=by rw[Az]; omega
   have inner:EF c bigN 0=O ((zL c.Segments.length).all (DX c)):=by
    rw[Gg (L:=EF c) c.Segments.length (DX c) (O E) hs (fun n i hi=> ?_) (fun n=>by simp[EF])]
    ·cases(zL c.Segments.length).all (DX c)<;>rfl
    ·simp only[EF,An,zC hi,zB,Ag,hi,decide_true,if_true,Bw,Uc _ (show c.Points.length≤1000 by omega),E3 (Nat.le_of_lt hi),DX,yX,kO];have hl:(c.Segments.take i).length=i:=by simp; omega
     rw[hl]
     rw[Wi (L:=IV c i c.Segments[i] (c.Segments.take i) (i:X) (EF c n)) i (fun j=>match c.Segments[j]? with | some y=>jn y c.Segments[i].A c.Segments[i].B | none=>G)
      (EF c n (kY .i64 ((i:X)+1))) (by omega) (fun m j hj=>by
       have hj2:j<c.Segments.length:=by omega
       simp only[IV,An,cW hj,zC hj2,zB,Ag,hj,decide_true,if_true,A1d]) (fun m=>by simp[IV])]
     have e:(c.Segments[i].A==c.Segments[i].B)=decide (c.Segments[i].A=c.Segments[i].B):=rfl;rw[e]
     cases idx c.Segments[i].A c.Points.length<;>cases idx c.Segments[i].B c.Points.length<;>cases decide (c.Segments[i].A=c.Segments[i].B)<;>cases(decide (0≤c.Segments[i].Depth)&&decide (c.Segments[i].Depth≤3000)) <;>
      cases(decide (1≤c.Segments[i].Minutes)&&decide (c.Segments[i].Minutes≤240))<;>cases((zL i).any fun j=>match c.Segments[j]? with | some y=>jn y c.Segments[i].A c.Segments[i].B | none=>G)<;>rfl
   rw[Gg (L:=IU c) c.Points.length (Hu c) _ hp (fun n i hi=> ?_) (fun n=>by simp only[IU,Int.lt_irrefl,decide_false,zD,if_false]; exact inner)]
   ·simp only[h1,h2,h1',h2',decide_true,decide_false,zQ,zD,if_false];cases(zL c.Points.length).all (Hu c)<;>rfl
   ·simp only[IU,An,zC hi,zB,Ag,hi,decide_true,if_true,be (hn _ (zF hi)),A04 hp,Hu];by_cases e:PA c.Points c.Points[i].Name=(i:X)<;>cases EM c.Points[i].Name<;>simp[e]
  ·have h2':(10:X)<c.Segments.length:=by omega
   simp[h1,h1',h2,h2']
 ·have h1':(8:X)<c.Points.length:=by omega
  simp[h1,h1']
theorem EL{c:X1}(hn:∀x∈c.Points,x.Name.length≤maxLen):Dn c=O (AF c):=by
 unfold Dn AF;by_cases h1:c.Points.length≤8
 ·have h1':¬(8:X)<c.Points.length:=by omega
  by_cases h2:c.Segments.length≤10
  ·have h2':¬(10:X)<c.Segments.length:=by omega
   have hp:c.Points.length≤maxLen:=by rw[Az]; omega
   have hs:c.Segments.length≤maxLen:=by rw[Az]; omega
   have inner:EA c bigN 0=O ((zL c.Segments.length).all (DX c)):=by
    rw[Gg (L:=EA c) c.Segments.length (DX c) (O E) hs (fun n i hi=> ?_) (fun n=>by simp[EA])]
    ·cases(zL c.Segments.length).all (DX c)<;>rfl
    ·simp only[EA,An,zC hi,zB,Ag,hi,decide_true,if_true,DC,Jx,show ∀(a:X) (n:Z),(decide (0≤a)&&decide (a<(n:X)))=idx a n from fun _ _=>rfl,E3 (Nat.le_of_lt hi),DX,yX,kO];have hl:(c.Segments.take i).length=i:=by simp; omega
     rw[hl]
     rw[Wi (L:=HQ c i c.Segments[i] (c.Segments.take i) (i:X) (EA c n)) i (fun j=>match c.Segments[j]? with | some y=>jn y c.Segments[i].A c.Segments[i].B | none=>G)
      (EA c n (kY .i64 ((i:X)+1))) (by omega) (fun m j hj=>by
       have hj2:j<c.Segments.length:=by omega
       simp only[HQ,An,cW hj,zC hj2,zB,Ag,hj,decide_true,if_true,uB]) (fun m=>by simp[HQ])]
     have e:(c.Segments[i].A==c.Segments[i].B)=decide (c.Segments[i].A=c.Segments[i].B):=rfl;rw[e]
     cases idx c.Segments[i].A c.Points.length<;>cases idx c.Segments[i].B c.Points.length<;>cases decide (c.Segments[i].A=c.Segments[i].B)<;>cases(decide (0≤c.Segments[i].Depth)&&decide (c.Segments[i].Depth≤3000)) <;>
      cases(decide (1≤c.Segments[i].Minutes)&&decide (c.Segments[i].Minutes≤240))<;>cases((zL i).any fun j=>match c.Segments[j]? with | some y=>jn y c.Segments[i].A c.Segments[i].B | none=>G)<;>rfl
   rw[Gg (L:=HP c) c.Points.length (Hu c) _ hp (fun n i hi=> ?_) (fun n=>by simp only[HP,Int.lt_irrefl,decide_false,zD,if_false]; exact inner)]
   ·simp only[h1,h2,h1',h2',decide_true,decide_false,zQ,zD,if_false];cases(zL c.Points.length).all (Hu c)<;>rfl
   ·simp only[HP,An,zC hi,zB,Ag,hi,decide_true,if_true,Zq (hn _ (zF hi)),tq hp,Hu];by_cases e:PA c.Points c.Points[i].Name=(i:X)<;>cases EM c.Points[i].Name<;>simp[e]
  ·have h2':(10:X)<c.Segments.length:=by omega
   simp[h1,h1',h2,h2']
 ·have h1':(8:X)<c.Points.length:=by omega
  simp[h1,h1']
theorem A23{xs:Q X7}(h:xs.length≤1048576):NL xs=O xs:=by
 unfold NL;rw[Ei h (by omega)];have:=Gk (L:=IJ xs) xs id (EQ h) (fun n i acc hi ha=>by simp[IJ,An,hi,ha,QI]) (fun n acc=>by simp[IJ]) (zI xs.length ⟨[],G⟩) (by simp);simpa using this
theorem A24{xs:Q X2}(h:xs.length≤1048576):NM xs=O xs:=by
 unfold NM;rw[Ei h (by omega)];have:=Gk (L:=IK xs) xs id (EQ h) (fun n i acc hi ha=>by simp[IK,An,hi,ha,QK]) (fun n acc=>by simp[IK]) (zI xs.length ⟨0,0,0,0,G⟩) (by simp);simpa using this
theorem A2v{c:X1}(h1:c.Points.length≤1048576)(h2:c.Segments.length≤1048576):NH c=O c:=by
 simp[NH,A23 h1,A24 h2]
theorem pg(x y:X7):Nl x y=O (decide (x=y)):=by
 unfold Nl;cases x; cases y;simp only[X7.mk.injEq];repeat' split
 all_goals simp_all
theorem pf{xs ys:Q X7}(h:xs.length≤maxLen):Nm xs ys=O (decide (xs=ys)):=by
 unfold Nm;by_cases hl:xs.length=ys.length
 ·have:=HO (L:=Iy xs ys) xs ys h hl (fun n i h1 h2=>by simp[Iy,An,h1,h2,pg]) (fun n=>by simp[Iy]);simp[hl,this]
 ·have:¬(xs.length:X)=ys.length:=by omega
  have:xs≠ys:=fun e=>hl (by rw[e])
  simp_all
theorem pi(x y:X2):Nn x y=O (decide (x=y)):=by
 unfold Nn;cases x; cases y;simp only[X2.mk.injEq];repeat' split
 all_goals simp_all
theorem ph{xs ys:Q X2}(h:xs.length≤maxLen):Np xs ys=O (decide (xs=ys)):=by
 unfold Np;by_cases hl:xs.length=ys.length
 ·have:=HO (L:=Iz xs ys) xs ys h hl (fun n i h1 h2=>by simp[Iz,An,h1,h2,pi]) (fun n=>by simp[Iz]);simp[hl,this]
 ·have:¬(xs.length:X)=ys.length:=by omega
  have:xs≠ys:=fun e=>hl (by rw[e])
  simp_all
theorem pQ{c:X1}(h1:c.Points.length≤maxLen)(h2:c.Segments.length≤maxLen):Nf c c=O E:=by
 simp[Nf,pf h1,ph h2]
theorem A2i{x:X7}{l:X}(h0:0≤l)(h1:l≤1048576)(hx:x.Name.length≤maxLen):∃r,NB x l=O r∧(0≤r→r≤l):=by
 unfold NB;rw[Az] at hx
 rw[Ao (by omega) (by omega)];by_cases h:l - (x.Name.length:X)<0
 ·exact⟨-1,by simp[h],by omega⟩
 ·exact⟨l - x.Name.length,by simp[h],by omega⟩
theorem A2h{xs:Q X7}{l:X}(h0:0≤l)(h1:l≤1048576)(hx:xs.length≤maxLen)(hn:∀x∈xs,x.Name.length≤maxLen):∃r,NC xs l=O r∧(0≤r→r≤l∧xs.length≤1048576):=by
 unfold NC;have hx':=hx;rw[Az] at hx'
 rw[Ao (by omega) (by omega)];by_cases h:l - (xs.length:X)<0
 ·exact⟨-1,by simp[h],by omega⟩
 ·have key:∀(k i n:Z) (v:X),i+k=xs.length→k<n→0≤v→v≤l→∃r,GD xs n v (i:X)=O r∧(0≤r→r≤l):=by
   intro k
   induction k with
   | zero=>
    intro i n v hi hn2 hv hv2;obtain⟨m,rfl⟩:∃m,n=m+1:=⟨n - 1,by omega⟩;have:i=xs.length:=by omega
    subst this;exact⟨v,by simp[GD],fun _=>hv2⟩
   | succ k ih=>
    intro i n v hi hn2 hv hv2;obtain⟨m,rfl⟩:∃m,n=m+1:=⟨n - 1,by omega⟩;have hlt:i<xs.length:=by omega
    obtain⟨r,e,hr⟩:=A2i (x:=xs[i]) hv (by omega) (hn _ (zF hlt));by_cases hr0:r<0
    ·exact⟨-1,by simp[GD,An,hlt,e,hr0],by omega⟩
    ·obtain⟨r2,e2,h2⟩:=ih (i+1) m r (by omega) (by omega) (by omega) (by have:=hr (by omega); omega);refine⟨r2,?_,h2⟩;rw[← Am hlt hx] at e2
     simp only[GD,An,zC hlt,zB,Ag,hlt,decide_true,if_true,e,hr0,decide_false,zD,if_false];exact e2
  obtain⟨r,e,hr⟩:=key xs.length 0 bigN (l - xs.length) (by omega) (Bp hx) (by omega) (by omega);refine⟨r,?_,fun h=>⟨hr h,by omega⟩⟩;simp only[h,decide_false,zD,if_false];exact e
theorem A2j{xs:Q X2}{l:X}(h0:0≤l)(h1:l≤1048576)(hx:xs.length≤maxLen):∃r,ND xs l=O r∧(0≤r→r≤l∧xs.length≤1048576):=by
 unfold ND;rw[Az] at hx
 rw[Ao (by omega) (by omega)];by_cases h:l - (xs.length:X)<0
 ·exact⟨-1,by simp[h],by omega⟩
 ·exact⟨l - xs.length,by simp[h],by omega⟩
theorem A2b{c:X1}{l:X}(h0:0≤l)(h1:l≤1048576)(hp:c.Points.length≤maxLen)(hs:c.Segments.length≤maxLen)(hn:∀x∈c.Points,x.Name.length≤maxLen) :
  ∃r,Nv c l=O r∧(0≤r→r≤l∧c.Points.length≤1048576∧c.Segments.length≤1048576):=by
 unfold Nv;obtain⟨r,e,h⟩:=A2h h0 h1 hp hn;by_cases hr:r<0
 ·exact⟨-1,by simp[e,hr],by omega⟩
 ·obtain⟨k1,k2⟩:=h (by omega);obtain⟨r',e',h'⟩:=A2j (xs:=c.Segments) (l:=r) (by omega) (by omega) hs;by_cases hr':r'<0
  ·exact⟨-1,by simp[e,hr,e',hr'],by omega⟩
  ·obtain⟨k3,k4⟩:=h' (by omega);exact⟨r',by simp[e,hr,e',hr'],fun _=>⟨by omega,k2,k4⟩⟩
def CF(s:X4):Y:=EM s.Name&&((decide (10≤s.Length)&&decide (s.Length≤400))&&((decide (100≤s.Draught)&&decide (s.Draught≤2000))&&((decide (0≤s.Line)&&decide (s.Line≤3))&&(decide (0≤s.Tugs)&&decide (s.Tugs≤4)))))
theorem Zn(a b:Y):(if a=E then O b else O G)=O (a&&b):=by cases a<;>rfl
theorem LW{s:X4}(h:s.Name.length≤maxLen):Ea s=O (CF s):=by
 simp only[Ea,be h,Bw,zB,Zn,CF]
theorem Hb{s:X4}(h:s.Name.length≤maxLen):EB s=O (CF s):=by
 have e:(decide (0≤s.Line)&&decide (s.Line<4))=(decide (0≤s.Line)&&decide (s.Line≤3)):=by
  congr 1
  rw[zR]; simp; omega
 simp only[EB,Zq h,DC,Jx,zB,Zn,CF,e]
def PF(xs:Q X4)(s:Q I)(i:Z):Y:=match xs[i]? with
 | some x=>decide (x.Name=s)
 | none=>G
def PG(xs:Q X4)(s:Q I):X:=(yK 0 xs.length).foldr (fun i r=>if PF xs s i=E then(i:X) else r) (-1)
theorem A05{xs:Q X4}{s:Q I}(h:xs.length≤maxLen):Og xs s=O (PG xs s):=by
 unfold Og;exact(JJ (Jd s xs) xs.length h (fun i r=>if PF xs s i=E then O (i:X) else r) (O (-1)) (fun n i hi=>by simp[Jd,An,hi,PF]) (fun n=>by simp[Jd]) xs.length 0 bigN (by omega) (Bp h)).trans (OK _ _ _ _ _)
theorem tr{xs:Q X4}{s:Q I}(h:xs.length≤maxLen):MO xs s=O (PG xs s):=by
 unfold MO;exact(JJ (I8 s xs) xs.length h (fun i r=>if PF xs s i=E then O (i:X) else r) (O (-1)) (fun n i hi=>by simp[I8,An,hi,PF]) (fun n=>by simp[I8]) xs.length 0 bigN (by omega) (Bp h)).trans (OK _ _ _ _ _)
def Lv(xs:Q X4)(i:Z):Y:=match xs[i]? with
 | some x=>CF x&&decide (PG xs x.Name=(i:X))
 | none=>G
def DN(xs:Q X4):Y:=decide (xs.length≤6)&&(zL xs.length).all (Lv xs)
theorem Mc(a b:X):(a !=b)= !decide (a=b):=rfl
theorem ba{xs:Q X4}(hn:∀x∈xs,x.Name.length≤maxLen):Lb xs=O (DN xs):=by
 unfold Lb DN;by_cases h:xs.length≤6
 ·have h':¬(6:X)<xs.length:=by omega
  have hm:xs.length≤maxLen:=by rw[Az]; omega
  simp only[h,h',decide_true,decide_false,zD,if_false,zQ];refine M9 (L:=J2 xs) xs.length (Lv xs) hm (fun n i hi=> ?_) (fun n=>by simp[J2]);simp only[J2,Ag,hi,decide_true,if_true,Ac hi,zB,LW (hn _ (zF hi)),A05 hm,Lv,zC hi,Mc];cases CF xs[i]<;>by_cases e:PG xs xs[i].Name=(i:X)<;>simp[e]
 ·have h':(6:X)<xs.length:=by omega
  simp[h,h']
theorem Zp{xs:Q X4}(hn:∀x∈xs,x.Name.length≤maxLen):Kn xs=O (DN xs):=by
 unfold Kn DN;by_cases h:xs.length≤6
 ·have h':¬(6:X)<xs.length:=by omega
  have hm:xs.length≤maxLen:=by rw[Az]; omega
  simp only[h,h',decide_true,decide_false,zD,if_false,zQ];refine M9 (L:=I0 xs) xs.length (Lv xs) hm (fun n i hi=> ?_) (fun n=>by simp[I0]);simp only[I0,Ag,hi,decide_true,if_true,Ac hi,zB,Hb (hn _ (zF hi)),tr hm,Lv,zC hi,Mc];cases CF xs[i]<;>by_cases e:PG xs xs[i].Name=(i:X)<;>simp[e]
 ·have h':(6:X)<xs.length:=by omega
  simp[h,h']
theorem OJ{xs:Q X4}(h:DN xs=E):xs.length≤6∧∀x∈xs,CF x=E:=by
 simp only[DN,zE,decide_eq_true_eq,yB,kJ] at h;refine⟨h.1,fun x hx=> ?_⟩;obtain⟨i,hi,rfl⟩:=zN hx;have:=h.2 i hi;simp only[Lv,zC hi,zE] at this
 exact this.1
def AG(x:X2)(s:X4):X:=if s.Slow=E then kY .i64 (2*x.Minutes) else x.Minutes
theorem PJ(x:X2)(s:X4):FN x s=O (AG x s):=by unfold FN AG; split<;>rfl
theorem OU(x:X2)(s:X4):Fj s x=O (AG x s):=by unfold Fj AG; split<;>rfl
def At(c:X1)(i:X):X2:=c.Segments[i.toNat]?.getD ⟨0,0,0,0,G⟩
def AO(l:Q X4)(i:X):X4:=l[i.toNat]?.getD ⟨[],0,0,0,0,G⟩
theorem OV{α:Type}{l:Q α}{i:X}(d:α)(h:idx i l.length=E):ix l i=O (l[i.toNat]?.getD d)∧l[i.toNat]?.getD d∈l:=by
 simp only[idx,zE,decide_eq_true_eq] at h;obtain⟨k,rfl⟩:∃k:Z,i=(k:X):=⟨i.toNat,by omega⟩;have hk:k<l.length:=by omega
 have e:l[((k:Z):X).toNat]?.getD d=l[k]:=by simp[hk]
 rw[Ac hk,e];exact⟨zA,zF hk⟩
theorem BP{c:X1}{i:X}(h:idx i c.Segments.length=E):ix c.Segments i=O (At c i)∧At c i∈c.Segments:=OV _ h
theorem Jz{l:Q X4}{i:X}(h:idx i l.length=E):ix l i=O (AO l i)∧AO l i∈l:=OV _ h
theorem CQ(i:X){n:Z}(h:n≤1000):Aw i 0 (kY .i64 ((n:X) - 1))=O (idx i n):=by rw[Bw,Uc i h]
theorem DO(i:X)(n:Z):Bo i (n:X)=O (idx i n):=Jx i n
theorem A25{xs:Q X4}(h:xs.length≤1048576):NN xs=O xs:=by
 unfold NN;rw[Ei h (by omega)];have:=Gk (L:=IL xs) xs id (EQ h) (fun n i acc hi ha=>by simp[IL,An,hi,ha,QL]) (fun n acc=>by simp[IL]) (zI xs.length ⟨[],0,0,0,0,G⟩) (by simp);simpa using this
theorem pk(x y:X4):Nq x y=O (decide (x=y)):=by
 unfold Nq;cases x; cases y;simp only[X4.mk.injEq];repeat' split
 all_goals simp_all
theorem pj{xs ys:Q X4}(h:xs.length≤maxLen):Nr xs ys=O (decide (xs=ys)):=by
 unfold Nr;by_cases hl:xs.length=ys.length
 ·have:=HO (L:=IA xs ys) xs ys h hl (fun n i h1 h2=>by simp[IA,An,h1,h2,pk]) (fun n=>by simp[IA]);simp[hl,this]
 ·have:¬(xs.length:X)=ys.length:=by omega
  have:xs≠ys:=fun e=>hl (by rw[e])
  simp_all
theorem A2l{x:X4}{l:X}(h0:0≤l)(h1:l≤1048576)(hx:x.Name.length≤maxLen):∃r,NE x l=O r∧(0≤r→r≤l):=by
 unfold NE;rw[Az] at hx
 rw[Ao (by omega) (by omega)];by_cases h:l - (x.Name.length:X)<0
 ·exact⟨-1,by simp[h],by omega⟩
 ·exact⟨l - x.Name.length,by simp[h],by omega⟩
theorem A2k{xs:Q X4}{l:X}(h0:0≤l)(h1:l≤1048576)(hx:xs.length≤maxLen)(hn:∀x∈xs,x.Name.length≤maxLen):∃r,NF xs l=O r∧(0≤r→r≤l∧xs.length≤1048576):=by
 unfold NF;have hx':=hx;rw[Az] at hx'
 rw[Ao (by omega) (by omega)];by_cases h:l - (xs.length:X)<0
 ·exact⟨-1,by simp[h],by omega⟩
 ·have key:∀(k i n:Z) (v:X),i+k=xs.length→k<n→0≤v→v≤l→∃r,GE xs n v (i:X)=O r∧(0≤r→r≤l):=by
   intro k
   induction k with
   | zero=>
    intro i n v hi hn2 hv hv2;obtain⟨m,rfl⟩:∃m,n=m+1:=⟨n - 1,by omega⟩;have:i=xs.length:=by omega
    subst this;exact⟨v,by simp[GE],fun _=>hv2⟩
   | succ k ih=>
    intro i n v hi hn2 hv hv2;obtain⟨m,rfl⟩:∃m,n=m+1:=⟨n - 1,by omega⟩;have hlt:i<xs.length:=by omega
    obtain⟨r,e,hr⟩:=A2l (x:=xs[i]) hv (by omega) (hn _ (zF hlt));by_cases hr0:r<0
    ·exact⟨-1,by simp[GE,An,hlt,e,hr0],by omega⟩
    ·obtain⟨r2,e2,h2⟩:=ih (i+1) m r (by omega) (by omega) (by omega) (by have:=hr (by omega); omega);refine⟨r2,?_,h2⟩;rw[← Am hlt hx] at e2
     simp only[GE,An,zC hlt,zB,Ag,hlt,decide_true,if_true,e,hr0,decide_false,zD,if_false];exact e2
  obtain⟨r,e,hr⟩:=key xs.length 0 bigN (l - xs.length) (by omega) (Bp hx) (by omega) (by omega);refine⟨r,?_,fun h=>⟨hr h,by omega⟩⟩;simp only[h,decide_false,zD,if_false];exact e
theorem A0r{xs:Q X4}(ok:(D.sl (kD X4.row xs)).Ok):xs.length≤maxLen∧∀x∈xs,x.Name.length≤maxLen:=
 ⟨FX ok,fun x hx=>(ok.sl.2 (X4.row x) (List.mem_map_of_mem hx) (.str x.Name) (by simp[X4.row_eq])).str⟩
def G5(p:X):Y:=(decide (4≤p)&&decide (p≤2880))&&(kY .i64 (yU p 4)==0)
def Hr(x:Xd):Y:=(decide (0≤x.Amp)&&decide (x.Amp≤1000))&&(G5 x.Period&&(decide (0≤x.Phase)&&decide (x.Phase≤kY .i64 (x.Period - 1))))
def F0(t:Xm):Y:=(decide (-1000≤t.Mean)&&decide (t.Mean≤1000))&&(decide (t.Parts.length≤4)&&t.Parts.all Hr)
theorem A03(x:Xd):O9 x=O (Hr x):=by
 simp only[O9,Bw,zB,Hr,G5];cases(decide (0≤x.Amp)&&decide (x.Amp≤1000))<;>cases(decide (4≤x.Period)&&decide (x.Period≤2880))<;>cases(kY .i64 (yU x.Period 4)==0)<;>rfl
theorem ZL(p:X):KF p=O (G5 p):=by
 simp only[KF,DC,zB,G5];cases(decide (4≤p)&&decide (p≤2880))<;>rfl
theorem tn(x:Xd):MH x=O (Hr x):=by
 simp only[MH,DC,ZL,zB,Hr];cases(decide (0≤x.Amp)&&decide (x.Amp≤1000))<;>cases G5 x.Period<;>rfl
theorem A08(t:Xm):Oj t=O (F0 t):=by
 simp only[Oj,Bw,zB,F0];cases(decide (-1000≤t.Mean)&&decide (t.Mean≤1000)) with
 | false=>rfl
 | true=>
  by_cases h1:t.Parts.length≤4
  ·have h1':¬(4:X)<t.Parts.length:=by omega
   rw[Eu (L:=Jf t) t.Parts Hr (by rw[Az]; omega) (fun n i hi=>by simp only[Jf,An,zC hi,zB,Ag,hi,decide_true,if_true,A03]) (fun n=>by simp[Jf])];simp[h1,h1']
  ·have h1':(4:X)<t.Parts.length:=by omega
   simp[h1,h1']
theorem tw(t:Xm):MS t=O (F0 t):=by
 simp only[MS,DC,zB,F0];cases(decide (-1000≤t.Mean)&&decide (t.Mean≤1000)) with
 | false=>rfl
 | true=>
  by_cases h1:t.Parts.length≤4
  ·have h1':¬(4:X)<t.Parts.length:=by omega
   rw[Eu (L:=I9 t) t.Parts Hr (by rw[Az]; omega) (fun n i hi=>by simp only[I9,An,zC hi,zB,Ag,hi,decide_true,if_true,tn]) (fun n=>by simp[I9])];simp[h1,h1']
  ·have h1':(4:X)<t.Parts.length:=by omega
   simp[h1,h1']
def Ga(x:Xa):Y:=(decide (0≤x.From)&&decide (x.From≤2880))&&((decide (-500≤x.Low)&&decide (x.Low≤500))&&(decide (x.Low≤x.High)&&decide (x.High≤500)))
theorem A07(x:Xa):Oi x=O (Ga x):=by
 simp only[Oi,Bw,zB,Ga];cases(decide (0≤x.From)&&decide (x.From≤2880))<;>cases(decide (-500≤x.Low)&&decide (x.Low≤500))<;>rfl
theorem tv(x:Xa):MR x=O (Ga x):=by
 simp only[MR,Hc,zB,Ga];cases(decide (0≤x.From)&&decide (x.From≤2880))
 ·rfl
 ·by_cases a1: -500≤x.Low<;>by_cases a2:x.Low≤x.High<;>by_cases a3:x.High≤500<;>by_cases a4:x.Low≤500<;>simp[a1,a2,a3,a4]
  omega
def JN(l:Q Xa)(i:Z):Y:=match l[i]? with
 | some x=>Ga x&&(match i with | 0=>E | j+1=>match l[j]? with | some y=> !(decide (x.From≤y.From)) | none=>G)
 | none=>G
def UZ(l:Q Xa):Y:=match l[0]? with
 | some x=>decide (x.From=0)
 | none=>G
def Dq(f:Xe):Y:=F0 f.Tide&&((decide (1≤(f.Surges.length:X))&&decide ((f.Surges.length:X)≤6))&&(UZ f.Surges&&(zL f.Surges.length).all (JN f.Surges)))
theorem dM(j:Z)(h:j≤1000):kY .i64 (((j+1:Z):X) - 1)=(j:X):=by
 rw[Ao (by omega) (by omega)];omega
theorem bc(f:Xe):Lc f=O (Dq f):=by
 simp only[Lc,A08,Bw,zB,Dq];cases F0 f.Tide with
 | false=>rfl
 | true=>
  cases hb:(decide (1≤(f.Surges.length:X))&&decide ((f.Surges.length:X)≤6)) with
  | false=>rfl
  | true=>
   simp only[zE,decide_eq_true_eq] at hb
   have h0:0<f.Surges.length:=by omega
   have hl:f.Surges.length≤maxLen:=by rw[Az]; omega
   rw[Gg (L:=GL f) f.Surges.length (JN f.Surges) (O E) hl (fun n i hi=> ?_) (fun n=>by simp[GL])]
   ·have e0:ix f.Surges 0=O f.Surges[0]:=Ac h0;simp only[e0,zB,UZ,zC h0,zQ,if_true];by_cases e:f.Surges[0].From=0<;>cases(zL f.Surges.length).all (JN f.Surges)<;>simp[e]
   ·simp only[GL,An,zC hi,zB,Ag,hi,decide_true,if_true,A07,JN];cases i with
    | zero=>cases Ga f.Surges[0]<;>simp
    | succ j=>
     have hj:j<f.Surges.length:=by omega
     rw[dM j (by omega)];simp only[An,zC hj,zB];have hp:(0:X)<((j+1:Z):X):=by omega
     cases Ga f.Surges[j+1]<;>cases decide (f.Surges[j+1].From≤f.Surges[j].From)<;>simp
theorem OT(f:Xe):Gp f=O (Dq f):=by
 simp only[Gp,tw,DC,zB,Dq];cases F0 f.Tide with
 | false=>rfl
 | true=>
  cases hb:(decide (1≤(f.Surges.length:X))&&decide ((f.Surges.length:X)≤6)) with
  | false=>rfl
  | true=>
   simp only[zE,decide_eq_true_eq] at hb
   have h0:0<f.Surges.length:=by omega
   have hl:f.Surges.length≤maxLen:=by rw[Az]; omega
   rw[Gg (L:=Gq f) f.Surges.length (JN f.Surges) (O E) hl (fun n i hi=> ?_) (fun n=>by simp[Gq])]
   ·have e0:ix f.Surges 0=O f.Surges[0]:=Ac h0;simp only[e0,zB,UZ,zC h0,zQ,if_true];by_cases e:f.Surges[0].From=0<;>cases(zL f.Surges.length).all (JN f.Surges)<;>simp[e]
   ·simp only[Gq,An,zC hi,zB,Ag,hi,decide_true,if_true,tv,JN];cases i with
    | zero=>cases Ga f.Surges[0]<;>simp
    | succ j=>
     have hj:j<f.Surges.length:=by omega
     rw[dM j (by omega)];simp only[An,zC hj,zB];have hp:(0:X)<((j+1:Z):X):=by omega
     cases Ga f.Surges[j+1]<;>cases decide (f.Surges[j+1].From≤f.Surges[j].From)<;>simp
def Ce(m:X):Y:=decide (0≤m)&&decide (m≤2880)
theorem A22{xs:Q Xd}(h:xs.length≤1048576):NK xs=O xs:=by
 unfold NK;rw[Ei h (by omega)];have:=Gk (L:=II xs) xs id (EQ h) (fun n i acc hi ha=>by simp[II,An,hi,ha,QH]) (fun n acc=>by simp[II]) (zI xs.length ⟨0,0,0⟩) (by simp);simpa using this
theorem A26{xs:Q Xa}(h:xs.length≤1048576):NO xs=O xs:=by
 unfold NO;rw[Ei h (by omega)];have:=Gk (L:=IM xs) xs id (EQ h) (fun n i acc hi ha=>by simp[IM,An,hi,ha,QM]) (fun n acc=>by simp[IM]) (zI xs.length ⟨0,0,0⟩) (by simp);simpa using this
theorem A2z{f:Xe}(h1:f.Tide.Parts.length≤1048576)(h2:f.Surges.length≤1048576):NI f=O f:=by
 simp[NI,QN,A22 h1,A26 h2]
theorem pc(x y:Xd):Nj x y=O (decide (x=y)):=by
 unfold Nj;cases x; cases y;simp only[Xd.mk.injEq];repeat' split
 all_goals simp_all
theorem pZ{xs ys:Q Xd}(h:xs.length≤maxLen):Nk xs ys=O (decide (xs=ys)):=by
 unfold Nk;by_cases hl:xs.length=ys.length
 ·have:=HO (L:=Ix xs ys) xs ys h hl (fun n i h1 h2=>by simp[Ix,An,h1,h2,pc]) (fun n=>by simp[Ix]);simp[hl,this]
 ·have:¬(xs.length:X)=ys.length:=by omega
  have:xs≠ys:=fun e=>hl (by rw[e])
  simp_all
theorem pp(x y:Xa):Ns x y=O (decide (x=y)):=by
 unfold Ns;cases x; cases y;simp only[Xa.mk.injEq];repeat' split
 all_goals simp_all
theorem pm{xs ys:Q Xa}(h:xs.length≤maxLen):Nt xs ys=O (decide (xs=ys)):=by
 unfold Nt;by_cases hl:xs.length=ys.length
 ·have:=HO (L:=IB xs ys) xs ys h hl (fun n i h1 h2=>by simp[IB,An,h1,h2,pp]) (fun n=>by simp[IB]);simp[hl,this]
 ·have:¬(xs.length:X)=ys.length:=by omega
  have:xs≠ys:=fun e=>hl (by rw[e])
  simp_all
theorem pT{f:Xe}(h1:f.Tide.Parts.length≤maxLen)(h2:f.Surges.length≤maxLen):Nh f f=O E:=by
 simp[Nh,QB,pZ h1,pm h2]
theorem A2g{xs:Q Xd}{l:X}(h0:0≤l)(h1:l≤1048576)(hx:xs.length≤maxLen):∃r,NA xs l=O r∧(0≤r→r≤l∧xs.length≤1048576):=by
 unfold NA;rw[Az] at hx
 rw[Ao (by omega) (by omega)];by_cases h:l - (xs.length:X)<0
 ·exact⟨-1,by simp[h],by omega⟩
 ·exact⟨l - xs.length,by simp[h],by omega⟩
theorem A2m{xs:Q Xa}{l:X}(h0:0≤l)(h1:l≤1048576)(hx:xs.length≤maxLen):∃r,NG xs l=O r∧(0≤r→r≤l∧xs.length≤1048576):=by
 unfold NG;rw[Az] at hx
 rw[Ao (by omega) (by omega)];by_cases h:l - (xs.length:X)<0
 ·exact⟨-1,by simp[h],by omega⟩
 ·exact⟨l - xs.length,by simp[h],by omega⟩
theorem A2d{f:Xe}{l:X}(h0:0≤l)(h1:l≤1048576)(hp:f.Tide.Parts.length≤maxLen)(hs:f.Surges.length≤maxLen) :
  ∃r,Nx f l=O r∧(0≤r→r≤l∧f.Tide.Parts.length≤1048576∧f.Surges.length≤1048576):=by
 unfold Nx QD;obtain⟨r,e,h⟩:=A2g h0 h1 hp;by_cases hr:r<0
 ·exact⟨-1,by simp[e,hr],by omega⟩
 ·obtain⟨k1,k2⟩:=h (by omega);obtain⟨r',e',h'⟩:=A2m (xs:=f.Surges) (l:=r) (by omega) (by omega) hs;by_cases hr':r'<0
  ·exact⟨-1,by simp[e,hr,e',hr'],by omega⟩
  ·obtain⟨k3,k4⟩:=h' (by omega);exact⟨r',by simp[e,hr,e',hr'],fun _=>⟨by omega,k2,k4⟩⟩
def Fc(w:Xn):Y:=(decide (0≤w.Tugs)&&decide (w.Tugs≤12))&&((decide (0≤w.Pilots)&&decide (w.Pilots≤12))&&(Ce w.Rest&&(decide (w.Moves.length=64)&&w.Moves.all fun x=>decide (0≤x)&&decide (x≤240))))
theorem RI(a b:Y):(if a=E then O b else O G)=O (a&&b):=by cases a<;>rfl
theorem aW{l:Q X}(h:l.length≤maxLen):H1 l bigN 0=O (l.all fun x=>decide (0≤x)&&decide (x≤240)):=
 Eu (L:=H1 l) l _ h (fun n i hi=>by simp[H1,An,hi,Bw]) (fun n=>by simp[H1])
theorem aV{l:Q X}(h:l.length≤maxLen):GA l bigN 0=O (l.all fun x=>decide (0≤x)&&decide (x≤240)):=
 Eu (L:=GA l) l _ h (fun n i hi=>by simp[GA,An,hi,DC]) (fun n=>by simp[GA])
theorem UV{w:Xn}(h:w.Moves.length≤maxLen):IY w=O (Fc w):=by
 simp only[IY,H0,Bw,zB,aW h,Fc,Ce];by_cases e:w.Moves.length=64
 ·have e':((w.Moves.length:X) !=64)=G:=by simp; omega
  simp only[e,e',zD,if_false,decide_true,zQ];cases(decide (0≤w.Tugs)&&decide (w.Tugs≤12))<;>cases(decide (0≤w.Pilots)&&decide (w.Pilots≤12))<;>cases(decide (0≤w.Rest)&&decide (w.Rest≤2880))<;>rfl
 ·have e':((w.Moves.length:X) !=64)=E:=by simp; omega
  simp only[e,e',if_true,decide_false,Bool.false_and,Bool.and_false];cases(decide (0≤w.Tugs)&&decide (w.Tugs≤12))<;>cases(decide (0≤w.Pilots)&&decide (w.Pilots≤12))<;>cases(decide (0≤w.Rest)&&decide (w.Rest≤2880))<;>rfl
theorem tj{w:Xn}(h:w.Moves.length≤maxLen):Mr w=O (Fc w):=by
 simp only[Mr,Gz,DC,Hc,zB,aV h,Fc,Ce];by_cases e:w.Moves.length=64
 ·have e':((w.Moves.length:X) !=64)=G:=by simp; omega
  simp only[e,e',zD,if_false,decide_true,zQ,zB];cases(decide (0≤w.Tugs)&&decide (w.Tugs≤12))<;>cases(decide (0≤w.Pilots)&&decide (w.Pilots≤12))<;>cases(decide (0≤w.Rest)&&decide (w.Rest≤2880))<;>rfl
 ·have e':((w.Moves.length:X) !=64)=E:=by simp; omega
  simp only[e,e',if_true,decide_false,Bool.false_and,Bool.and_false,zB];cases(decide (0≤w.Tugs)&&decide (w.Tugs≤12))<;>cases(decide (0≤w.Pilots)&&decide (w.Pilots≤12))<;>cases(decide (0≤w.Rest)&&decide (w.Rest≤2880))<;>rfl
def JK(r:Xi):Y:=decide (0≤r.Gap)&&decide (r.Gap≤60)
def AT(h:X5):Y:=Dq h.Forecast&&(AF h.Chart&&(DN h.Fleet&&(JK h.Regime&&Fc h.Crew)))
structure HSmall (h:X5):Prop where
 pn:∀x∈h.Chart.Points,x.Name.length≤maxLen
 fn:∀x∈h.Fleet,x.Name.length≤maxLen
 mv:h.Crew.Moves.length≤maxLen
theorem bd{h:X5}(s:HSmall h):Le h=O (AT h):=by
 simp only[Le,Jb,bc,DB s.pn,ba s.fn,UV s.mv,Bw,zB,RI,AT,JK]
theorem Ub{h:X5}(s:HSmall h):Ko h=O (AT h):=by
 simp only[Ko,Qo,OT,EL s.pn,Zp s.fn,tj s.mv,DC,zB,RI,AT,JK]
theorem EY{c:X1}(h:AF c=E):c.Points.length≤8∧c.Segments.length≤10∧∀x∈c.Segments,0≤x.Depth∧x.Depth≤3000∧1≤x.Minutes∧x.Minutes≤240:=by
 simp only[AF,zE,decide_eq_true_eq,yB,kJ] at h;obtain⟨h1,h2,h3,h4⟩:=h;refine⟨h1,h2,fun x hx=> ?_⟩;obtain⟨i,hi,rfl⟩:=zN hx;have:=h4 i hi;simp only[DX,zC hi,zE,decide_eq_true_eq] at this
 omega
def Cg(c:X1)(fl:Q X4)(p:X3):Y:=idx p.Ship fl.length&&(idx p.Segment c.Segments.length&&(Ce p.Start&&(decide (p.End≤2880)&&decide (p.End=kY .i64 (p.Start+AG (At c p.Segment) (AO fl p.Ship))))))
theorem bf{c:X1}{s:X4}{i:X}(hn:∀x∈c.Points,x.Name.length≤maxLen)(hs:s.Name.length≤maxLen)(h1:AF c=E)(h2:CF s=E)(h3:idx i c.Segments.length=E):Lg c i s=O (AG (At c i) s):=by
 have:=(EY h1).2.1;unfold Lg;simp only[DB hn,LW hs,h1,h2,zB,if_true,CQ i (show c.Segments.length≤1000 by omega),h3,(BP h3).1,PJ]
theorem bg{c:X1}{fl:Q X4}{p:X3}(hn:∀x∈c.Points,x.Name.length≤maxLen)(hf:∀x∈fl,x.Name.length≤maxLen)(h1:AF c=E)(h2:DN fl=E):Lj c fl p=O (Cg c fl p):=by
 unfold Lj;simp only[DB hn,ba hf,zB,h1,h2];have s1:=(EY h1).2.1;have s2:=(OJ h2).1;simp only[if_true,CQ p.Ship (show fl.length≤1000 by omega),CQ p.Segment (show c.Segments.length≤1000 by omega),zB,Bw,Cg,Ce];cases h3:idx p.Ship fl.length with
 | false=>simp
 | true=>
  cases h4:idx p.Segment c.Segments.length with
  | false=>simp
  | true=>
   cases h5:decide (0≤p.Start)&&decide (p.Start≤2880) with
   | false=>simp
   | true=>
    have hsh:=(OJ h2).2 _ (Jz h3).2;simp only[if_true,zQ,(Jz h3).1,zB,bf hn (hf _ (Jz h3).2) h1 hsh h4];by_cases e:p.End=kY .i64 (p.Start+AG (At c p.Segment) (AO fl p.Ship))<;>simp[e]
theorem uE{c:X1}{fl:Q X4}{p:X3}:N6 c fl p=O (Cg c fl p):=by
 unfold N6;simp only[DO,zB,Hc,Cg,Ce];cases h3:idx p.Ship fl.length with
 | false=>simp
 | true=>
  cases h4:idx p.Segment c.Segments.length with
  | false=>simp
  | true=>
   cases h5:decide (0≤p.Start)&&decide (p.Start≤2880) with
   | false=>simp
   | true=>
    simp only[if_true,zQ,(Jz h3).1,(BP h4).1,zB,OU];have e0:decide (2880<p.End)= !decide (p.End≤2880):=by rw[zR]; simp
    rw[e0];cases decide (p.End≤2880)<;>simp;rfl
theorem DT{c:X1}{fl:Q X4}{p:X3}(hc:AF c=E)(h:Cg c fl p=E):idx p.Ship fl.length=E∧idx p.Segment c.Segments.length=E∧0≤p.Start∧p.Start≤p.End∧p.End≤2880:=by
 simp only[Cg,Ce,zE,decide_eq_true_eq] at h;obtain⟨h3,h4,h5,h6,h7⟩:=h;refine⟨h3,h4,h5.1,?_,h6⟩;obtain⟨_,_,a,b⟩:=(EY hc).2.2 _ (BP h4).2;rw[h7];unfold AG;split
 ·rw[Ao (n:=2*_) (by omega) (by omega),Ao (by omega) (by omega)]; omega
 ·rw[Ao (by omega) (by omega)]; omega
theorem A2e{a:X5}{l:X}(h0:0≤l)(h1:l≤1048576)(q1:a.Forecast.Tide.Parts.length≤maxLen)(q2:a.Forecast.Surges.length≤maxLen)(q3:a.Chart.Points.length≤maxLen)(q4:a.Chart.Segments.length≤maxLen)(q5:a.Fleet.length≤maxLen)(s:HSmall a) :
  ∃r,Ny a l=O r∧(0≤r→r≤l∧a.Forecast.Tide.Parts.length≤1048576∧a.Forecast.Surges.length≤1048576∧a.Chart.Points.length≤1048576∧a.Chart.Segments.length≤1048576∧a.Fleet.length≤1048576∧a.Crew.Moves.length≤1048576):=by
 unfold Ny QC;obtain⟨r1,e1,k1⟩:=A2d (f:=a.Forecast) h0 h1 q1 q2;by_cases c1:r1<0
 ·exact⟨-1,by simp[e1,c1],by omega⟩
 obtain⟨b1,b2,b3⟩:=k1 (by omega);obtain⟨r2,e2,k2⟩:=A2b (c:=a.Chart) (l:=r1) (by omega) (by omega) q3 q4 s.pn;by_cases c2:r2<0
 ·exact⟨-1,by simp[e1,c1,e2,c2],by omega⟩
 obtain⟨b4,b5,b6⟩:=k2 (by omega);obtain⟨r3,e3,k3⟩:=A2k (xs:=a.Fleet) (l:=r2) (by omega) (by omega) q5 s.fn;by_cases c3:r3<0
 ·exact⟨-1,by simp[e1,c1,e2,c2,e3,c3],by omega⟩
 obtain⟨b7,b8⟩:=k3 (by omega);obtain⟨r4,e4,k4⟩:=A2f (xs:=a.Crew.Moves) (l:=r3) (by omega) (by omega) s.mv;by_cases c4:r4<0
 ·exact⟨-1,by simp[e1,c1,e2,c2,e3,c3,e4,c4],by omega⟩
 obtain⟨b9,b10⟩:=k4 (by omega);exact⟨r4,by simp[e1,c1,e2,c2,e3,c3,e4,c4],fun _=>⟨by omega,b2,b3,b5,b6,b8,b10⟩⟩
theorem A20{a:X5}(q1:a.Forecast.Tide.Parts.length≤1048576)(q2:a.Forecast.Surges.length≤1048576)(q3:a.Chart.Points.length≤1048576)(q4:a.Chart.Segments.length≤1048576)(q5:a.Fleet.length≤1048576)(q6:a.Crew.Moves.length≤1048576):GH a=O a:=by
 simp[GH,QJ,QG,A2z q1 q2,A2v q3 q4,A25 q5,A21 q6]
theorem pY{a:X5}(q1:a.Forecast.Tide.Parts.length≤maxLen)(q2:a.Forecast.Surges.length≤maxLen)(q3:a.Chart.Points.length≤maxLen)(q4:a.Chart.Segments.length≤maxLen)(q5:a.Fleet.length≤maxLen)(q6:a.Crew.Moves.length≤maxLen):Ni a a=O E:=by
 simp[Ni,QA,Qz,pT q1 q2,pQ q3 q4,pj q5,Xt q6]
theorem sj{a:X5}(ok:∀d∈X5.row a,d.Ok):a.Forecast.Tide.Parts.length≤maxLen∧a.Forecast.Surges.length≤maxLen∧a.Chart.Points.length≤maxLen∧a.Chart.Segments.length≤maxLen∧a.Fleet.length≤maxLen∧HSmall a:=by
 have h1:=ok (D.sl (kD Xd.row a.Forecast.Tide.Parts)) (by simp[X5.row_eq]);have h2:=ok (D.sl (kD Xa.row a.Forecast.Surges)) (by simp[X5.row_eq]);have h3:=ok (D.sl (kD X7.row a.Chart.Points)) (by simp[X5.row_eq]);have h4:=ok (D.sl (kD X2.row a.Chart.Segments)) (by simp[X5.row_eq]);have h5:=ok (D.sl (kD X4.row a.Fleet)) (by simp[X5.row_eq]);have h6:=ok (D.sl (kD rI a.Crew.Moves)) (by simp[X5.row_eq]);refine⟨FX h1,FX h2,FX h3,FX h4,FX h5,⟨fun x hx=> ?_,(A0r h5).2,FX h6⟩⟩;exact(h3.sl.2 (X7.row x) (List.mem_map_of_mem hx) (.str x.Name) (by simp[X7.row_eq])).str
theorem jc{m n b:Z}(h:m+n≤2000000)(hb:b≤1000):A3 m n b=E:=by
 unfold A3;rw[decide_eq_true_eq];have:(m+n)*b≤2000000*1000:=yW h hb;omega
theorem OS{α:Type}{m n b:Z}(h:m+n≤2000000)(hb:b≤1000)(x y:α):(if A3 m n b=E then x else y)=x:=by rw[if_pos (jc h hb)]
theorem F3{n:X}(h0:0≤n)(h1:n<18446744073709551616):IntKind.u64.wrap n=n:=by
 simp only[IntKind.wrap,IntKind.bits,IntKind.signed];have:n % 18446744073709551616=n:=Int.emod_eq_of_lt h0 h1;simp[this]
theorem Ek{n:Z}(h:n<2 ^ 63):kY .i64 (n:X)=n:=Ao (by omega) (by omega)
theorem LM{n:Z}(h:n<2 ^ 64):IntKind.u64.wrap (n:X)=n:=F3 (by omega) (by omega)
theorem Pn{s n:Z}(h:∀i,s.testBit i=E→i<n):s<2 ^ n:=Nat.lt_pow_two_of_testBit s fun i hi=>by
 cases hb:s.testBit i with
 | false=>rfl
 | true=>have:=h i hb; omega
theorem Wg{a b n:Z}(h:a<2 ^ n):AH a b<2 ^ n:=Pn fun i hi=>by
 rw[EZ,zE] at hi
 exact HB h hi.1
theorem Hn{w n:Z}(h:n<2 ^ w):(BitVec.ofInt w (n:X)).toNat=n:=by
 rw[BitVec.ofInt_natCast,BitVec.toNat_ofNat,Nat.mod_eq_of_lt h]
theorem WB{w a b:Z}(ha:a<2 ^ w)(hb:b<2 ^ w):(BitVec.ofInt w (a:X) &&& ~~~ BitVec.ofInt w (b:X)).toNat=AH a b:=by
 rw[BitVec.toNat_and,BitVec.toNat_not,Hn ha,Hn hb];apply yP
 intro i;rw[show 2 ^ w - 1 - b=2 ^ w - (b+1) by omega,yS,Nat.testBit_two_pow_sub_succ hb,EZ];cases hi:a.testBit i with
 | false=>rfl
 | true=>simp[HB ha hi]
theorem jU{a b:Z}(ha:a<2 ^ 63)(hb:b<2 ^ 63):Bd .and .i64 (a:X) (b:X)=((a &&& b:Z):X):=by
 show kY .i64 ((BitVec.ofInt 64 (a:X) &&& BitVec.ofInt 64 (b:X)).toNat:X)=_
 rw[BitVec.toNat_and,Hn (yD ha (by decide)),Hn (yD hb (by decide)),Ek (Nat.and_lt_two_pow a hb)]
theorem xb{a b:Z}(ha:a<2 ^ 63)(hb:b<2 ^ 63):Bd .or .i64 (a:X) (b:X)=((a ||| b:Z):X):=by
 show kY .i64 ((BitVec.ofInt 64 (a:X) ||| BitVec.ofInt 64 (b:X)).toNat:X)=_
 rw[BitVec.toNat_or,Hn (yD ha (by decide)),Hn (yD hb (by decide)),Ek (yZ ha hb)]
theorem We{a b:Z}(ha:a<2 ^ 63)(hb:b<2 ^ 63):Bd .andNot .i64 (a:X) (b:X)=((AH a b:Z):X):=by
 show kY .i64 ((BitVec.ofInt 64 (a:X) &&& ~~~ BitVec.ofInt 64 (b:X)).toNat:X)=_
 rw[WB (yD ha (by decide)) (yD hb (by decide)),Ek (Wg ha)]
theorem UE{a b:Z}(ha:a<2 ^ 64)(hb:b<2 ^ 64):Bd .or .u64 (a:X) (b:X)=((a ||| b:Z):X):=by
 show IntKind.u64.wrap ((BitVec.ofInt 64 (a:X) ||| BitVec.ofInt 64 (b:X)).toNat:X)=_
 rw[BitVec.toNat_or,Hn ha,Hn hb,LM (yZ ha hb)]
theorem Ma{a b:Z}(ha:a<2 ^ 64)(hb:b<2 ^ 64):Bd .andNot .u64 (a:X) (b:X)=((AH a b:Z):X):=by
 show IntKind.u64.wrap ((BitVec.ofInt 64 (a:X) &&& ~~~ BitVec.ofInt 64 (b:X)).toNat:X)=_
 rw[WB ha hb,LM (Wg ha)]
theorem Sp{n:Z}(h:n≤20):Bh .i64 (1:X) (n:X)=((2 ^ n:Z):X):=by
 have hp:2 ^ n<2 ^ 63:=yQ (by omega) (by omega);unfold Bh;rw[zP,show min n IntKind.i64.bits=n by simp[IntKind.bits]; omega,Int.one_mul];have:((2:X) ^ n)=((2 ^ n:Z):X):=by simp
 rw[this,Ek hp]
theorem US{n:Z}(h:n≤20):Bh .u64 (1:X) (n:X)=((2 ^ n:Z):X):=by
 have hp:2 ^ n<2 ^ 64:=yQ (by omega) (by omega);unfold Bh;rw[zP,show min n IntKind.u64.bits=n by simp[IntKind.bits]; omega,Int.one_mul];have:((2:X) ^ n)=((2 ^ n:Z):X):=by simp
 rw[this,LM hp]
theorem kp(n:Z):((n:X)==(0:X))=decide (n=0):=by
 rw[zR];simp
def ZY:Q I:= [0,1,2,2,3,3,3,3,4,4,4,4,4,4,4,4,5,5,5,5,5,5,5,5,5,5,5,5,5,5,5,5,6,6,6,6,6,6,6,6,6,6,6,6,6,6,6,6,6,6,6,6,6,6,6,6,6,6,6,6,6,6,6,6,7,7,7,7,7,7,7,7,7,7,7,7,7,7,7,7,7,7,7,7,7,7,7,7,7,7,7,7,7,7,7,7,7,7,7,7,7,7,7,7,7,7,7,7,7,7,7,7,7,7,7,7,7,7,7,7,7,7,7,7,7,7,7,7,8,8,8,8,8,8,8,8,8,8,8,8,8,8,8,8,8,8,8,8,8,8,8,8,8,8,8,8,8,8,8,8,8,8,8,8,8,8,8,8,8,8,8,8,8,8,8,8,8,8,8,8,8,8,8,8,8,8,8,8,8,8,8,8,8,8,8,8,8,8,8,8,8,8,8,8,8,8,8,8,8,8,8,8,8,8,8,8,8,8,8,8,8,8,8,8,8,8,8,8,8,8,8,8,8,8,8,8,8,8,8,8,8,8,8,8,8,8,8,8,8,8,8,8,8,8,8,8]
theorem vr(v8 v9:X):L1 v8 v9=(ix ZY (IntKind.u8.wrap v8)).bind fun b10=>O (kY .i64 (v9+(kY .i64 (b10.toNat:X)))):=rfl
def ZX(x:Z):Y:=match ZY[x]? with
 | some b=>decide (b.toNat≤8)&&(decide (x<2 ^ b.toNat)&&(x==0 || (decide (1≤b.toNat)&&decide (2 ^ (b.toNat - 1)≤x))))
 | none=>G
theorem vt:(zL 256).all ZX=E:=by kernel_rfl
theorem ZW{x:Z}(hx:x<256)(n:X):∃l:Z,L1 (x:X) n=O (kY .i64 (n+(l:X)))∧l≤8∧x<2 ^ l∧(0<x→1≤l∧2 ^ (l - 1)≤x):=by
 have h:=yB.1 vt x (by simpa using hx);unfold ZX at h;split at h
 ·rename_i b hb
  simp only[zE,decide_eq_true_eq,kU,beq_iff_eq] at h
  have hw:IntKind.u8.wrap (x:X)=(x:X):=by
   simp only[IntKind.wrap,IntKind.bits,IntKind.signed];have:(x:X) % 256=x:=Int.emod_eq_of_lt (by omega) (by omega);simp[this]
  refine⟨b.toNat,?_,h.1,h.2.1,fun h0=> ?_⟩
  ·rw[vr,hw,An,hb,zB,Ek (n:=b.toNat) (by omega)]
  ·rcases h.2.2 with h3|h3
   ·omega
   ·exact h3
 ·cases h
theorem wB{s:Z}(h1:1≤s)(h2:s<4096):∃t:Z,L0 (s:X)=O ((t+1:Z):X)∧2 ^ t≤s∧s<2 ^ (t+1)∧t<12:=by
 have key:∃l:Z,L0 (s:X)=O ((l:Z):X)∧1≤l∧2 ^ (l - 1)≤s∧s<2 ^ l:=by
  unfold L0 QO;rw[if_neg (by simp; omega)];unfold NP;rw[if_neg (by simp; omega)];unfold NQ;by_cases hs:s<256
  ·rw[if_neg (by simp; omega)];obtain⟨l,e,l8,a1,a2⟩:=ZW hs 0;obtain⟨a3,a4⟩:=a2 h1;refine⟨l,?_,a3,a4,a1⟩;rw[e,zB,Int.zero_add,Ek (by omega)]
  ·rw[if_pos (by simp; omega)]
   have e8:CG .u64 (s:X) 8=((s / 256:Z):X):=by
    unfold CG;rw[show min 8 IntKind.u64.bits=8 by rfl,Int.fdiv_eq_ediv_of_nonneg _ (by decide)];have:((s:X) / 2 ^ 8)=((s / 256:Z):X):=by simp
    rw[this,LM (by omega)]
   have e9:kY .i64 ((0:X)+8)=((8:Z):X):=by rw[Ao (by omega) (by omega)]; rfl
   rw[e8,e9];obtain⟨l,e,l8,a1,a2⟩:=ZW (x:=s / 256) (by omega) ((8:Z):X);obtain⟨a3,a4⟩:=a2 (by omega);refine⟨8+l,?_,by omega,?_,?_⟩
   ·have:((8:Z):X)+(l:X)=((8+l:Z):X):=by omega
    rw[e,zB,this,Ek (by omega)]
   ·rw[show 8+l - 1=(l - 1)+8 by omega,Nat.pow_add];omega
   ·rw[Nat.add_comm,Nat.pow_add];omega
 obtain⟨l,e,a1,a2,a3⟩:=key;obtain⟨t,rfl⟩:∃t,l=t+1:=⟨l - 1,by omega⟩;refine⟨t,e,by simpa using a2,a3,?_⟩;rcases yC t 12 with h|h
 ·exact h
 ·have:=yO (show 0<2 by omega) h;simp at a2
  omega
theorem V7{s t:Z}(h1:2 ^ t≤s)(h2:s<2 ^ (t+1)):s.testBit t=E∧AH s (2 ^ t)<2 ^ t∧(∀i,(AH s (2 ^ t)).testBit i=E→s.testBit i=E)∧(∀i,s.testBit i=E→i=t∨(AH s (2 ^ t)).testBit i=E):=by
 have hb:∀i,(AH s (2 ^ t)).testBit i=(s.testBit i&& !decide (t=i)):=fun i=>by rw[EZ,JR]
 refine⟨Nat.testBit_of_two_pow_le_and_two_pow_add_one_gt h1 h2,Pn fun i hi=> ?_,fun i hi=> ?_,fun i hi=> ?_⟩
 ·rw[hb,zE] at hi
  have:=HB h2 hi.1;have h3:t≠i:=by simpa using hi.2
  omega
 ·rw[hb,zE] at hi
  exact hi.1
 ·by_cases h:i=t
  ·exact .inl h
  ·right
   rw[hb,hi];simpa using fun e:t=i=>h e.symm
theorem G6{α β R:Type}{L:Z→X→Q β→U R}(xs:Q α)(g:α→β)(K:Q β→U R)(hl:xs.length≤maxLen)
  (hs:∀(n i:Z) (acc:Q β) (h:i<xs.length),acc.length=i→L (n+1) (i:X) acc=L n (kY .i64 ((i:X)+1)) (acc++ [g xs[i]])) (he:∀n acc,acc.length=xs.length→L (n+1) (xs.length:X) acc=K acc):L bigN 0 []=K (xs.map g):=by
 have key:∀(k i n:Z) (acc:Q β),i+k=xs.length→k<n→acc=(xs.take i).map g→L n (i:X) acc=K (xs.map g):=by
  intro k
  induction k with
  | zero=>
   intro i n acc hi hn ha;obtain⟨m,rfl⟩:∃m,n=m+1:=⟨n - 1,by omega⟩;have:i=xs.length:=by omega
   subst this;rw[yF] at ha
   rw[he m acc (by rw[ha]; simp),ha]
  | succ k ih=>
   intro i n acc hi hn ha;obtain⟨m,rfl⟩:∃m,n=m+1:=⟨n - 1,by omega⟩;have hlt:i<xs.length:=by omega
   rw[hs m i acc hlt (by rw[ha]; simp; omega),Am hlt hl];refine ih (i+1) m _ (by omega) (by omega) ?_;rw[zJ hlt,kV,ha];rfl
 exact key xs.length 0 bigN [] (by omega) (Bp hl) (by simp)
def Bn(d:Xc):Y:=decide (0≤d.From)&&(decide (d.From<d.To)&&(decide (d.To≤2880)&&((decide (0≤d.A)&&decide (d.A<8))&&(decide (0≤d.B)&&decide (d.B<8)))))
theorem UW(d:Xc):Jo d=O (Bn d):=by
 unfold Jo Bn;have e7:∀x:X,decide (x≤7)=decide (x<8):=fun x=>decide_eq_decide.2 (by omega)
 simp only[Bw,zB,e7];by_cases h2:d.From<d.To
 ·by_cases h3:d.To≤2880
  ·have h8:d.From≤2880:=by omega
   simp only[h2,h3,h8,decide_true,if_true,Bool.and_true,zQ];cases decide (0≤d.From)<;>cases(decide (0≤d.A)&&decide (d.A<8))<;>rfl
  ·simp[h2,h3]
 ·simp[h2]
theorem A0z{l:Q Xc}:NZ l=O (decide (l.length≤12)&&l.all Bn):=by
 unfold NZ;by_cases h:l.length≤12
 ·rw[if_neg (by simp; omega),Eu (L:=J1 l) l Bn (by rw[Az]; omega) (fun n i hi=>by simp[J1,An,hi,UW]) (fun n=>by simp[J1])];simp[h]
 ·rw[if_pos (by simp; omega)];simp[h]
theorem ti{R:Type}(a b c d e:Y)(x y:R):(if(!a)=E then y else if(!b)=E then y else if(!c)=E then y else if d=E then(if e=E then x else y) else y)=if(a&&(b&&(c&&(d&&e))))=E then x else y:=by
 cases a<;>cases b<;>cases c<;>cases d<;>cases e<;>rfl
theorem Ua{l:Q Xc}:HY l=O (decide (l.length≤12)&&l.all Bn):=by
 unfold HY;by_cases h:l.length≤12
 ·rw[if_neg (by simp; omega),Eu (L:=HZ l) l Bn (by rw[Az]; omega) (fun n i hi=> ?_) (fun n=>by simp[HZ])]
  ·simp[h]
  ·simp only[HZ,Ag,hi,decide_true,if_true,Ac hi,zB,Jx,Bn];generalize l[i]=d
   have g1:decide (d.From<0)= !decide (0≤d.From):=by by_cases h:0≤d.From<;>simp[h]<;>omega
   have g2:decide (d.To≤d.From)= !decide (d.From<d.To):=by by_cases h:d.From<d.To<;>simp[h]<;>omega
   have g3:decide (2880<d.To)= !decide (d.To≤2880):=by by_cases h:d.To≤2880<;>simp[h]<;>omega
   simp only[g1,g2,g3];exact ti _ _ _ _ _ _ _
 ·rw[if_pos (by simp; omega)];simp[h]
def ET(m:Q X):Y:=decide (m.length=64)&&m.all fun x=>decide (0≤x)&&decide (x≤240)
def DY(p:X)(m:Q X):Y:=Ce p&&ET m
theorem bh{p:X}{m:Q X}(h:m.length≤maxLen):H0 p m=O (DY p m):=by
 unfold H0 DY ET Ce;rw[Bw,zB,aW h];by_cases h1:m.length=64
 ·cases(decide (0≤p)&&decide (p≤2880))<;>simp[h1]
 ·have:((m.length:X) !=64)=E:=by simpa using(by omega:¬((m.length:X)=64))
  cases(decide (0≤p)&&decide (p≤2880))<;>simp[h1,this]
theorem Zv{m:Q X}(h:m.length≤maxLen):Gz m=O (ET m):=by
 unfold Gz ET;rw[aV h];by_cases h1:m.length=64
 ·simp[h1]
 ·have:((m.length:X) !=64)=E:=by simpa using(by omega:¬((m.length:X)=64))
  simp[h1,this]
theorem aO(p:X):D5 p=O (Ce p):=by rw[Hc]; rfl
def CP(p:X)(m:Q X)(d e:Xc):Y:=decide (kY .i64 (d.To+kY .i64 (p+m[(8*d.B+e.A).toNat]?.getD 0))≤e.From)
theorem Qj{d:Xc}(h:Bn d=E):0≤d.From∧d.From<d.To∧d.To≤2880∧0≤d.A∧d.A<8∧0≤d.B∧d.B<8:=by
 simp only[Bn,zE,decide_eq_true_eq] at h;omega
theorem aU{m:Q X}(hm:ET m=E){b a:X}(h0:0≤b)(h1:b<8)(h2:0≤a)(h3:a<8):ix m (8*b+a)=O (m[(8*b+a).toNat]?.getD 0):=by
 simp only[ET,zE,decide_eq_true_eq] at hm
 obtain⟨k,hk⟩:∃k:Z,8*b+a=(k:X):=⟨(8*b+a).toNat,by omega⟩;rw[hk,An,zP,zC (by omega)];rfl
theorem bk{p:X}{m:Q X}{d e:Xc}(hl:m.length≤maxLen)(ht:DY p m=E)(hd:Bn d=E)(he:Bn e=E):L7 p m d e=O (CP p m d e):=by
 obtain⟨_,_,_,_,_,b0,b1⟩:=Qj hd;obtain⟨_,_,_,a0,a1,_,_⟩:=Qj he;have ht':=ht;simp only[DY,zE] at ht'
 unfold L7 QW;have c1:(decide (0≤d.B)&&decide (d.B≤7))=E:=by simp; omega
 have c2:(decide (0≤e.A)&&decide (e.A≤7))=E:=by simp; omega
 rw[bh hl,ht,zB,if_pos rfl,Bw,c1,zB,if_pos rfl,Bw,c2,zB];unfold Ld;rw[if_neg (by simp),Int.mul_comm d.B 8,Ao (n:=8*d.B) (by omega) (by omega),Ao (n:=8*d.B+e.A) (by omega) (by omega),aU ht'.2 b0 b1 a0 a1,zB,zB,if_pos rfl,UW,hd,zB,if_pos rfl,UW,he,zB,if_pos rfl];rfl
theorem Zu{p:X}{m:Q X}{d e:Xc}(hl:m.length≤maxLen)(ht:DY p m=E)(hd:Bn d=E)(he:Bn e=E):Km p m d e=O (CP p m d e):=by
 obtain⟨_,_,_,_,_,b0,b1⟩:=Qj hd;obtain⟨_,_,_,a0,a1,_,_⟩:=Qj he;have ht':=ht;simp only[DY,zE] at ht'
 unfold Km Qm;have c1:(decide (0≤d.B)&&decide (d.B<8))=E:=by simp; omega
 have c2:(decide (0≤e.A)&&decide (e.A<8))=E:=by simp; omega
 have o1:(decide ([d].length≤12)&& [d].all Bn)=E:=by simp[hd]
 have o2:(decide ([e].length≤12)&& [e].all Bn)=E:=by simp[he]
 rw[aO,ht'.1,zB,if_pos rfl,Zv hl,ht'.2,zB,if_pos rfl,Jx,c1,zB,if_pos rfl,Jx,c2,zB];unfold I1;rw[if_neg (by simp),Ao (n:=8*d.B) (by omega) (by omega),Ao (n:=8*d.B+e.A) (by omega) (by omega),aU ht'.2 b0 b1 a0 a1,zB,zB,if_pos rfl,Ua,o1,zB,if_pos rfl,Ua,o2,zB,if_pos rfl];rfl
def B8(p:X)(m:Q X)(l:Q Xc)(i k:Z):Y:=match l[i]?,l[k]? with
 | some d,O e=>CP p m d e || CP p m e d
 | _,_=>G
theorem WA(p:X)(m:Q X)(l:Q Xc)(i k:Z):B8 p m l i k=B8 p m l k i:=by
 unfold B8;cases l[i]?<;>cases l[k]?<;>simp[Bool.or_comm]
theorem F9{n m b:Z}(h:n+m≤1000000)(hb:b≤100):A3 n m b=E:=by
 unfold A3;have:(n+m)*b≤1000000*100:=yW h hb;simp;omega
def nn(ms:Q Z):Q X:=ms.map fun x:Z=>(x:X)
theorem Cf(ms:Q Z):(nn ms).length=ms.length:=by simp[nn]
theorem Dx{ms:Q Z}{i:Z}(h:i<ms.length):ix (nn ms) (i:X)=O ((ms[i]:Z):X):=by
 rw[An,nn,kA,zC h]; rfl
theorem JH(ms:Q Z)(i a:Z):(nn ms).set i (a:X)=nn (ms.set i a):=by simp[nn,List.map_set]
theorem aY(ms:Q Z)(a:Z):nn ms++ [(a:X)]=nn (ms++ [a]):=by simp[nn]
section
variable {p : X} {m : Q X} {l : Q Xc}
theorem Wz{i k:Z}(hi:i<l.length)(hk:k<l.length):B8 p m l i k=(CP p m l[i] l[k] || CP p m l[k] l[i]):=by
 unfold B8;rw[zC hi,zC hk]
def Cm(p:X)(m:Q X)(l:Q Xc):Q (Q Y):=l.map fun d=>l.map fun e=>CP p m d e || CP p m e d
theorem zm{i k:Z}(hi:i<l.length)(hk:k<l.length):∃x,ix (Cm p m l) (i:X)=O x∧ix x (k:X)=O (B8 p m l i k):=by
 refine⟨l.map fun e=>CP p m l[i] e || CP p m e l[i],?_,?_⟩
 ·rw[An,Cm,kA,zC hi]; rfl
 ·rw[An,kA,zC hk,Wz hi hk]; rfl
theorem A0y(hl:m.length≤maxLen)(ht:DY p m=E)(hd:∀d∈l,Bn d=E)(hN:l.length≤12):Ow p m l=O (Cm p m l):=by
 have hm:l.length≤maxLen:=by rw[Az]; omega
 unfold Ow;refine G6 (L:=FP p m l) l (fun d=>l.map fun e=>CP p m d e || CP p m e d) O hm (fun n i acc h ha=> ?_) (fun n acc ha=>by simp[FP]);rw[FP,Ag,if_pos (by simpa using h),Ac h,zB];rw[G6 (L:=GY p m l (i:X) l[i] acc (FP p m l n)) l (fun e=>CP p m l[i] e || CP p m e l[i]) (fun row=>FP p m l n (kY .i64 ((i:X)+1)) (acc++ [row])) hm (fun n2 k acc2 hk ha2=> ?_) (fun n2 acc2 ha2=> ?_)]
 ·rw[GY,Ag,if_pos (by simpa using hk),Ac hk,zB,bk hl ht (hd _ (zF h)) (hd _ (zF hk)),zB,bk hl ht (hd _ (zF hk)) (hd _ (zF h))];have a1:∀b:Y,A3 acc2.length [b].length 1=E:=fun b=>F9 (by simp; omega) (by omega)
  cases CP p m l[i] l[k] with
  | true=>rw[if_pos rfl,if_pos (a1 E)]; rfl
  | false=>rw[if_neg (by simp),zB,if_pos (a1 _)]; rfl
 ·rw[GY,if_neg (by simp),if_pos (F9 (by simp; omega) (by omega))]
def HH(p:X)(m:Q X)(l:Q Xc)(i j:Z):Y:=decide (j<l.length)&&(decide (i≠j)&&B8 p m l i j)
theorem xl(hl:m.length≤maxLen)(ht:DY p m=E)(hd:∀d∈l,Bn d=E)(hN:l.length≤12)(K:X→Q X→U (Q X)){i:Z}(hi:i<l.length)(ms:Q Z)(hms:ms.length=l.length) :
  ∀(r k n a:Z),k+r=l.length→r<n→(∀j,a.testBit j=(decide (j<k)&&(decide (i≠j)&&B8 p m l i j)))→
   ∃q,(∀j,q.testBit j=HH p m l i j)∧E8 p m l (i:X) l[i] K n (k:X) (nn (ms.set i a))=K (kY .i64 ((i:X)+1)) (nn (ms.set i q)):=by
 have hm:l.length≤maxLen:=by rw[Az]; omega
 intro r
 induction r with
 | zero=>
  intro k n a hk hn ha;obtain⟨n,rfl⟩:∃n',n=n'+1:=⟨n - 1,by omega⟩;refine⟨a,fun j=> ?_,?_⟩
  ·rw[ha,show k=l.length by omega]; rfl
  ·rw[E8,if_neg (by simp; omega)]
 | succ r ih=>
  intro k n a hk hn ha;obtain⟨n,rfl⟩:∃n',n=n'+1:=⟨n - 1,by omega⟩;have hlt:k<l.length:=by omega
  have a12:a<2 ^ 12:=Pn fun j hj=>by
   rw[ha,zE,decide_eq_true_eq] at hj; omega
  have step:∀v:Y,v=(decide (i≠k)&&B8 p m l i k)→∃q,(∀j,q.testBit j=HH p m l i j)∧Im p m l (i:X) (k:X) l[i] (nn (ms.set i a)) (E8 p m l (i:X) l[i] K n) v=K (kY .i64 ((i:X)+1)) (nn (ms.set i q)):=by
   intro v hv;unfold Im;cases v with
   | true=>
    rw[if_pos rfl,Dx (by simp; omega),zB,if_neg (by simp),US (by omega),kE];have h12:2 ^ k<2 ^ 64:=yQ (by omega) (by omega);rw[UE (yD a12 (by decide)) h12,zP,JH,List.set_set,Am hlt hm];refine ih (k+1) n _ (by omega) (by omega) fun j=> ?_
    rw[yM,ha,JR];by_cases hjk:k=j
    ·subst hjk;have hx:¬i=k∧B8 p m l i k=E:=by simpa using hv.symm
     simp[hx.1,hx.2]
    ·have e:decide (j<k+1)=decide (j<k):=decide_eq_decide.2 (by omega);rw[e];simp[hjk]
   | false=>
    rw[if_neg (by simp),Am hlt hm];refine ih (k+1) n a (by omega) (by omega) fun j=> ?_
    rw[ha];by_cases hjk:k=j
    ·subst hjk;rw[← hv];simp
    ·have e:decide (j<k+1)=decide (j<k):=decide_eq_decide.2 (by omega);rw[e]
  rw[E8,Ag,if_pos (by simpa using hlt),Ac hlt,zB];by_cases hik:i=k
  ·subst hik;rw[if_neg (by simp)];exact step G (by simp)
  ·have hne:((i:X) !=(k:X))=E:=by simp; omega
   rw[if_pos hne,Zu hl ht (hd _ (zF hi)) (hd _ (zF hlt)),zB];have hb:=Wz (p:=p) (m:=m) hi hlt;cases hf:CP p m l[i] l[k] with
   | true=>
    rw[if_pos rfl];exact step E (by rw[hb,hf]; simp[hik])
   | false=>
    rw[if_neg (by simp),Zu hl ht (hd _ (zF hlt)) (hd _ (zF hi)),zB];exact step _ (by rw[hb,hf]; simp[hik])
theorem uD(hl:m.length≤maxLen)(ht:DY p m=E)(hd:∀d∈l,Bn d=E)(hN:l.length≤12):∃ms:Q Z,ms.length=l.length∧(∀i j:Z,i<l.length→(ms[i]?.getD 0).testBit j=HH p m l i j)∧N5 p m l=O (nn ms):=by
 have hm:l.length≤maxLen:=by rw[Az]; omega
 have key:∀(r i n:Z) (ms:Q Z),i+r=l.length→r<n→ms.length=l.length→(∀i' j:Z,i'<i→(ms[i']?.getD 0).testBit j=HH p m l i' j)→(∀i':Z,i≤i'→ms[i']?.getD 0=0)→
   ∃ms':Q Z,ms'.length=l.length∧(∀i j:Z,i<l.length→(ms'[i]?.getD 0).testBit j=HH p m l i j)∧Fq p m l n (i:X) (nn ms)=O (nn ms'):=by
  intro r
  induction r with
  | zero=>
   intro i n ms hi hn hms h1 h2;obtain⟨n,rfl⟩:∃n',n=n'+1:=⟨n - 1,by omega⟩;exact⟨ms,hms,fun i' j h=>h1 i' j (by omega),by rw[Fq,if_neg (by simp; omega)]⟩
  | succ r ih=>
   intro i n ms hi hn hms h1 h2;obtain⟨n,rfl⟩:∃n',n=n'+1:=⟨n - 1,by omega⟩;have hlt:i<l.length:=by omega
   obtain⟨q,hq,e⟩:=xl hl ht hd hN (Fq p m l n) hlt ms hms l.length 0 bigN 0 (by omega) (Bp hm) (fun j=>by simp)
   have e0:ms.set i 0=ms:=by
    have h3:=h2 i (kB _);rw[zC (by omega)] at h3
    have h3:ms[i]'(by omega)=0:=h3;apply List.ext_getElem (by simp)
    intro j hj1 hj2;by_cases hij:i=j
    ·subst hij; simp[h3]
    ·rw[List.getElem_set_ne hij]
   rw[e0] at e
   rw[Fq,Ag,if_pos (by simpa using hlt),Ac hlt,zB];have e:E8 p m l (i:X) l[i] (Fq p m l n) bigN 0 (nn ms)=_:=e;rw[e,Am hlt hm];refine ih (i+1) n (ms.set i q) (by omega) (by omega) (by simpa using hms) (fun i' j h=> ?_) (fun i' h=> ?_)
   ·by_cases hii:i=i'
    ·subst hii;rw[yG (by omega)];exact hq j
    ·rw[yE hii];exact h1 i' j (by omega)
   ·rw[yE (by omega)];exact h2 i' (by omega)
 unfold N5;rw[Ei (by omega) (by omega),zB];have hz:zI l.length (0:X)=nn (zI l.length 0):=by simp[nn]
 rw[hz]
 exact key l.length 0 bigN _ (by omega) (Bp hm) (by simp) (fun i' j h=>by omega) (fun i' h=>by
  rw[List.getElem?_replicate];split<;>rfl)
end
section
variable {B : Z → Z → Y} {N : Z} {ms : Q Z}
def jL(B:Z→Z→Y)(N:Z)(ms:Q Z):Prop:=ms.length=N∧∀i j:Z,i<N→(ms[i]?.getD 0).testBit j=(decide (j<N)&&(decide (i≠j)&&B i j))
theorem lx:F6 B 0:=fun i j hi=>by simp at hi
theorem lu(hB:∀i j,B i j=B j i){s t:Z}(h1:2 ^ t≤s)(h2:s<2 ^ (t+1)):F6 B s↔F6 B (AH s (2 ^ t))∧∀i,(AH s (2 ^ t)).testBit i=E→B t i=E:=by
 obtain⟨a1,a2,a3,a4⟩:=V7 h1 h2;constructor
 ·intro h;exact⟨fun i j hi hj=>h i j (a3 i hi) (a3 j hj),fun i hi=>h t i a1 (a3 i hi) (by have:=HB a2 hi; omega)⟩
 ·rintro⟨k1,k2⟩ i j hi hj hne
  rcases a4 i hi with rfl|hi
  ·rcases a4 j hj with rfl|hj
   ·exact absurd zA hne
   ·exact k2 j hj
  ·rcases a4 j hj with rfl|hj
   ·rw[hB]; exact k2 i hi
   ·exact k1 i j hi hj hne
theorem T0{a b:Z}:AH a b=0↔∀i,a.testBit i=E→b.testBit i=E:=by
 constructor
 ·intro h i hi;have:=EZ a b i;rw[h,hi] at this
  cases hb:b.testBit i with
  | true=>rfl
  | false=>rw[hb] at this; simp at this
 ·intro h;apply yP
  intro i;rw[EZ,Nat.zero_testBit];cases hi:a.testBit i with
  | false=>rfl
  | true=>rw[h i hi]; rfl
theorem Wf(a b:Z):AH a b≤a:=by
 rcases yC a (AH a b) with h|h
 ·obtain⟨i,h1,h2⟩:=Nat.exists_testBit_ne_of_ne (Nat.ne_of_lt h) |>.elim fun i hi=>(⟨i,hi,⟨⟩⟩:∃i,a.testBit i≠(AH a b).testBit i∧True)
  exfalso
  have:AH a b &&& a=AH a b:=Uz fun i hi=>by
   rw[EZ,zE] at hi
   exact hi.1
  have h3:= @Nat.and_le_right (AH a b) a;omega
 ·exact h
def SQ(B:Z→Z→Y)(tg:Q Y)(s:Z):Prop:=∀x,x<s→(tg[x]?.getD G=E↔F6 B x)
def W7(B:Z→Z→Y)(ls:Q Z)(s:Z):Prop:=∀x,x<s→Cp B x (ls[x]?.getD 0)
theorem ZS(hN:N≤12){x n:Z}(hx:x<2 ^ N)(h:Cp B x n):n≤12:=Nat.le_trans (h.2 N (Qg hx)) hN
theorem RQ{tg:Q Y}{x:Z}(h:x<tg.length):ix tg (x:X)=O (tg[x]?.getD G):=by
 rw[An,zC h]; rfl
theorem RO{ls:Q Z}{x:Z}(h:x<ls.length):ix (nn ls) (x:X)=O (((ls[x]?.getD 0:Z)):X):=by
 rw[Dx h,zC h]; rfl
theorem bB(hN:N≤12):2 ^ N≤4096:=by
 have:=yO (show 0<2 by omega) hN;simpa using this
theorem vp(hN:N≤12)(y5:X){s t:Z}(hs:s<2 ^ N)(h1:2 ^ t≤s)(h2:s<2 ^ (t+1)){tg:Q Y}{ls:Q Z}(htl:tg.length=2 ^ N)(hll:ls.length=2 ^ N)(ht:SQ B tg (s+1))(hl:W7 B ls s)(K:X→Q Y→Q X→U X) :
  ∀(n q c:Z),q<n→q &&& AH s (2 ^ t)=q→Es B s c→c≤100→(∀q',q' &&& AH s (2 ^ t)=q'→q<q'→F6 B (q' ||| 2 ^ t)→c≤1+ls[AH (AH s (2 ^ t)) q']?.getD 0)→
   ∃c',Cp B s c'∧Gx (nn ms) y5 (s:X) (t:X) ((AH s (2 ^ t):Z):X) tg K n (q:X) (nn (ls.set s c))=K (kY .i64 ((s:X)+1)) tg (nn (ls.set s c')):=by
 obtain⟨a1,a2,a3,a4⟩:=V7 h1 h2;have hp:=bB hN;have h2s:AH s (2 ^ t)<s:=yT a2 h1;generalize hr:AH s (2 ^ t)=r at a2 a3 a4 h2s
 intro n
 induction n with
 | zero=>intro q c hq; omega
 | succ n ih=>
  intro q c hq hsub hc hc1 hall
  have ht12:t<12:=by
   rcases yC t 12 with h|h
   ·exact h
   ·have:=yO (show 0<2 by omega) h;simp at this
    omega
  have hqr:q≤r:=by have:= @Nat.and_le_right q r; omega
  have hor:q ||| 2 ^ t≤s:=by
   have hsb:(q ||| 2 ^ t) &&& s=q ||| 2 ^ t:=Uz fun i hi=>by
    rw[yM,JR,kU,decide_eq_true_eq] at hi
    rcases hi with h|h
    ·exact a3 i (A18 hsub h)
    ·subst h; exact a1
   have:= @Nat.and_le_right (q ||| 2 ^ t) s;omega
  have hsml:∀x:Z,x≤s→x<2 ^ 63:=fun x hx=>yV hx (yT hs (Nat.le_trans hp (by decide)))
  have hand:AH r q<s:=yV (Wf r q) h2s;have hset:s<(ls.set s c).length:=by simp; omega
  have hnext:∀c1:Z,Es B s c1→c1≤100→(∀q',q' &&& r=q'→q≤q'→F6 B (q' ||| 2 ^ t)→c1≤1+ls[AH r q']?.getD 0)→
    ∃c',Cp B s c'∧KH (nn ms) y5 (s:X) (t:X) (r:X) (q:X) tg K (Gx (nn ms) y5 (s:X) (t:X) (r:X) tg K n) (nn (ls.set s c1))=K (kY .i64 ((s:X)+1)) tg (nn (ls.set s c')):=by
   intro c1 g1 g2 g3;unfold KH;by_cases h0:q=0
   ·subst h0;refine⟨c1,⟨g1,fun m hm=> ?_⟩,by rw[if_pos (by simp)]⟩;obtain⟨q',n',e1,e2,e3,e4⟩:=mK a1 a3 hm;have:=(hl (AH r q') (yV (Wf r q') h2s)).2 n' e4;have:=g3 q' e1 (zK _) e2;omega
   ·rw[if_neg (by simpa using h0)]
    have ew:kY .i64 ((q:X) - 1)=((q - 1:Z):X):=by
     rw[show(q:X) - 1=((q - 1:Z):X) by omega];exact Ek (hsml _ (by omega))
    rw[ew,jU (hsml _ (by omega)) (hsml _ (by omega))];have hlt:= @jV q r (by omega);refine ih ((q - 1) &&& r) c1 (by omega) (jW _ _) g1 g2 fun q' e1 e2 e3=> ?_
    refine g3 q' e1 ?_ e3;rcases yC q' q with h|h
    ·have:=xE r r q q' (kB _) hsub e1 h;omega
    ·exact h
  rw[Gx,if_neg (by simp),Sp (by omega),xb (hsml _ (by omega)) (hsml _ (by omega)),RQ (by omega),zB];have hk:=ht (q ||| 2 ^ t) (by omega);cases hb:tg[q ||| 2 ^ t]?.getD G with
  | false=>
   rw[if_neg (by simp)];refine hnext c hc hc1 fun q' e1 e2 e3=> ?_
   rcases yC q q' with h|h
   ·exact hall q' e1 h e3
   ·have:q'=q:=by omega
    subst this;rw[hb] at hk
    exact absurd (hk.2 e3) (by simp)
  | true=>
   rw[if_pos rfl];have hcq:=hk.1 hb
   have e26:ix (nn (ls.set s c)) (s:X)=O (c:X):=by
    rw[Dx hset,kE]
   have e27:ix (nn (ls.set s c)) (Bd .andNot .i64 (r:X) (q:X))=O ((ls[AH r q]?.getD 0:Z):X):=by
    rw[We (hsml _ (by omega)) (hsml _ (by omega)),RO (by simp; omega),yE (by omega)]
   rw[e26,zB,e27,zB];have hle:=hl (AH r q) hand;have h12:=ZS hN (yD hand hs) hle;generalize hv:ls[AH r q]?.getD 0=v at hle h12
   have ew:kY .i64 ((1:X)+(v:X))=((1+v:Z):X):=by
    rw[show(1:X)+(v:X)=((1+v:Z):X) by omega];exact Ek (by omega)
   have emin:(if kY .i64 ((1:X)+(v:X))<(c:X) then kY .i64 ((1:X)+(v:X)) else(c:X))=((if 1+v<c then 1+v else c:Z):X):=by
    rw[ew];by_cases h:1+v<c
    ·rw[if_pos (by omega),if_pos h]
    ·rw[if_neg (by omega),if_neg h]
   rw[emin,zP,JH,List.set_set];refine hnext _ ?_ (by split<;>omega) fun q' e1 e2 e3=> ?_
   ·split
    ·exact mJ a4 hcq hle.1
    ·exact hc
   ·rcases yC q q' with h|h
    ·have:=hall q' e1 h e3;split<;>omega
    ·have:q'=q:=by omega
     subst this;rw[hv];split<;>omega
theorem vn(hB:∀i j,B i j=B j i)(hN:N≤12)(hm:jL B N ms):∃n:Z,Cp B (2 ^ N - 1) n∧n≤12∧N2 (nn ms)=O (n:X):=by
 have hp:=bB hN;have hp0:0<2 ^ N:=kK (by omega);obtain⟨hml,hmb⟩:=hm
 have key:∀(k s n:Z) (tg:Q Y) (ls:Q Z),s+k=2 ^ N→k<n→1≤s→tg.length=2 ^ N→ls.length=2 ^ N→SQ B tg s→W7 B ls s→
   ∃v:Z,Cp B (2 ^ N - 1) v∧v≤12∧ED (nn ms) ((2 ^ N:Z):X) n (s:X) tg (nn ls)=O (v:X):=by
  intro k
  induction k with
  | zero=>
   intro s n tg ls hs hn hs1 htl hll ht hl;obtain⟨n,rfl⟩:∃n',n=n'+1:=⟨n - 1,by omega⟩;have:=hl (2 ^ N - 1) (by omega);refine⟨_,this,ZS hN (by omega) this,?_⟩
   have ew:kY .i64 (((2 ^ N:Z):X) - 1)=((2 ^ N - 1:Z):X):=by
    rw[show((2 ^ N:Z):X) - 1=((2 ^ N - 1:Z):X) by omega];exact Ek (by omega)
   rw[ED,if_neg (by simp only[Ag,decide_eq_true_eq]; omega),ew,RO (by omega),zB]
  | succ k ih=>
   intro s n tg ls hs hn hs1 htl hll ht hl;obtain⟨n,rfl⟩:∃n',n=n'+1:=⟨n - 1,by omega⟩;obtain⟨t,e1,h1,h2,ht12⟩:=wB hs1 (show s<4096 by omega);obtain⟨a1,a2,a3,a4⟩:=V7 h1 h2;have htN:t<N:=HB (show s<2 ^ N by omega) a1;have h2s:AH s (2 ^ t)<s:=yT a2 h1
   have hsml:∀x:Z,x≤s→x<2 ^ 63:=fun x hx=>by
    have:(4096:Z)<2 ^ 63:=by decide
    omega
   have ew:kY .i64 (((t+1:Z):X) - 1)=(t:X):=by
    rw[show((t+1:Z):X) - 1=(t:X) by omega];exact Ek (by omega)
   have er:Bd .andNot .i64 (s:X) (Bh .i64 (1:X) (t:X))=((AH s (2 ^ t):Z):X):=by
    rw[Sp (by omega),We (hsml _ (kB _)) (hsml _ h1)]
   have hu:IntKind.u64.wrap (s:X)=(s:X):=LM (by omega);have hct:=lu hB h1 h2
   have rest:∀b:Y,(b=E↔F6 B s)→∃v:Z,Cp B (2 ^ N - 1) v∧v≤12∧
     KG (nn ms) ((2 ^ N:Z):X) (s:X) (nn ls) (ED (nn ms) ((2 ^ N:Z):X) n) (t:X) ((AH s (2 ^ t):Z):X) (tg.set s b)=O (v:X):=by
    intro b hb
    have ht':SQ B (tg.set s b) (s+1):=fun x hx=>by
     by_cases h:s=x
     ·subst h;rw[yG (by omega)];exact hb
     ·rw[yE h];exact ht x (by omega)
    unfold KG;rw[RO (by omega),zB,Cf,hml,zP,JH]
    obtain⟨c',k1,k2⟩:=vp (ms:=ms) hN ((2 ^ N:Z):X) (show s<2 ^ N by omega) h1 h2 (tg:=tg.set s b) (ls:=ls) (by simpa using htl) hll ht' hl (ED (nn ms) ((2 ^ N:Z):X) n) bigN (AH s (2 ^ t)) N (by rw[C5]; omega) (Nat.and_self _) (Qg (by omega)) (by omega) (fun q' g1 g2=>by
     have:= @Nat.and_le_right q' (AH s (2 ^ t));omega)
    rw[k2,Am (show s<4096 by omega) (by rw[Az]; omega)];refine ih (s+1) n (tg.set s b) (ls.set s c') (by omega) (by omega) (by omega) (by simpa using htl) (by simpa using hll) ht' fun x hx=> ?_
    by_cases h:s=x
    ·subst h;rw[yG (by omega)];exact k1
    ·rw[yE h];exact hl x (by omega)
   rw[ED,Ag,if_pos (by simp; omega),hu,e1,zB,ew,if_neg (by simp),er,RQ (by omega),zB,zP];have hk:=ht (AH s (2 ^ t)) h2s;cases hb:tg[AH s (2 ^ t)]?.getD G with
   | true=>
    rw[if_pos rfl,RO (by omega),zB,RQ (by omega),zB]
    have hmt:ms[t]?.getD 0<2 ^ 12:=Pn fun j hj=>by
     rw[hmb t j htN,zE,decide_eq_true_eq] at hj
     omega
    rw[LM (n:=AH s (2 ^ t)) (by omega),Ma (by omega) (yD hmt (by decide)),kp];refine rest _ ?_;rw[decide_eq_true_eq,T0,hct];constructor
    ·intro h;refine⟨hk.1 hb,fun i hi=> ?_⟩;have:=h i hi;rw[hmb t i htN] at this
     simp at this
     exact this.2.2
    ·rintro⟨_,h⟩ i hi
     have hit:=HB a2 hi;rw[hmb t i htN,h i hi];simp;omega
   | false=>
    rw[if_neg (by simp),RQ (by omega),zB];refine rest G ?_;rw[hct];constructor
    ·intro h; cases h
    ·rintro⟨h,_⟩
     have:=hk.2 h;rw[hb] at this
     cases this
 unfold N2
 have hm1:∀b:Z,b≤1000→BQ (Bh .i64 (1:X) ((N:Z):X)) (Bh .i64 (1:X) ((N:Z):X)) b=O (2 ^ N):=fun b hb=>by
  rw[Sp (by omega)]; exact Ei (by omega) hb
 rw[Cf,hml,if_neg (by simp),hm1 1 (by omega),zB,hm1 8 (by omega),zB,Sp (by omega)]
 have e0:ix (zI (2 ^ N) G) (0:X)=O G:=by
  have:=Ac (l:=zI (2 ^ N) G) (i:=0) (by simpa using hp0);simpa using this
 have hz:zI (2 ^ N) (0:X)=nn (zI (2 ^ N) 0):=by simp[nn]
 rw[e0,zB,hz]
 obtain⟨v,k1,k2,k3⟩:=key (2 ^ N - 1) 1 bigN ((zI (2 ^ N) G).set 0 E) (zI (2 ^ N) 0) (by omega) (by rw[C5]; omega) (by omega) (by simp) (by simp)
  (fun x hx=>by
   have:x=0:=by omega
   subst this;rw[yG (by simpa using hp0)];exact⟨fun _=>lx,fun _=>rfl⟩)
  (fun x hx=>by
   have:x=0:=by omega
   subst this;rw[List.getElem?_replicate,if_pos hp0];exact Up)
 exact⟨v,k1,k2,k3⟩
end
theorem jY{g i:Z}(h:g<2 ^ i):AH (g ||| 2 ^ i) (2 ^ i)=g:=by
 apply yP
 intro j;rw[EZ,yM,JR];by_cases hj:i=j
 ·subst hj;rw[Nat.testBit_lt_two_pow h];simp
 ·simp[hj]
theorem A0q{α:Type}{l:Q α}{i:Z}{x:α}(h:l[i]?=O x):l.set i x=l:=by
 apply List.ext_getElem?
 intro j;by_cases hij:i=j
 ·subst hij;rw[yG (kL.1 h).1,h]
 ·rw[yE hij]
theorem mL:∀(d fuel:Z) (sm gs:Q Z) (most:X) (who:Q X),who.length+d=sm.length→d<fuel→(∀x∈sm,x<2 ^ 12)→sm.length≤12→(∀g∈gs,0<g∧g<2 ^ who.length)→gs.length≤who.length→
  ∃b r,E7 fuel ⟨nn sm,most,nn gs,who⟩=O (b,r)∧r.most=most∧(b=G→r=⟨nn sm,most,nn gs,who⟩):=by
 intro d
 induction d with
 | zero=>
  intro fuel sm gs most who hd hf h1 h2 h3 h4;obtain⟨fuel,rfl⟩:∃n',fuel=n'+1:=⟨fuel - 1,by omega⟩;refine⟨E,⟨nn sm,most,nn gs,who⟩,?_,zA,fun h=>by cases h⟩;rw[E7,MZ,if_pos (by simp[Cf]; omega)]
 | succ d ih=>
  intro fuel sm gs most who hd hf h1 h2 h3 h4;obtain⟨fuel,rfl⟩:∃n',fuel=n'+1:=⟨fuel - 1,by omega⟩;rw[E7,MZ,if_neg (by simp[Cf]; omega)];have hi12:who.length≤11:=by omega
  have hpw:2 ^ who.length<2 ^ 64:=yQ (by omega) (by omega);have hp0:0<2 ^ who.length:=kK (by omega);have hpd:2 ^ (who.length+1)=2 ^ who.length+2 ^ who.length:=by rw[Nat.pow_succ]; omega
  have hsi:who.length<sm.length:=by omega
  have hsm:sm[who.length]<2 ^ 64:=yD (h1 _ (zF hsi)) (by decide)
  have key:∀(k p n:Z),p+k=gs.length+1→k<n→∃b r,Fp (E7 fuel) ⟨nn sm,most,nn gs,who⟩ n (p:X) (nn sm) most (nn gs) who=O (b,r)∧r.most=most∧(b=G→r=⟨nn sm,most,nn gs,who⟩):=by
   intro k
   induction k with
   | zero=>
    intro p n hp hn;obtain⟨n,rfl⟩:∃n',n=n'+1:=⟨n - 1,by omega⟩;refine⟨G,_,?_,zA,fun _=>rfl⟩;rw[Fp,if_neg (by simp[Cf]; omega)]
   | succ k ihk=>
    intro p n hp hn;obtain⟨n,rfl⟩:∃n',n=n'+1:=⟨n - 1,by omega⟩;have hpl:p≤gs.length:=by omega
    rw[Fp,if_pos (by simp[Cf]; omega)];cases hmost:decide ((p:X)<most) with
    | false=>exact⟨G,_,by rw[if_neg (by simp)],rfl,fun _=>rfl⟩
    | true=>
     rw[if_pos rfl];by_cases hpe:p=gs.length
     ·-- a new person
      rw[if_pos (by simp[Cf]; omega),if_pos (F9 (by simp[Cf]; omega) (by omega))];have e0:nn gs++ [(0:X)]=nn (gs++ [0]):=aY gs 0;rw[e0];unfold KD;dsimp only
      have hpg:p<(gs++ [0]).length:=by simp; omega
      have hg0:(gs++ [0])[p]=0:=by simp[hpe]
      rw[Dx hpg,zB,hg0,Dx hsi,zB,Ma (by decide) hsm];have ez:AH 0 sm[who.length]=0:=T0.2 fun i hi=>by simp at hi
      rw[ez,if_pos (by simp),if_neg (by simp),if_pos (F9 (by simp; omega) (by omega)),US (by omega),UE (by decide) hpw,Nat.zero_or,zP,JH]
      have es:(gs++ [0]).set p (2 ^ who.length)=gs++ [2 ^ who.length]:=by
       rw[List.set_append_right _ _ (by omega)];simp[hpe]
      rw[es]
      obtain⟨b,r,k1,k2,k3⟩:=ih fuel sm (gs++ [2 ^ who.length]) most (who++ [(p:X)]) (by simp; omega) (by omega) h1 h2 (fun g hg=>by
       rw[zO,zY,hpd];rcases zV.1 hg with hg|hg
       ·have:=h3 g hg; omega
       ·rw[zS] at hg; omega) (by simp; omega)
      rw[k1,zB];cases b with
      | true=>exact⟨E,r,by rw[if_pos rfl],k2,fun h=>by cases h⟩
      | false=>
       have:=k3 rfl;subst this;rw[if_neg (by simp)];have hw:((who++ [(p:X)]).length:X)=((who.length+1:Z):X):=by simp
       simp only[zO,zY];rw[show bnd ((who.length+1:Z):X) (who.length:X) 0 (who.length+1)=O (0,who.length) from E3 (by omega),zB];have hpg2:p<(gs++ [2 ^ who.length]).length:=by simp; omega
       have hg2:(gs++ [2 ^ who.length])[p]=2 ^ who.length:=by simp[hpe]
       rw[Dx hpg2,zB,hg2,if_neg (by simp),Ma hpw hpw,JH];have ez2:AH (2 ^ who.length) (2 ^ who.length)=0:=T0.2 fun i hi=>hi
       have es2:(gs++ [2 ^ who.length]).set p 0=gs++ [0]:=by
        rw[List.set_append_right _ _ (by omega)];simp[hpe]
       have et:(who++ [(p:X)]).take who.length=who:=by simp
       rw[ez2,es2,et];unfold Ih;rw[Dx hpg,zB,hg0,if_pos (by simp),Cf];have hl1:(gs++ [0]).length=gs.length+1:=by simp
       rw[hl1,show bnd ((gs.length+1:Z):X) (p:X) 0 (gs.length+1)=O (0,p) from E3 (by omega),zB];have et2:(nn (gs++ [0])).take p=nn gs:=by rw[hpe]; simp[nn]
       show ∃b r,O (G,(⟨nn sm,most,(nn (gs++ [0])).take p,who⟩:Xh))=O (b,r)∧_
       rw[et2];exact⟨G,_,zA,zA,fun _=>rfl⟩
     ·-- one that is there
      rw[if_neg (by simp[Cf]; omega)];have hpg:p<gs.length:=by omega
      have hgm:=h3 _ (zF hpg)
      have hnext:∃b r,Ih (E7 fuel) ⟨nn sm,most,nn gs,who⟩ (p:X) (Fp (E7 fuel) ⟨nn sm,most,nn gs,who⟩ n) (nn sm) most (nn gs) who=O (b,r)∧r.most=most∧(b=G→r=⟨nn sm,most,nn gs,who⟩):=by
       unfold Ih;rw[Dx hpg,zB,if_neg (by simp; omega),Am hpg (by rw[Az]; omega)];exact ihk (p+1) n (by omega) (by omega)
      unfold KD;dsimp only
      rw[Dx hpg,zB,Dx hsi,zB,Ma (by omega) hsm];cases hfit:(((AH gs[p] sm[who.length]:Z):X)==0) with
      | false=>rw[if_neg (by simp)]; exact hnext
      | true=>
       rw[if_pos rfl,if_neg (by simp),if_pos (F9 (by simp; omega) (by omega)),US (by omega),UE (by omega) hpw,zP,JH];have hor:gs[p] ||| 2 ^ who.length<2 ^ (who.length+1):=yZ (by omega) (by omega)
       have hop:0<gs[p] ||| 2 ^ who.length:=by
        have:= @Nat.left_le_or gs[p] (2 ^ who.length);omega
       have hor64:gs[p] ||| 2 ^ who.length<2 ^ 64:=yZ (by omega) hpw
       obtain⟨b,r,k1,k2,k3⟩:=ih fuel sm (gs.set p (gs[p] ||| 2 ^ who.length)) most (who++ [(p:X)]) (by simp; omega) (by omega) h1 h2 (fun g hg=>by
        rw[zO,zY];rcases List.mem_or_eq_of_mem_set hg with hg|hg
        ·have:=h3 g hg; omega
        ·subst hg; exact⟨hop,hor⟩) (by simp; omega)
       rw[k1,zB];cases b with
       | true=>exact⟨E,r,by rw[if_pos rfl],k2,fun h=>by cases h⟩
       | false=>
        have:=k3 rfl;subst this;rw[if_neg (by simp)];simp only[zO,zY];have hps:p<(gs.set p (gs[p] ||| 2 ^ who.length)).length:=by simp; omega
        rw[show bnd ((who.length+1:Z):X) (who.length:X) 0 (who.length+1)=O (0,who.length) from E3 (by omega),zB,Dx hps,zB,kE,if_neg (by simp),Ma hor64 hpw,JH,jY hgm.2,List.set_set,A0q (zC hpg)];have et:(who++ [(p:X)]).take who.length=who:=by simp
        rw[et];exact hnext
  exact key (gs.length+1) 0 bigN (by omega) (by rw[C5]; omega)
section
variable {p : X} {m : Q X} {l : Q Xc}
def jM(B:Z→Z→Y)(w:Q Z):Prop:=∀(i k:Z) (hi:i<w.length) (hk:k<i),w[i]=w[k]→B i k=E
theorem A0e(rec_:(Q (Q Y))→(Q X)→X→U ((Q X) × Y))(a2 v2:X)(K:X→U ((Q X) × Y))(c:Z){w:Q Z}(hw:w.length<l.length)(hN:l.length≤12) :
  ∀(r k n:Z) (v:Y),k+r=w.length→r<n→∃b:Y,(b=E↔v=E∧∀(k':Z) (h:k'<w.length),k≤k'→w[k']=c→B8 p m l w.length k'=E)∧
   DK rec_ (Cm p m l) (nn w) a2 v2 (c:X) K n v (k:X)=DK rec_ (Cm p m l) (nn w) a2 v2 (c:X) K 1 b (w.length:X):=by
 intro r
 induction r with
 | zero=>
  intro k n v hk hn;obtain⟨n,rfl⟩:∃n',n=n'+1:=⟨n - 1,by omega⟩;have:k=w.length:=by omega
  subst this;refine⟨v,⟨fun h=>⟨h,fun k' h1 h2=>by omega⟩,fun h=>h.1⟩,?_⟩;simp only[DK,Cf,Ag,Nat.lt_irrefl,decide_false,zD,if_false]
 | succ r ih=>
  intro k n v hk hn;obtain⟨n,rfl⟩:∃n',n=n'+1:=⟨n - 1,by omega⟩;have hlt:k<w.length:=by omega
  rw[DK,if_pos (by simp[Cf]; omega),Dx hlt,zB];have hwr:=Am hlt (show w.length≤maxLen by rw[Az]; omega);by_cases hc:w[k]=c
  ·obtain⟨x,x1,x2⟩:=zm (p:=p) (m:=m) hw (show k<l.length by omega);rw[if_pos (by simp; omega),Cf,x1,zB,x2,zB];cases hb:B8 p m l w.length k with
   | true=>
    rw[if_pos rfl,hwr];obtain⟨b,b1,b2⟩:=ih (k+1) n v (by omega) (by omega);refine⟨b,b1.trans ⟨fun⟨g1,g2⟩=>⟨g1,fun k' h1 h2 h3=> ?_⟩,fun⟨g1,g2⟩=>⟨g1,fun k' h1 h2=>g2 k' h1 (by omega)⟩⟩,b2⟩;by_cases hkk:k=k'
    ·subst hkk; exact hb
    ·exact g2 k' h1 (by omega) h3
   | false=>
    rw[if_neg (by simp),hwr];obtain⟨b,b1,b2⟩:=ih (k+1) n G (by omega) (by omega);refine⟨b,b1.trans ⟨fun⟨g1,g2⟩=>(by cases g1),fun⟨g1,g2⟩=> ?_⟩,b2⟩;have:=g2 k hlt (kB _) hc;rw[hb] at this
    cases this
  ·rw[if_neg (by simp; omega),hwr];obtain⟨b,b1,b2⟩:=ih (k+1) n v (by omega) (by omega);refine⟨b,b1.trans ⟨fun⟨g1,g2⟩=>⟨g1,fun k' h1 h2 h3=> ?_⟩,fun⟨g1,g2⟩=>⟨g1,fun k' h1 h2=>g2 k' h1 (by omega)⟩⟩,b2⟩;by_cases hkk:k=k'
   ·subst hkk; exact absurd h3 hc
   ·exact g2 k' h1 (by omega) h3
theorem A0f(rec_:(Q (Q Y))→(Q X)→X→U ((Q X) × Y))(a0:Q (Q Y))(a2:X){w:Q Z}(hw:w.length≤12)(hx:∀x∈w,x<12) :
  ∀(r k n v:Z),k+r=w.length→r<n→v≤12→∃u:Z,u≤12∧v≤u∧(∀x∈w.drop k,x<u)∧GZ rec_ a0 (nn w) a2 n (v:X) (k:X)=Ec rec_ a0 (nn w) a2 (u:X) bigN 0:=by
 intro r
 induction r with
 | zero=>
  intro k n v hk hn hv;obtain⟨n,rfl⟩:∃n',n=n'+1:=⟨n - 1,by omega⟩;refine⟨v,hv,kB _,fun x h=> ?_,?_⟩
  ·rw[List.drop_eq_nil_of_le (by omega)] at h; cases h
  ·rw[GZ,if_neg (by simp[Cf]; omega)]
 | succ r ih=>
  intro k n v hk hn hv;obtain⟨n,rfl⟩:∃n',n=n'+1:=⟨n - 1,by omega⟩;have hlt:k<w.length:=by omega
  have hk12:=hx _ (zF hlt);rw[GZ,if_pos (by simp[Cf]; omega),Dx hlt,zB,Am hlt (by rw[Az]; omega)];have ew:kY .i64 (((w[k]:Z):X)+1)=((w[k]+1:Z):X):=Am (n:=12) hk12 (by rw[Az]; omega)
  have em:(if(v:X)<kY .i64 (((w[k]:Z):X)+1) then kY .i64 (((w[k]:Z):X)+1) else(v:X))=((if v<w[k]+1 then w[k]+1 else v:Z):X):=by
   rw[ew];by_cases h:v<w[k]+1
   ·rw[if_pos (by omega),if_pos h]
   ·rw[if_neg (by omega),if_neg h]
  rw[em];obtain⟨u,u1,u2,u3,u4⟩:=ih (k+1) n (if v<w[k]+1 then w[k]+1 else v) (by omega) (by omega) (by split<;>omega);refine⟨u,u1,by split at u2<;>omega,fun x hx2=> ?_,u4⟩;rw[zW hlt] at hx2
  rcases List.mem_cons.1 hx2 with rfl|hx2
  ·split at u2<;>omega
  ·exact u3 x hx2
theorem bT(mm:Z)(hmm:mm≤12)(hN:l.length≤12):∀(d fuel:Z) (w:Q Z),w.length+d=l.length→d<fuel→(∀x∈w,x<mm)→jM (B8 p m l) w→
  ∃out ok,CA fuel (Cm p m l) (nn w) (mm:X)=O (out,ok)∧(ok=E↔D4 (B8 p m l) l.length mm w):=by
 have hrl:(Cm p m l).length=l.length:=by simp[Cm]
 intro d
 induction d with
 | zero=>
  intro fuel w hd hf hx hv;obtain⟨fuel,rfl⟩:∃n',fuel=n'+1:=⟨fuel - 1,by omega⟩;refine⟨nn w,E,?_,⟨fun _=>qC (by omega) hx (WA p m l) hv,fun _=>rfl⟩⟩;rw[CA,Ox,if_pos (by simp[Cf,hrl]; omega)]
 | succ d ih=>
  intro fuel w hd hf hx hv;obtain⟨fuel,rfl⟩:∃n',fuel=n'+1:=⟨fuel - 1,by omega⟩;have hw:w.length<l.length:=by omega
  rw[CA,Ox,if_neg (by simp[Cf,hrl]; omega)];obtain⟨u,u1,_,u3,u4⟩:=A0f (CA fuel) (Cm p m l) (mm:X) (w:=w) (by omega) (fun x h=>by have:=hx x h; omega) w.length 0 bigN 0 (by omega) (by rw[C5]; omega) (by omega);have u4:GZ (CA fuel) (Cm p m l) (nn w) (mm:X) bigN 0 0=_:=u4;rw[u4]
  have key:∀(k c n:Z),c+k=u+1→k<n→(∀c',c'<c→c'<mm→JZ (B8 p m l) w c'→¬D4 (B8 p m l) l.length mm (w++ [c']))→
    ∃out ok,Ec (CA fuel) (Cm p m l) (nn w) (mm:X) (u:X) n (c:X)=O (out,ok)∧(ok=E↔D4 (B8 p m l) l.length mm w):=by
   have fin:∀c:Z,(u<c∨mm≤c)→(∀c',c'<c→c'<mm→JZ (B8 p m l) w c'→¬D4 (B8 p m l) l.length mm (w++ [c']))→¬D4 (B8 p m l) l.length mm w:=fun c hc hno h=>by
    obtain⟨c',g1,g2,g3,g4⟩:=qD hw (fun x h=>u3 x (by simpa using h)) h;exact hno c' (by omega) g2 g3 g4
   intro k
   induction k with
   | zero=>
    intro c n hc hn hno;obtain⟨n,rfl⟩:∃n',n=n'+1:=⟨n - 1,by omega⟩;refine⟨[],G,?_,⟨fun h=>(by cases h),fun h=>absurd h (fin c (by omega) hno)⟩⟩;rw[Ec,if_neg (by simp; omega)]
   | succ k ihk=>
    intro c n hc hn hno;obtain⟨n,rfl⟩:∃n',n=n'+1:=⟨n - 1,by omega⟩;rw[Ec,if_pos (by simp; omega)];by_cases hcm:c<mm
    ·rw[if_pos (by simpa using hcm)];obtain⟨b,b1,b2⟩:=A0e (p:=p) (m:=m) (CA fuel) (mm:X) (u:X) (Ec (CA fuel) (Cm p m l) (nn w) (mm:X) (u:X) n) c hw hN w.length 0 bigN E (by omega) (by rw[C5]; omega);have b2:DK (CA fuel) (Cm p m l) (nn w) (mm:X) (u:X) (c:X) (Ec (CA fuel) (Cm p m l) (nn w) (mm:X) (u:X) n) bigN E 0=_:=b2;have hfit:b=E↔JZ (B8 p m l) w c:=b1.trans ⟨fun h k' h1 h2=>h.2 k' h1 (zK _) h2,fun h=>⟨rfl,fun k' h1 _ h2=>h k' h1 h2⟩⟩;have hwr:=Am (i:=c) (n:=12) (by omega) (by rw[Az]; omega)
     have hon:(JZ (B8 p m l) w c→¬D4 (B8 p m l) l.length mm (w++ [c]))→∃out ok,Lq (CA fuel) (Cm p m l) (nn w) (mm:X) (u:X) (c:X) (Ec (CA fuel) (Cm p m l) (nn w) (mm:X) (u:X) n)=O (out,ok)∧(ok=E↔D4 (B8 p m l) l.length mm w):=fun h=>by
      unfold Lq;rw[hwr];refine ihk (c+1) n (by omega) (by omega) fun c' h1 h2 h3=> ?_
      by_cases hcc:c'=c
      ·subst hcc; exact h h3
      ·exact hno c' (by omega) h2 h3
     rw[b2,DK,if_neg (by simp[Cf])];cases b with
     | false=>
      rw[if_neg (by simp)];exact hon fun h=>absurd (hfit.2 h) (by simp)
     | true=>
      have hf2:=hfit.1 rfl;rw[if_pos rfl,if_pos (F9 (by simp[Cf]; omega) (by omega)),if_pos (F9 (by simp[Cf]; omega) (by omega)),aY]
      obtain⟨out,ok,o1,o2⟩:=ih fuel (w++ [c]) (by simp; omega) (by omega) (fun x h=>by
       rcases zV.1 h with h|h
       ·exact hx x h
       ·rw[zS] at h; omega) (fun i k' hi hk' e=>by
       rcases yC i w.length with h|h
       ·rw[zM h,zM (by omega)] at e
        exact hv i k' h hk' e
       ·have:i=w.length:=by simp at hi; omega
        subst this;rw[zM hk'] at e
        simp at e
        exact hf2 k' hk' e.symm)
      rw[o1,zB];cases ok with
      | true=>exact⟨out,E,by rw[if_pos rfl],⟨fun _=>qB (o2.1 rfl),fun _=>rfl⟩⟩
      | false=>
       rw[if_neg (by simp)];exact hon fun _ h=>absurd (o2.2 h) (by simp)
    ·refine⟨[],G,by rw[if_neg (by simpa using hcm)],⟨fun h=>(by cases h),fun h=>absurd h (fin c (by omega) hno)⟩⟩
  exact key (u+1) 0 bigN (by omega) (by rw[C5]; omega) (fun c' h=>by omega)
def Q5(p:X)(m:Q X)(l:Q Xc):Y:=(decide (l.length≤12)&&l.all Bn)&&DY p m
theorem jK(hl:m.length≤maxLen)(ho:Q5 p m l=E):∃(n:Z) (w1 w2:Q X),n≤12∧Cp (B8 p m l) (2 ^ l.length - 1) n∧J4 p m l=O (w1,(n:X),E)∧MB p m l=O (w2,(n:X),E):=by
 have ho':=ho;simp only[Q5,zE,decide_eq_true_eq] at ho'
 obtain⟨⟨hN,hda⟩,ht⟩:=ho';have hd:∀d∈l,Bn d=E:=fun d h=>yB.1 hda d h
 have hdo:(decide (l.length≤12)&&l.all Bn)=E:=by simp[hN,hda]
 obtain⟨ms,m1,m2,m3⟩:=uD hl ht hd hN;obtain⟨n,n1,n2,n3⟩:=vn (WA p m l) hN (ms:=ms) ⟨m1,m2⟩
 have hmx:∀x∈ms,x<2 ^ 12:=fun x hx=>by
  obtain⟨i,hi,rfl⟩:=zN hx;refine Pn fun j hj=> ?_
  have:=m2 i j (by omega);rw[zC hi] at this
  have this:ms[i].testBit j=HH p m l i j:=this;rw[this,HH,zE,decide_eq_true_eq] at hj
  omega
 obtain⟨b,r,c1,c2,_⟩:=mL ms.length bigN ms [] (n:X) [] (by simp) (by rw[C5]; omega) hmx (by omega) (fun g h=>by cases h) (by simp)
 have hsp:∀(k v fu:Z),v+k=n→k<fu→∃w1,J5 l (Cm p m l) fu (v:X)=O (w1,(n:X),E):=by
  have hnN:n≤l.length:=n1.2 _ (Qg (by have:=kK (n:=l.length) (show 0<2 by omega); omega));intro k
  induction k with
  | zero=>
   intro v fu hv hfu;obtain⟨fu,rfl⟩:∃n',fu=n'+1:=⟨fu - 1,by omega⟩;have:v=n:=by omega
   subst this;obtain⟨out,ok,s1,s2⟩:=bT (p:=p) (m:=m) v n2 hN l.length bigN [] (by simp) (by rw[C5]; omega) (fun x h=>by cases h) (fun i k hi=>by simp at hi);have s1:Rb (Cm p m l) [] (v:X)=O (out,ok):=s1;have hok:ok=E:=s2.2 (WT.1 n1.1);subst hok;exact⟨out,by rw[J5,if_pos (by simp; omega),s1,zB,if_pos zA]⟩
  | succ k ihk=>
   intro v fu hv hfu;obtain⟨fu,rfl⟩:∃n',fu=n'+1:=⟨fu - 1,by omega⟩;obtain⟨out,ok,s1,s2⟩:=bT (p:=p) (m:=m) v (by omega) hN l.length bigN [] (by simp) (by rw[C5]; omega) (fun x h=>by cases h) (fun i k hi=>by simp at hi);have s1:Rb (Cm p m l) [] (v:X)=O (out,ok):=s1
   have hok:ok=G:=by
    cases ok with
    | false=>rfl
    | true=>
     have:=n1.2 v (WT.2 (s2.1 rfl));omega
   subst hok;obtain⟨w1,e⟩:=ihk (v+1) fu (by omega) (by omega);refine⟨w1,?_⟩;rw[J5,if_pos (by simp; omega),s1,zB,if_neg (by simp),Am (i:=v) (n:=13) (by omega) (by rw[Az]; omega)];exact e
 obtain⟨w1,e1⟩:=hsp n 0 bigN (by omega) (by rw[C5]; omega);refine⟨n,w1,r.who,n2,n1,?_,?_⟩
 ·unfold J4;rw[A0z,hdo,zB,if_pos rfl,bh hl,ht,zB];unfold O4;rw[if_neg (by simp),A0y hl ht hd hN,zB];exact e1
 ·unfold MB Qt;have ht':=ht;simp only[DY,zE] at ht'
  rw[Ua,hdo,zB,if_pos rfl,aO,ht'.1,zB,if_pos rfl,Zv hl,ht'.2,zB,zB,if_pos rfl,m3,zB,n3,zB];have c1:Tq ⟨nn ms,(n:X),[],[]⟩=O (b,r):=c1;rw[c1,zB,c2]
end
section
variable {c : X1} {fl : Q X4}
def Cz(c:X1)(p:X3):X × X:=if p.Toward=E then((At c p.Segment).A,(At c p.Segment).B) else((At c p.Segment).B,(At c p.Segment).A)
theorem PI{p:X3}(h:idx p.Segment c.Segments.length=E):FO c p=O (Cz c p):=by
 unfold FO Cz;rw[(BP h).1,zB];split<;>rfl
theorem Zt{p:X3}(h:idx p.Segment c.Segments.length=E):Kv p c=O (Cz c p):=by
 unfold Kv Cz;rw[(BP h).1,zB];split<;>rfl
theorem WY{p:X3}(hc:AF c=E)(h:idx p.Segment c.Segments.length=E):0≤(Cz c p).1∧(Cz c p).1<8∧0≤(Cz c p).2∧(Cz c p).2<8:=by
 have hp:=(EY hc).1;have hx:=(BP h).2;simp only[AF,zE,decide_eq_true_eq,yB,kJ] at hc
 obtain⟨i,hi,e⟩:=zN hx;have:=hc.2.2.2 i hi;simp only[DX,zC hi,e,idx,zE,decide_eq_true_eq] at this
 unfold Cz;split<;>(simp only; omega)
theorem Py{p:X3}(hc:AF c=E)(h:Cg c fl p=E):p.Start<p.End:=by
 simp only[Cg,Ce,zE,decide_eq_true_eq] at h;obtain⟨h3,h4,h5,h6,h7⟩:=h;obtain⟨_,_,a,b⟩:=(EY hc).2.2 _ (BP h4).2;rw[h7];unfold AG;split
 ·rw[Ao (n:=2*_) (by omega) (by omega),Ao (by omega) (by omega)]; omega
 ·rw[Ao (by omega) (by omega)]; omega
theorem tp{p:X3}(hn:∀x∈c.Points,x.Name.length≤maxLen)(hf:∀x∈fl,x.Name.length≤maxLen)(h1:AF c=E)(h2:DN fl=E):MI c fl p=O (Cg c fl p):=by
 unfold MI;rw[EL hn,h1,zB,if_pos rfl,Zp hf,h2,zB,if_pos rfl,uE,zB]
def CL(c:X1)(p q:X3):Xc:=⟨p.Start,q.End,(Cz c p).1,(Cz c q).2⟩
theorem Zs{p q:X3}(h1:idx p.Segment c.Segments.length=E)(h2:idx q.Segment c.Segments.length=E):KE c p q=O (CL c p q):=by
 unfold KE;rw[Zt h1,zB,Zt h2,zB];rfl
theorem WV{p q:X3}(hc:AF c=E)(h1:idx p.Segment c.Segments.length=E)(h2:idx q.Segment c.Segments.length=E)(h3:0≤p.Start)(h4:p.Start<q.End)(h5:q.End≤2880):Bn (CL c p q)=E:=by
 obtain⟨a1,a2,_,_⟩:=WY hc h1;obtain⟨_,_,b1,b2⟩:=WY hc h2;unfold Bn CL;simp only[zE,decide_eq_true_eq];exact⟨h3,h4,h5,⟨a1,a2⟩,b1,b2⟩
theorem A3c{p:X3}{s:X4}(hs:ix fl p.Ship=O s)(h1:idx p.Segment c.Segments.length=E)(all:Q X3)(v1:X)(K:X→Q Xc→U (Q Xc × Y)){T:Z}(hT:s.Tugs=(T:X))(hT4:T≤4) :
  ∀(r k n:Z) (acc:Q Xc),k+r=T→r<n→acc.length≤12+k→H2 fl (Cz c p) all v1 c p K n (k:X) acc =
   if(decide ((12:X)<((acc++zI r (CL c p p)).length:X))) then O (([]:Q Xc),G) else K (kY .i64 (v1+(1:X))) (acc++zI r (CL c p p)):=by
 intro r
 induction r with
 | zero=>
  intro k n acc hk hn ha;obtain⟨n,rfl⟩:∃n',n=n'+1:=⟨n - 1,by omega⟩;rw[H2,hs,zB,if_neg (by rw[hT]; simp; omega)];simp
 | succ r ih=>
  intro k n acc hk hn ha;obtain⟨n,rfl⟩:∃n',n=n'+1:=⟨n - 1,by omega⟩;rw[H2,hs,zB,if_pos (by rw[hT]; simp; omega),if_pos (F9 (by simp; omega) (by omega)),Am (i:=k) (n:=5) (by omega) (by rw[Az]; omega)];have:=ih (k+1) n (acc++ [CL c p p]) (by omega) (by omega) (by simp; omega);refine this.trans ?_;rw[yL];rfl
theorem A3b{p:X3}{s:X4}(h1:idx p.Segment c.Segments.length=E)(all:Q X3)(v1:X)(K:X→Q Xc→U (Q Xc × Y)){T:Z}(hT:s.Tugs=(T:X))(hT4:T≤4) :
  ∀(r k n:Z) (acc:Q Xc),k+r=T→r<n→acc.length≤12+k→GC fl all v1 s c p K n (k:X) acc =
   if(decide ((12:X)<((acc++zI r (CL c p p)).length:X))) then O (([]:Q Xc),G) else K (kY .i64 (v1+(1:X))) (acc++zI r (CL c p p)):=by
 intro r
 induction r with
 | zero=>
  intro k n acc hk hn ha;obtain⟨n,rfl⟩:∃n',n=n'+1:=⟨n - 1,by omega⟩;rw[GC,if_neg (by rw[hT]; simp; omega)];simp
 | succ r ih=>
  intro k n acc hk hn ha;obtain⟨n,rfl⟩:∃n',n=n'+1:=⟨n - 1,by omega⟩;rw[GC,if_pos (by rw[hT]; simp; omega),Zs h1 h1,zB,if_pos (F9 (by simp; omega) (by omega)),Am (i:=k) (n:=5) (by omega) (by rw[Az]; omega)];have:=ih (k+1) n (acc++ [CL c p p]) (by omega) (by omega) (by simp; omega);refine this.trans ?_;rw[yL];rfl
theorem Tg{w:Xn}(h:Fc w=E):Ce w.Rest=E∧ET w.Moves=E:=by
 simp only[Fc,zE] at h;exact⟨h.2.2.1,by simp only[ET,zE]; exact h.2.2.2⟩
theorem jS{p:X}{m:Q X}{l:Q Xc}(h1:l.length≤12)(h2:∀d∈l,Bn d=E)(h3:Ce p=E)(h4:ET m=E):Q5 p m l=E:=by
 simp only[Q5,DY,h3,h4,Bool.and_self,Bool.and_true,zE,decide_eq_true_eq,yB];exact⟨h1,h2⟩
end
theorem Qa{n m b:Z}(h:n+m≤3000000000000)(hb:b≤40):A3 n m b=E:=by
 unfold A3;have:(n+m)*b≤3000000000000*40:=yW h hb;simp;omega
def BF(l:Q X0):Q (Q X3):=l.map fun o=>o.Passages
theorem A1a{l:Q X0}(hl:l.length≤1048576)(hp:∀o∈l,o.Passages.length≤1048576):L8 l=O (BF l):=by
 unfold L8;refine G6 (L:=IT l) l (fun o=>o.Passages) O (by rw[Az]; omega) (fun n i acc h ha=> ?_) (fun n acc ha=>by simp[IT]);have:=hp _ (zF h);rw[IT,Ag,if_pos (by simpa using h),Ac h,zB,if_pos (Qa (by simp; omega) (by omega)),if_pos (Qa (by simp; omega) (by omega))]
theorem qY{α R:Type}{L:Z→X→Q α→U R}(cs:Q (Q α))(K:U R)(hl:cs.length≤1048576)(hb:∀x∈cs,x.length≤1048576)
  (hs:∀(n i:Z) (acc:Q α) (h:i<cs.length),acc.length≤i*1048576→L (n+1) (i:X) acc=L n (kY .i64 ((i:X)+1)) (acc++cs[i])) (he:∀n,L (n+1) (cs.length:X) cs.flatten=K):L bigN 0 []=K∧cs.flatten.length≤1099511627776:=by
 have key:∀(k i n:Z),i+k=cs.length→k<n→L n (i:X) (cs.take i).flatten=K:=by
  have hlen:∀i:Z,i≤cs.length→(cs.take i).flatten.length≤i*1048576:=by
   intro i
   induction i with
   | zero=>intro _; simp
   | succ i ih=>
    intro hi;rw[zJ (by omega),kI,zO];have h1:=ih (by omega);have h2:=hb _ (zF (show i<cs.length by omega));have e3: [cs[i]].flatten.length=cs[i].length:=by simp
    rw[e3];omega
  intro k
  induction k with
  | zero=>
   intro i n hi hn;obtain⟨m,rfl⟩:∃m,n=m+1:=⟨n - 1,by omega⟩;have:i=cs.length:=by omega
   subst this;rw[yF,he]
  | succ k ih=>
   intro i n hi hn;obtain⟨m,rfl⟩:∃m,n=m+1:=⟨n - 1,by omega⟩;have hlt:i<cs.length:=by omega
   rw[hs m i _ hlt (hlen i (by omega)),Am hlt (by rw[Az]; omega)];have:=ih (i+1) m (by omega) (by omega);rw[zJ hlt,kI] at this
   simpa using this
 have hall:∀(k:Z),k≤cs.length→(cs.take k).flatten.length≤k*1048576:=by
  intro i
  induction i with
  | zero=>intro _; simp
  | succ i ih=>
   intro hi;rw[zJ (by omega),kI,zO];have h1:=ih (by omega);have h2:=hb _ (zF (show i<cs.length by omega));have e3: [cs[i]].flatten.length=cs[i].length:=by simp
   rw[e3];omega
 refine⟨key cs.length 0 bigN (by omega) (by rw[C5]; omega),?_⟩;have:=hall cs.length (kB _);rw[yF] at this
 omega
theorem xC{s:Q I}(h:EM s=E):1≤s.length∧s.length≤8:=by
 simp only[EM,Pq,zE,decide_eq_true_eq] at h;omega
def PP(x p:X):X:=if x<kY .i64 (zZ p 2) then
  kY .i64 (zZ (kY .i64 (kY .i64 (40000*x)*kY .i64 (kY .i64 (zZ p 2) - x))) (kY .i64 (kY .i64 (zZ p 2)*kY .i64 (zZ p 2))))
 else kY .i64 (0 - kY .i64 (zZ (kY .i64 (kY .i64 (40000*kY .i64 (x - kY .i64 (zZ p 2)))*kY .i64 (kY .i64 (zZ p 2) - kY .i64 (x - kY .i64 (zZ p 2))))) (kY .i64 (kY .i64 (zZ p 2)*kY .i64 (zZ p 2)))))
theorem UL{p:X}(h:G5 p=E):4≤p∧p≤2880∧kY .i64 (yU p 4)=0:=by
 simp only[G5,zE,decide_eq_true_eq,beq_iff_eq] at h;exact⟨h.1.1,h.1.2,h.2⟩
theorem XR{p:X}(h1:4≤p)(h2:p≤2880):(kY .i64 (kY .i64 (zZ p 2)*kY .i64 (zZ p 2))==0)=G:=by
 have e:zZ p 2=p / 2:=Int.tdiv_eq_ediv_of_nonneg (by omega);rw[e,Ao (n:=p / 2) (by omega) (by omega)];generalize hq:p / 2=q
 have q1:2≤q:=by omega
 have q2:q≤1440:=by omega
 have m1:2*2≤q*q:=Int.mul_le_mul q1 q1 (by omega) (by omega);have m2:q*q≤1440*1440:=Int.mul_le_mul q2 q2 (by omega) (by omega);rw[Ao (by omega) (by omega)];simp only[beq_eq_false_iff_ne,ne_eq];omega
theorem A09{n p:X}(hp:G5 p=E)(hn:0≤n)(hn2:n≤100000):Ol n p=O (PP (yU n p) p):=by
 obtain⟨p1,p2,p3⟩:=UL hp;have hm:yU n p=n % p:=yR hn;have r1:=Int.emod_nonneg n (show p≠0 by omega);have r2:=Int.emod_lt_of_pos n (show 0<p by omega);unfold Ol;rw[hm,Ao (n:=n % p) (by omega) (by omega),p3];have k1:¬p<4:=by omega
 have k2:¬2880<p:=by omega
 have k3:(p==0)=G:=by simp; omega
 have k4:¬n % p<0:=by omega
 simp only[k1,k2,k3,k4,decide_false,zD,if_false,bne_self_eq_false];unfold Om PP;rw[XR p1 p2];simp only[zD,if_false,decide_eq_true_eq];split<;>rfl
theorem tx{n p:X}(hp:G5 p=E)(hn:0≤n)(hn2:n≤100000):MT n p=O (PP (yU n p) p):=by
 obtain⟨p1,p2,p3⟩:=UL hp;have hm:yU n p=n % p:=yR hn;have r1:=Int.emod_nonneg n (show p≠0 by omega);have r2:=Int.emod_lt_of_pos n (show 0<p by omega);have k3:(p==0)=G:=by simp; omega
 have hmm:yU (n % p+p) p=n % p:=by
  rw[yR (by omega),Int.add_emod_right,Int.emod_emod]
 unfold MT;rw[ZL,hp,zB,hm,Ao (n:=n % p) (by omega) (by omega),Ao (n:=n % p+p) (by omega) (by omega),hmm,Ao (n:=n % p) (by omega) (by omega),XR p1 p2];simp only[k3,zD,if_false,if_true,decide_eq_true_eq];unfold PP;by_cases hx:n % p<kY .i64 (zZ p 2)
 ·rw[if_pos hx,if_neg (by omega)]
 ·rw[if_neg hx,if_pos (by omega)]
theorem wM{t:Xm}{m:X}(ht:F0 t=E)(h0:0≤m)(h1:m≤2880):∃r,Ln t m=O r∧Qs t m=O r:=by
 simp only[F0,zE,decide_eq_true_eq,yB] at ht
 obtain⟨_,hl,hp⟩:=ht;have hlm:t.Parts.length≤maxLen:=by rw[Az]; omega
 have key:∀(k i n:Z) (v:X),i+k=t.Parts.length→k<n→∃r,Jg m t n v (i:X)=O r∧Ia m t n v (i:X)=O r:=by
  intro k
  induction k with
  | zero=>
   intro i n v hi hn;obtain⟨q,rfl⟩:∃q,n=q+1:=⟨n - 1,by omega⟩;have:i=t.Parts.length:=by omega
   subst this;exact⟨v,by simp[Jg],by simp[Ia]⟩
  | succ k ih=>
   intro i n v hi hn;obtain⟨q,rfl⟩:∃q,n=q+1:=⟨n - 1,by omega⟩;have hlt:i<t.Parts.length:=by omega
   have hx:=hp _ (zF hlt);simp only[Hr,zE,decide_eq_true_eq] at hx
   obtain⟨_,hx1,hx2,hx3⟩:=hx;obtain⟨p1,p2,_⟩:=UL hx1;rw[Ao (by omega) (by omega)] at hx3
   have hw:=Ao (n:=m+t.Parts[i].Phase) (by omega) (by omega);obtain⟨r,e1,e2⟩:=ih (i+1) q (kY .i64 (v+kY .i64 (zZ (kY .i64 (t.Parts[i].Amp*PP (yU (m+t.Parts[i].Phase) t.Parts[i].Period) t.Parts[i].Period)) 10000))) (by omega) (by omega);rw[← Am hlt hlm] at e1 e2
   refine⟨r,?_,?_⟩
   ·simp only[Jg,An,zC hlt,zB,Ag,hlt,decide_true,if_true,hw,A09 hx1 (show 0≤m+t.Parts[i].Phase by omega) (by omega)];exact e1
   ·simp only[Ia,An,zC hlt,zB,Ag,hlt,decide_true,if_true,hw,tx hx1 (show 0≤m+t.Parts[i].Phase by omega) (by omega)];exact e2
 exact key t.Parts.length 0 bigN t.Mean (by omega) (Bp hlm)
theorem qN{f:Xe}(h:Dq f=E):F0 f.Tide=E∧0<f.Surges.length∧f.Surges.length≤6:=by
 simp only[Dq,zE,decide_eq_true_eq] at h;refine⟨h.1,?_,?_⟩<;>omega
theorem A2a{f:Xe}{m:X}(h0:0<f.Surges.length)(h6:f.Surges.length≤6):∃(a:Z) (ha:a<f.Surges.length),Mw f m=O (a:X)∧Jh f m=O f.Surges[a]:=by
 have hl:f.Surges.length≤maxLen:=by rw[Az]; omega
 have key:∀(k i n a:Z) (ha:a<f.Surges.length),i+k=f.Surges.length→k<n→∃(a':Z) (ha':a'<f.Surges.length),Fh m f n (a:X) (i:X)=O (a':X)∧
   FM m f n (i:X) f.Surges[a].From f.Surges[a].Low f.Surges[a].High=O f.Surges[a']:=by
  intro k
  induction k with
  | zero=>
   intro i n a ha hi hn;obtain⟨q,rfl⟩:∃q,n=q+1:=⟨n - 1,by omega⟩;have:i=f.Surges.length:=by omega
   subst this;exact⟨a,ha,by simp[Fh],by simp[FM]⟩
  | succ k ih=>
   intro i n a ha hi hn;obtain⟨q,rfl⟩:∃q,n=q+1:=⟨n - 1,by omega⟩;have hlt:i<f.Surges.length:=by omega
   by_cases hm:f.Surges[i].From≤m
   ·obtain⟨a',ha',e1,e2⟩:=ih (i+1) q i hlt (by omega) (by omega);rw[← Am hlt hl] at e1 e2
    refine⟨a',ha',?_,?_⟩
    ·simp only[Fh,An,zC hlt,zB,Ag,hlt,decide_true,if_true,hm];exact e1
    ·simp only[FM,An,zC hlt,zB,Ag,hlt,decide_true,if_true,hm];exact e2
   ·obtain⟨a',ha',e1,e2⟩:=ih (i+1) q a ha (by omega) (by omega);rw[← Am hlt hl] at e1 e2
    refine⟨a',ha',?_,?_⟩
    ·simp only[Fh,An,zC hlt,zB,Ag,hlt,decide_true,if_true,hm,decide_false,zD,if_false];exact e1
    ·simp only[FM,An,zC hlt,zB,Ag,hlt,decide_true,if_true,hm,decide_false,zD,if_false];exact e2
 obtain⟨a,ha,e1,e2⟩:=key f.Surges.length 0 bigN 0 h0 (by omega) (Bp hl);have z:((0:Z):X)=0:=rfl;rw[z] at e1 e2
 have e0:ix f.Surges 0=O f.Surges[0]:=Ac h0;refine⟨a,ha,?_,?_⟩
 ·unfold Mw;exact e1
 ·unfold Jh;rw[e0,zB];exact e2
def UX(s:X4):X:=if s.Slow=E then kY .i64 (zZ s.Draught 50) else kY .i64 (zZ s.Draught 20)
def JF(c:X1)(i:X)(s:X4):X:=kY .i64 (kY .i64 (kY .i64 (s.Draught+UX s)+50) - (At c i).Depth)
theorem A01{c:X1}{s:X4}{i:X}(hn:∀x∈c.Points,x.Name.length≤maxLen)(hs:s.Name.length≤maxLen)(h1:AF c=E)(h2:CF s=E)(h3:idx i c.Segments.length=E):O5 c i s=O (JF c i s):=by
 have:=(EY h1).2.1;unfold O5 Jm QY R5;simp only[DB hn,LW hs,h1,h2,zB,if_true,CQ i (show c.Segments.length≤1000 by omega),h3,(BP h3).1,JF,UX];cases s.Slow<;>rfl
theorem tl{c:X1}{s:X4}{i:X}(hn:∀x∈c.Points,x.Name.length≤maxLen)(hs:s.Name.length≤maxLen)(h1:AF c=E)(h2:CF s=E)(h3:idx i c.Segments.length=E):MC c i s=O (JF c i s):=by
 unfold MC Ik Qp Qq;simp only[EL hn,Hb hs,h1,h2,zB,if_true,DO,h3,(BP h3).1,JF,UX];cases s.Slow<;>rfl
def PQ(l:Q X6)(i:Z):Y:=match l[i]? with
 | some x=>decide (0≤x.From)&&(decide (x.From≤x.To)&&(decide (x.To≤2880)&&(match l[i - 1]? with | some y=>decide (i=0) || !(decide (x.From≤kY .i64 (y.To+1))) | none=>E)))
 | none=>G
def PR(l:Q X6):Y:=(zL l.length).all (PQ l)
theorem bC{α:Type}{l:Q α}{i:Z}(h0:0<i)(hi:i<l.length)(hl:l.length≤maxLen):ix l (kY .i64 ((i:X) - 1))=O (l[i - 1]'(by omega)):=by
 rw[Az] at hl
 rw[Ao (by omega) (by omega),show(i:X) - 1=((i - 1:Z):X) by omega,Ac (by omega)]
theorem bj{l:Q X6}(hl:l.length≤maxLen):Ll l=O (PR l):=by
 unfold Ll PR;refine M9 (L:=FL l) l.length (PQ l) hl (fun n i hi=> ?_) (fun n=>by simp[FL]);have hp:i - 1<l.length:=by omega
 simp only[FL,Ag,hi,decide_true,if_true,Ac hi,zB,Bw,PQ,zC hi,zC hp];generalize FL l n (kY .i64 ((i:X)+1))=K
 by_cases h0:i=0
 ·subst h0;have hz:¬(0:X)<((0:Z):X):=by omega
  simp only[hz,decide_false,zD,if_false,decide_true,Bool.true_or];by_cases a1:0≤l[0].From<;>by_cases a2:l[0].From≤l[0].To<;>by_cases a3:l[0].To≤2880<;>by_cases a4:l[0].From≤2880<;>simp[a1,a2,a3,a4]<;>omega
 ·have hz:(0:X)<(i:X):=by omega
  simp only[hz,decide_true,if_true,bC (by omega) hi hl,zB,h0,decide_false,Bool.false_or];by_cases a1:0≤l[i].From<;>by_cases a2:l[i].From≤l[i].To<;>by_cases a3:l[i].To≤2880<;>by_cases a4:l[i].From≤2880<;>by_cases a5:l[i].From≤kY .i64 (l[i - 1].To+1)<;>simp[a1,a2,a3,a4,a5]<;>omega
theorem Zr{l:Q X6}(hl:l.length≤maxLen):Ky l=O (PR l):=by
 unfold Ky PR;refine M9 (L:=Fm l) l.length (PQ l) hl (fun n i hi=> ?_) (fun n=>by simp[Fm]);have hp:i - 1<l.length:=by omega
 simp only[Fm,Ag,hi,decide_true,if_true,Ac hi,zB,PQ,zC hi,zC hp];generalize Fm l n (kY .i64 ((i:X)+1))=K
 have b1:decide (l[i].From<0)= !decide (0≤l[i].From):=by rw[zR]; simp
 have b2:decide (l[i].To<l[i].From)= !decide (l[i].From≤l[i].To):=by rw[zR]; simp
 have b3:decide (2880<l[i].To)= !decide (l[i].To≤2880):=by rw[zR]; simp
 rw[b1,b2,b3];by_cases h0:i=0
 ·subst h0;have hz:¬(0:X)<((0:Z):X):=by omega
  simp only[hz,decide_false,zD,if_false,decide_true,Bool.true_or];cases decide (0≤l[0].From)<;>cases decide (l[0].From≤l[0].To)<;>cases decide (l[0].To≤2880)<;>rfl
 ·have hz:(0:X)<(i:X):=by omega
  simp only[hz,decide_true,if_true,bC (by omega) hi hl,zB,h0,decide_false,Bool.false_or];cases decide (0≤l[i].From)<;>cases decide (l[i].From≤l[i].To)<;>cases decide (l[i].To≤2880)<;>cases decide (l[i].From≤kY .i64 (l[i - 1].To+1))<;>rfl
def Db(g:Z→Y)(n:Z):Y:=decide (0<n)&&g (n - 1)
def So(v:Q X6)(n:X):Q X6:=v.dropLast++ [⟨(v.getLast?.getD ⟨0,0⟩).From,n⟩]
def AX(g:Z→Y):Z→Q X6
 | 0=> []
 | n+1=>if g n=E then(if Db g n=E then So (AX g n) (n:X) else AX g n++ [⟨(n:X),(n:X)⟩]) else AX g n
theorem ae(g:Z→Y)(n:Z):Db g (n+1)=g n:=by simp[Db]
theorem UR(l:Q X6)(x:X6)(n:X):So (l++ [x]) n=l++ [⟨x.From,n⟩]:=by simp[So]
theorem SF(g:Z→Y):∀n,(AX g n).length≤n∧(Db g n=E→∃l x,AX g n=l++ [x]∧x.To=(n:X) - 1)∧(Db g n=G→AX g n= []∨∃l x,AX g n=l++ [x]∧x.To<(n:X) - 1)
 | 0=>⟨by simp[AX],by simp[Db],fun _=> .inl rfl⟩
 | n+1=>by
  obtain⟨h1,h2,h3⟩:=SF g n;rw[ae];by_cases hg:g n=E
  ·by_cases ho:Db g n=E
   ·obtain⟨l,x,e,ht⟩:=h2 ho;have ew:AX g (n+1)=l++ [⟨x.From,(n:X)⟩]:=by simp only[AX,hg,if_true,ho,e,UR]
    refine⟨by rw[ew]; rw[e] at h1; simp at h1 ⊢; omega,fun _=>⟨l,_,ew,by simp only; omega⟩,fun h=>by rw[hg] at h; cases h⟩
   ·have ew:AX g (n+1)=AX g n++ [⟨(n:X),(n:X)⟩]:=by simp only[AX,hg,if_true,ho,if_false]; rfl
    refine⟨by rw[ew]; simp; omega,fun _=>⟨_,_,ew,by simp only; omega⟩,fun h=>by rw[hg] at h; cases h⟩
  ·have ew:AX g (n+1)=AX g n:=by simp[AX,hg]
   rw[ew];refine⟨by omega,fun h=>absurd h hg,fun _=> ?_⟩;cases ho:Db g n with
   | true=>
    obtain⟨l,x,e,ht⟩:=h2 ho;exact .inr ⟨l,x,e,by omega⟩
   | false=>
    rcases h3 ho with e|⟨l,x,e,ht⟩
    ·exact .inl e
    ·exact .inr ⟨l,x,e,by omega⟩
theorem dJ{g g':Z→Y}:∀n,(∀j,j<n→g j=g' j)→AX g n=AX g' n
 | 0,_=>rfl
 | n+1,h=>by
  have e1:Db g n=Db g' n:=by
   unfold Db;by_cases h0:0<n
   ·rw[h (n - 1) (by omega)]
   ·simp[h0]
  simp only[AX,h n (by omega),e1,dJ n fun j hj=>h j (by omega)]
theorem S9{l:Q X6}{x:X6}(h:l.length≤100000):ix (l++ [x]) (kY .i64 (((l++ [x]).length:X) - 1))=O x∧Int.toNat (kY .i64 (((l++ [x]).length:X) - 1))=l.length:=by
 have e:kY .i64 (((l++ [x]).length:X) - 1)=((l.length:Z):X):=by
  rw[Ao (by simp<;>omega) (by simp<;>omega)];simp
 rw[e];exact⟨by rw[Ac (by simp)]; simp,by simp⟩
theorem A02{L:Q Y}(hl:L.length≤3000):Oq L=O (AX (fun i=>L.getD i G) L.length):=by
 unfold Oq
 have key:∀(k i n:Z),i+k=L.length→k<n→EH L n (i:X) (AX (fun i=>L.getD i G) i)=O (AX (fun i=>L.getD i G) L.length):=by
  intro k
  induction k with
  | zero=>
   intro i n hi hn;obtain⟨m,rfl⟩:∃m,n=m+1:=⟨n - 1,by omega⟩;have:i=L.length:=by omega
   subst this;simp[EH]
  | succ k ih=>
   intro i n hi hn;obtain⟨m,rfl⟩:∃m,n=m+1:=⟨n - 1,by omega⟩;have hlt:i<L.length:=by omega
   have ih':=ih (i+1) m (by omega) (by omega);have hw:=Am hlt (show L.length≤maxLen by rw[Az]; omega);obtain⟨w1,w2,w3⟩:=SF (fun i=>L.getD i G) i;have hgi:L.getD i G=L[i]:=by simp[hlt]
   rw[AX] at ih'
   simp only[hgi] at ih'
   simp only[EH,Ag,hlt,decide_true,if_true,Ac hlt,zB];have hwm:kY .i64 ((i:X) - 1)=(i:X) - 1:=Ao (by omega) (by omega);generalize hwi:AX (fun i=>L.getD i G) i=v at *
   cases hb:L[i] with
   | false=>
    rw[hb] at ih'
    simp only[zD,if_false] at ih' ⊢
    rw[hw];exact ih'
   | true=>
    rw[hb] at ih'
    simp only[if_true] at ih' ⊢
    cases ho:Db (fun i=>L.getD i G) i with
    | true=>
     rw[ho] at ih'
     obtain⟨l,x,rfl,ht⟩:=w2 ho;obtain⟨q1,q2⟩:=S9 (l:=l) (x:=x) (by simp at w1; omega);have hpos:0<(l++ [x]).length:=by simp
     have hpos':decide ((0:X)<((l++ [x]).length:X))=E:=decide_eq_true (by omega);rw[if_pos hpos',q1];simp only[zB,Ji,hwm,ht,beq_self_eq_true,if_true,q1,q2];rw[hw];simp only[if_true,UR] at ih'
     simpa using ih'
    | false=>
     rw[ho] at ih'
     simp only[zD,if_false] at ih'
     have fin:∀w:Q X6,w=v→Ji (i:X) L w (EH L m) G=O (AX (fun i=>L.getD i G) L.length):=by
      rintro w rfl
      simp only[Ji,zD,if_false];rw[OS (by simp; omega) (by omega),hw];exact ih'
     rcases w3 ho with rfl|⟨l,x,rfl,ht⟩
     ·exact fin [] rfl
     ·obtain⟨q1,q2⟩:=S9 (l:=l) (x:=x) (by simp at w1; omega);have hpos':decide ((0:X)<((l++ [x]).length:X))=E:=decide_eq_true (by simp<;>omega);have hne:(x.To==(i:X) - 1)=G:=by simp<;>omega
      rw[if_pos hpos',q1];simp only[zB,hwm,hne];exact fin _ zA
 exact key L.length 0 bigN (by omega) (Bp (by rw[Az]; omega))
theorem tm{a0:X→U Y}{g:Z→Y}(h:∀i:Z,i≤2880→a0 (i:X)=O (g i)):Nc a0=O (AX g 2881):=by
 unfold Nc
 have key:∀(k i n:Z),i+k=2881→k<n→Ft a0 n (Db g i) (i:X) (AX g i)=O (AX g 2881):=by
  intro k
  induction k with
  | zero=>
   intro i n hi hn;obtain⟨m,rfl⟩:∃m,n=m+1:=⟨n - 1,by omega⟩;have:i=2881:=by omega
   subst this;simp[Ft]
  | succ k ih=>
   intro i n hi hn;obtain⟨m,rfl⟩:∃m,n=m+1:=⟨n - 1,by omega⟩;have hle:decide ((i:X)≤2880)=E:=decide_eq_true (by omega);have ih':=ih (i+1) m (by omega) (by omega);have hw:kY .i64 ((i:X)+1)=((i+1:Z):X):=Am (n:=2881) (by omega) (by rw[Az]; omega);obtain⟨w1,w2,w3⟩:=SF g i;rw[ae,AX] at ih'
   simp only[Ft,hle,if_true,h i (by omega),zB];generalize hwi:AX g i=v at *
   cases hb:g i with
   | false=>
    rw[hb] at ih'
    simp only[zD,if_false,It] at ih' ⊢
    rw[hw];exact ih'
   | true=>
    rw[hb] at ih'
    simp only[if_true] at ih' ⊢
    cases ho:Db g i with
    | true=>
     rw[ho] at ih'
     obtain⟨l,x,rfl,ht⟩:=w2 ho;obtain⟨q1,q2⟩:=S9 (l:=l) (x:=x) (by simp at w1; omega);simp only[if_true,KJ,q1,zB,It,q2];rw[hw];simp only[if_true,UR] at ih'
     simpa using ih'
    | false=>
     rw[ho] at ih'
     simp only[zD,if_false] at ih' ⊢
     rw[OS (by simp; omega) (by omega)];obtain⟨q1,q2⟩:=S9 (l:=v) (x:=⟨(i:X),0⟩) (by omega);simp only[KJ,q1,zB,It,q2];rw[hw];simpa using ih'
 have:=key 2881 0 bigN (by omega) (Bp (by rw[Az]; omega));exact this
def Dv(f:Xe)(m:Z):X:=kY .i64 ((Ln f.Tide (m:X)).getD 0+((Jh f (m:X)).getD ⟨0,0,0⟩).Low)
theorem aC{f:Xe}(hf:Dq f=E){m:Z}(hm:m≤2880):∃r x,Ln f.Tide (m:X)=O r∧Jh f (m:X)=O x∧Dv f m=kY .i64 (r+x.Low)∧Mv f (m:X)=O (Dv f m):=by
 obtain⟨ht,h0,h6⟩:=qN hf;obtain⟨r,r1,r2⟩:=wM ht (show(0:X)≤(m:X) by omega) (by omega);obtain⟨a,ha,a1,a2⟩:=A2a (m:=(m:X)) h0 h6;refine⟨r,_,r1,a2,by simp[Dv,r1,a2],?_⟩;unfold Mv;simp[r2,a1,Ac ha,Dv,r1,a2]
theorem wN{f:Xe}(hf:Dq f=E)(lv:X):On f lv G=O (AX (fun i=>decide (lv≤Dv f i)) 2881):=by
 unfold On
 have key:∀(k i n:Z),i+k=2881→k<n→GS lv f n G (i:X) ((zL i).map fun j=>decide (lv≤Dv f j))=O (AX (fun i=>decide (lv≤Dv f i)) 2881):=by
  intro k
  induction k with
  | zero=>
   intro i n hi hn;obtain⟨m,rfl⟩:∃m,n=m+1:=⟨n - 1,by omega⟩;have:i=2881:=by omega
   subst this;have hd:decide (((2881:Z):X)≤2880)=G:=by decide
   simp only[GS,hd,zD,if_false];rw[A02 (by simp)];simp only[zB,List.length_map,List.length_range];refine congrArg O (dJ 2881 fun j hj=> ?_);show(((zL 2881).map fun j=>decide (lv≤Dv f j)).getD j G)=_
   rw[List.getD_eq_getElem?_getD,kA,List.getElem?_range hj];rfl
  | succ k ih=>
   intro i n hi hn;obtain⟨m,rfl⟩:∃m,n=m+1:=⟨n - 1,by omega⟩;have hle:decide ((i:X)≤2880)=E:=decide_eq_true (by omega);have hw:kY .i64 ((i:X)+1)=((i+1:Z):X):=Am (n:=2881) (by omega) (by rw[Az]; omega);obtain⟨r,x,e1,e2,e3,_⟩:=aC hf (show i≤2880 by omega);simp only[GS,hle,if_true,e2,zB,zD,if_false,Oo,e1];rw[OS (by simp; omega) (by omega),hw];have:=ih (i+1) m (by omega) (by omega);rw[List.range_succ,kV] at this
   simpa[e3] using this
 have:=key 2881 0 bigN (by omega) (Bp (by rw[Az]; omega));exact this
theorem wZ{f:Xe}(hf:Dq f=E)(lv:X):MD f lv=O (AX (fun i=>decide (lv≤Dv f i)) 2881):=by
 unfold MD;rw[OT,hf];simp only[zB,if_true];rw[tm (g:=fun i=>decide (lv≤Dv f i)) fun i hi=> ?_]
 ·rfl
 ·obtain⟨_,_,_,_,_,e⟩:=aC hf hi;simp[Qn,e]
theorem dK(g:Z→Y):∀n,∀w∈AX g n,0≤w.From∧w.From≤w.To∧w.To<(n:X)
 | 0,w,h=>by cases h
 | n+1,w,h=>by
  have ih:=dK g n;simp only[AX] at h;split at h
  ·split at h
   ·unfold So at h;rcases zV.1 h with h|h
    ·have:=ih w ((List.dropLast_sublist _).subset h); omega
    ·simp only[zS] at h;subst h;cases e:(AX g n).getLast? with
     | none=>simp only[Option.getD_none]; omega
     | some x=>have:=ih x (List.mem_of_getLast? e); simp only[Option.getD_some]; omega
   ·rcases zV.1 h with h|h
    ·have:=ih w h; omega
    ·simp only[zS] at h;subst h;simp only;omega
  ·have:=ih w h; omega
theorem A0s(a1:X)(a0:Q X6)(hl:a0.length≤100000)(hb:0≤a1)(hb2:a1≤2880)(hW:∀w∈a0,0≤w.From∧w.From≤w.To∧w.To<(2881:X)):∃r,FJ a1 a0 bigN 0 []=O r∧Fl a1 a0 bigN 0 []=O r∧r.length≤a0.length∧∀w∈r,0≤w.From∧w.From≤w.To∧w.To+a1≤2880:=by
 have key:∀(k i n:Z) (acc:Q X6),i+k=a0.length→k<n→acc.length≤i→(∀w∈acc,0≤w.From∧w.From≤w.To∧w.To+a1≤2880)→∃r,FJ a1 a0 n (i:X) acc=O r∧Fl a1 a0 n (i:X) acc=O r∧r.length≤a0.length∧∀w∈r,0≤w.From∧w.From≤w.To∧w.To+a1≤2880:=by
  intro k
  induction k with
  | zero=>
   intro i n acc hi hn ha hq;obtain⟨m,rfl⟩:∃m,n=m+1:=⟨n - 1,by omega⟩;have:i=a0.length:=by omega
   subst this;exact⟨acc,by simp[FJ],by simp[Fl],ha,hq⟩
  | succ k ih=>
   intro i n acc hi hn ha hq;obtain⟨m,rfl⟩:∃m,n=m+1:=⟨n - 1,by omega⟩;have hlt:i<a0.length:=by omega
   simp only[FJ,Fl,Ag,hlt,decide_true,if_true,Ac hlt,zB];rw[Am hlt (show a0.length≤maxLen by rw[Az]; omega)];by_cases hc:a1≤kY .i64 (a0[i].To - a0[i].From)
   ·simp only[hc,decide_true,if_true];rw[OS (by simp; omega) (by omega),OS (by simp; omega) (by omega)];refine ih (i+1) m _ (by omega) (by omega) (by simp; omega) fun w hw=> ?_
    have hx:=hW _ (zF hlt);rw[Ao (n:=a0[i].To - a0[i].From) (by omega) (by omega)] at hc
    rcases zV.1 hw with hw|hw
    ·exact hq w hw
    ·simp only[zS] at hw
     subst hw;simp only;rw[Ao (by omega) (by omega)];omega
   ·simp only[hc,decide_false,zD,if_false];exact ih (i+1) m _ (by omega) (by omega) (by omega) hq
 exact key a0.length 0 bigN [] (by omega) (Bp (by rw[Az]; omega)) (by simp) (fun w h=>by cases h)
theorem A1p{f:Xe}{c:X1}{s:X4}{i:X}(hf:Dq f=E)(hn:∀x∈c.Points,x.Name.length≤maxLen)(hs:s.Name.length≤maxLen)(h1:AF c=E)(h2:CF s=E)(h3:idx i c.Segments.length=E) :
  ∃r,Oh f c i s=O r∧MQ f c i s=O r∧r.length≤2881∧∀w∈r,0≤w.From∧w.From≤w.To∧w.To+AG (At c i) s≤2880:=by
 have hsg:=(EY h1).2.1;have hW:=(SF (fun j=>decide (JF c i s≤Dv f j)) 2881).1;have hB:=dK (fun j=>decide (JF c i s≤Dv f j)) 2881
 have hmb:1≤AG (At c i) s∧AG (At c i) s≤480:=by
  obtain⟨_,_,a,b⟩:=(EY h1).2.2 _ (BP h3).2;unfold AG;split
  ·rw[Ao (n:=2*_) (by omega) (by omega)]; omega
  ·omega
 have hmin:ME c i s=O (AG (At c i) s):=by
  unfold ME;simp only[EL hn,Hb hs,h1,h2,zB,if_true,DO,h3,(BP h3).1,OU]
 have hok1:Jm c i s=O E:=by
  unfold Jm;simp only[DB hn,LW hs,h1,h2,zB,if_true,CQ i (show c.Segments.length≤1000 by omega),h3]
 have hok2:Ik c i s=O E:=by
  unfold Ik;simp only[EL hn,Hb hs,h1,h2,zB,if_true,DO,h3]
 unfold Oh R7 MQ;simp only[bc,OT,hf,zB,if_true,hok1,hok2,A01 hn hs h1 h2 h3,tl hn hs h1 h2 h3,wN hf,wZ hf,bf hn hs h1 h2 h3,hmin];generalize AX (fun j=>decide (JF c i s≤Dv f j)) 2881=W at hW hB
 have hWm:W.length≤maxLen:=by rw[Az]; omega
 unfold QZ Qr;simp only[bj hWm,Zr hWm,zB,Bw,Hc];obtain⟨r,r1,r2,r3,r4⟩:=A0s (AG (At c i) s) W (by omega) (by omega) (by omega) hB;by_cases hw:PR W=E
 ·by_cases hm:(decide (0≤AG (At c i) s)&&decide (AG (At c i) s≤2880))=E
  ·exact⟨r,by simp only[hw,hm,if_true,r1,zB],by simp only[hw,hm,if_true,r2,zB],by omega,r4⟩
  ·exact⟨[],by simp[hw,hm],by simp[hw,hm],by simp,fun w h=>by cases h⟩
 ·exact⟨[],by simp[hw],by simp[hw],by simp,fun w h=>by cases h⟩
theorem sn{n:Z}(h:0<n):∃q,n=q+1:=⟨n - 1,by omega⟩
theorem Af{n:Z}(h:n≤1000000000000):n≤maxLen:=by rw[Az]; omega
theorem AP{n k b:Z}(h:n≤100000000)(hk:k≤1000)(hb:b≤1000):A3 n k b=E:=by
 have:(n+k)*b≤100001000*1000:=yW (by omega) hb;simp only[A3,decide_eq_true_eq];omega
theorem B9(P:Z→Z→Prop){len:Z}(hl:len≤maxLen)(h0:∀n,P (n+1) len)(hs:∀n i,i<len→P n (i+1)→P (n+1) i){i:Z}(hi:i≤len):P bigN i:=by
 have key:∀k i n,i+k=len→k<n→P n i:=by
  intro k
  induction k with
  | zero=>
   intro i n h1 h2;obtain⟨q,rfl⟩:=sn (n:=n) (by omega);obtain rfl:i=len:=by omega
   exact h0 q
  | succ k ih=>
   intro i n h1 h2;obtain⟨q,rfl⟩:=sn (n:=n) (by omega);exact hs q i (by omega) (ih _ _ (by omega) (by omega))
 exact key (len - i) i bigN (by omega) (yV (Nat.sub_le _ _) (Bp hl))
theorem Ex{α R:Type}{L:Z→X→U R}(l:Q α)(p:α→Y)(x K:U R)(hl:l.length≤maxLen)
  (hs:∀(n i:Z) (h:i<l.length),L (n+1) (i:X)=if p l[i]=E then x else L n (kY .i64 ((i:X)+1))) (he:∀n,L (n+1) (l.length:X)=K):L bigN 0=if l.any p=E then x else K:=by
 have:=B9 (fun n i=>L n (i:X)=if(l.drop i).any p=E then x else K) hl (fun n=>by simpa using he n) (fun n i h ih=>by
  simp only[hs n i h,Am h hl,ih,zW h,List.any_cons];cases p l[i]<;>simp) (zK _)
 simpa using this
theorem JD{α:Type}{l:Q α}{x:α}(hl:l.length≤maxLen)(h:l.getLast?=O x):ix l (kY .i64 ((l.length:X) - 1))=O x:=by
 have h0:0<l.length:=by cases l with | nil=>cases h | cons=>simp
 rw[show(l.length:X) - 1=((l.length - 1:Z):X) by omega,Ao (by omega) (by rw[Az] at hl; omega),An,← zX,h]
theorem Ha{i:X}{n:Z}:idx i n=E↔0≤i∧i<(n:X):=by simp[idx]
theorem Ci{c:X1}(h:AF c=E):c.Points.length≤8∧c.Segments.length≤10∧(∀x∈c.Points,x.Name.length≤maxLen)∧∀x∈c.Segments,idx x.A c.Points.length=E∧idx x.B c.Points.length=E:=by
 simp only[AF,zE,decide_eq_true_eq,yB,kJ] at h;obtain⟨h1,h2,h3,h4⟩:=h;refine⟨h1,h2,fun x hx=> ?_,fun x hx=> ?_⟩
 ·obtain⟨i,hi,rfl⟩:=zN hx;have:=h3 i hi;simp only[Hu,zC hi,zE] at this
  exact Af (by have:=(xC this.1).2; omega)
 ·obtain⟨i,hi,rfl⟩:=zN hx;have:=h4 i hi;simp only[DX,zC hi,zE,decide_eq_true_eq] at this
  exact⟨this.1,this.2.1⟩
theorem FY{c:X1}{s:X4}{i:X}(hc:AF c=E)(hi:idx i c.Segments.length=E):1≤AG (At c i) s∧AG (At c i) s≤480:=by
 obtain⟨_,_,a,b⟩:=(EY hc).2.2 _ (BP hi).2;unfold AG;split
 ·rw[Ao (n:=2*_) (by omega) (by omega)]; omega
 ·omega
def BE(h:X5)(a:Xb):Y:=idx a.Ship h.Fleet.length&&(idx a.From h.Chart.Points.length&&(idx a.To h.Chart.Points.length&&(decide (a.From≠a.To)&&(Ce a.Ready&&(decide (a.Ready≤a.Due)&&decide (a.Due≤2880))))))
theorem RL(h:X5)(a:Xb):KA h a=O (BE h a):=by
 unfold KA BE;simp only[DO,zB,Hc,DC,Mc,Ce,RI];cases idx a.Ship h.Fleet.length<;>cases idx a.From h.Chart.Points.length<;>cases idx a.To h.Chart.Points.length<;>simp[bne_iff_ne]
theorem Zo{h:X5}(s:HSmall h)(a:Xb):Kl h a=O (AT h&&BE h a):=by
 unfold Kl;rw[Ub s,zB,RL];cases AT h<;>rfl
theorem FU{h:X5}(hh:AT h=E):Dq h.Forecast=E∧AF h.Chart=E∧DN h.Fleet=E∧JK h.Regime=E∧Fc h.Crew=E:=by
 simpa only[AT,zE] using hh
theorem UT{h:X5}(s:HSmall h)(a:Xb):IS h a=O (AT h&&BE h a):=by
 unfold IS;rw[bd s,zB];cases hh:AT h with
 | false=>simp
 | true=>
  obtain⟨_,hc,hf,_,_⟩:=FU hh;have h1:=(OJ hf).1;have h2:=(Ci hc).1;simp only[if_true,CQ _ (show h.Fleet.length≤1000 by omega),CQ _ (show h.Chart.Points.length≤1000 by omega),zB,Bw,BE,zQ,Mc,Ce,RI];cases idx a.Ship h.Fleet.length<;>cases idx a.From h.Chart.Points.length<;>cases idx a.To h.Chart.Points.length<;>simp[bne_iff_ne]
theorem lS(a1:Q Xb)(v4:X)(a0:X5)(x6:Xb)(y10:Q Xb)(y11:X)(K:X→U Y):∀n v,L6 a1 v4 a0 x6 y10 y11 K n v=DG a1 v4 a0 x6 y10 y11 K n v:=by
 intro n
 induction n with
 | zero=>intro v; rfl
 | succ n ih=>intro v; simp only[L6,DG,ih,BEq.comm (a:=x6.Ship)]
theorem lR{h:X5}(s:HSmall h)(hh:AT h=E)(cs:Q Xb):∀n v,L5 cs h n v=CM cs h n v:=by
 intro n
 induction n with
 | zero=>intro v; rfl
 | succ n ih=>intro v; simp only[L5,CM,UT s,RL,hh,zQ,lS,funext ih]
theorem lT{h:X5}(s:HSmall h){cs:Q Xb}:∃b,L4 h cs=O b∧CZ h cs=O b∧(b=E→AT h=E∧cs.length≤6∧∀a∈cs,BE h a=E):=by
 unfold L4 CZ;rw[bd s,Ub s,zB];cases hh:AT h with
 | false=>exact⟨G,rfl,rfl,fun h=>by cases h⟩
 | true=>
  simp only[if_true,funext (lR s hh cs _),zB];by_cases h6:(6:X)<(cs.length:X)
  ·simp only[h6,decide_true,if_true];exact⟨G,zA,zA,fun h=>by cases h⟩
  ·simp only[h6,decide_false,zD,if_false];have hl:cs.length≤maxLen:=Af (by omega)
   have:=B9 (fun n i=>∃b,CM cs h n (i:X)=O b∧(b=E→∀j (hj:j<cs.length),i≤j→BE h cs[j]=E)) hl (fun n=>⟨E,by simp[CM],fun _ j h1 h2=>by omega⟩) (fun n i hi ih=>by
    obtain⟨b,e1,e2⟩:=ih;rw[CM];simp only[Ag,hi,decide_true,if_true,Ac hi,zB,RL,E3 (Nat.le_of_lt hi),yX,kO];cases hok:BE h cs[i] with
    | false=>exact⟨G,rfl,fun h=>by cases h⟩
    | true=>
     simp only[if_true]
     have e:=Ex (L:=DG cs (i:X) h cs[i] (cs.take i) ((cs.take i).length:X) (CM cs h n)) (cs.take i) (fun x=>x.Ship==cs[i].Ship) (O G) (CM cs h n (kY .i64 ((i:X)+1))) (Af (by simp; omega)) (fun m j hj=>by
      rw[DG];simp only[Ag,hj,decide_true,if_true,Ac hj,zB]) fun m=>by rw[DG,if_neg (by simp)]
     rw[e,Am hi hl,e1];split
     ·exact⟨G,zA,fun h=>by cases h⟩
     ·refine⟨b,zA,fun hb j h1 h2=> ?_⟩;by_cases hji:j=i
      ·subst hji; exact hok
      ·exact e2 hb j h1 (by omega)) (zK _)
   obtain⟨b,e1,e2⟩:=this
   exact⟨b,e1,e1,fun hb=>⟨trivial,by omega,fun a ha=>by
    obtain⟨j,hj,rfl⟩:=zN ha;exact e2 hb j hj (zK _)⟩⟩
def BZ(x:X2)(a:X):X:=if a=x.A then x.B else if a=x.B then x.A else -1
theorem Tl(x:X2)(a:X):Kw x a=O (BZ x a):=by
 unfold Kw BZ;by_cases h1:a=x.A
 ·rw[if_pos (by simpa using h1),if_pos h1]
 ·rw[if_neg (by simpa using h1),if_neg h1];by_cases h2:a=x.B
  ·rw[if_pos (by simpa using h2),if_pos h2]
  ·rw[if_neg (by simpa using h2),if_neg h2]
theorem UF(x:X2)(a:X):Ou x a=O (BZ x a):=Tl x a
theorem WX{c:X1}(hc:AF c=E){x:X2}(hx:x∈c.Segments)(a:X):BZ x a= -1∨idx (BZ x a) c.Points.length=E:=by
 obtain⟨h1,h2⟩:=(Ci hc).2.2.2 x hx;unfold BZ;split
 ·exact Or.inr h2
 ·split
  ·exact Or.inr h1
  ·exact Or.inl zA
theorem Rp{l:Q X}(hl:l.length≤maxLen)(a:X):Jj l a=O (l.any fun x=>x==a):=by
 have:=Ex (L:=Jk a l) l (fun x=>x==a) (O E) (O G) hl (fun n i h=>by
  rw[Jk];simp only[Ag,h,decide_true,if_true,Ac h,zB]) fun n=>by simp[Jk]
 unfold Jj;rw[this];cases l.any fun x=>x==a<;>rfl
def Eh(y:X8):Q Y:= [y.i0,y.i1,y.i2,y.i3,y.i4,y.i5,y.i6,y.i7]
theorem bV(y:X8){n:Z}(hn:n<8):Eh (X8.set y n E)=(Eh y).set n E:=by
 have:n=0∨n=1∨n=2∨n=3∨n=4∨n=5∨n=6∨n=7:=by omega
 rcases this with rfl|rfl|rfl|rfl|rfl|rfl|rfl|rfl<;>rfl
def Met(y:X8)(l:Q X):Prop:=∀x:X,0≤x→x<8→ix (Eh y) x=O (l.any fun z=>z==x)
theorem Met.snoc{y:X8}{l:Q X}(H:Met y l){r:X}(h0:0≤r)(h8:r<8):Met (X8.set y r.toNat E) (l++ [r]):=fun x x0 x8=>by
 obtain⟨n,rfl⟩:∃n:Z,r=(n:X):=⟨r.toNat,by omega⟩;obtain⟨m,rfl⟩:∃m:Z,x=(m:X):=⟨x.toNat,by omega⟩;have hl:(Eh y).length=8:=rfl;have hm:=H m x0 x8;rw[An] at hm
 rw[zP,bV y (by omega),An,List.getElem?_set,hm];by_cases e:n=m
 ·subst e;rw[if_pos rfl,if_pos (by omega)];simp
 ·rw[if_neg e];have:((n:X)==(m:X))=G:=beq_eq_false_iff_ne.2 (by omega);simp[this]
structure RtOk (c:X1) (rt l:Q X):Prop where
 len:l.length=rt.length+1
 pt:∀x∈l,idx x c.Points.length=E
 seg:∀i (h:i<rt.length),idx rt[i] c.Segments.length=E
 stp:∀i (h:i<rt.length),∃x,l[i]?=O x∧l[i+1]?=O (BZ (At c rt[i]) x)∧0≤BZ (At c rt[i]) x
theorem az{c:X1}(hc:AF c=E){rt:Q X}{a:X}(ha:idx a c.Points.length=E)(hl:rt.length≤10000000) :
  ∃l b,GT c a rt=O (l,b)∧HR c a rt=O (l,b)∧(b=G→l= [])∧(b=E→RtOk c rt l):=by
 obtain⟨hp8,hs10,_,_⟩:=Ci hc;have ha':=Ha.1 ha;have fail:∃l b,(O (([]:Q X),G):U (Q X × Y))=O (l,b)∧(O (([]:Q X),G):U (Q X × Y))=O (l,b)∧(b=G→l= [])∧(b=E→RtOk c rt l):=⟨[],G,rfl,rfl,fun _=>rfl,fun h=>by cases h⟩
 have main:=B9 (fun n i=>∀v5 v7 l,l.getLast?=O v5→l.length=i+1→Met v7 l→(∀x∈l,idx x c.Points.length=E)→
   (∀j (h:j<rt.length),j<i→idx rt[j] c.Segments.length=E∧∃x,l[j]?=O x∧l[j+1]?=O (BZ (At c rt[j]) x)∧0≤BZ (At c rt[j]) x)→
   ∃l' b,Eb rt c n (i:X) l=O (l',b)∧Gl rt c n v5 (i:X) v7 l=O (l',b)∧(b=G→l'= [])∧(b=E→RtOk c rt l')) (len:=rt.length) (Af (by omega))
  (fun n v5 v7 l h1 h2 h3 h4 h5=>⟨l,E,by simp[Eb],by simp[Gl],(fun h=>by cases h),fun _=>⟨h2,h4,fun j h=>(h5 j h h).1,fun j h=>(h5 j h h).2⟩⟩)
  (fun n i hi ih v5 v7 l h1 h2 h3 h4 h5=>by
   rw[Eb,Gl];simp only[Ag,hi,decide_true,if_true,Ac hi,zB,DO,CQ _ (show c.Segments.length≤1000 by omega)];cases hx:idx rt[i] c.Segments.length with
   | false=>exact fail
   | true=>
    simp only[if_true,(BP hx).1,zB,JD (Af (by omega)) h1,UF,Tl];have he:=WX hc (BP hx).2 v5;have hr:∃r,BZ (At c rt[i]) v5=r:=⟨_,rfl⟩;obtain⟨r,hr⟩:=hr;rw[hr] at he ⊢
    by_cases h0:r<0
    ·simp only[h0,decide_true,if_true,HS,GU];exact fail
    ·have hri:=he.resolve_left (by omega);have hr':=Ha.1 hri;have hd:(decide (0≤r)&&decide (r<8))=E:=by simp; omega
     have hm:=h3 r hr'.1 (by omega);unfold Eh at hm
     simp only[h0,decide_false,zD,if_false,hd,if_true,Rp (Af (n:=l.length) (by omega)),zB,hm];cases hb:l.any fun z=>z==r with
     | true=>simp only[HS,GU,if_true]; exact fail
     | false=>
      simp only[HS,GU,zD,if_false,hd,if_true];rw[if_pos (AP (by omega) (by simp) (by omega)),if_pos (AP (by omega) (by simp) (by omega)),Am hi (Af (by omega))];refine ih r _ _ (by simp) (by simp; omega) (h3.snoc hr'.1 (by omega)) (fun x hx=> ?_) fun j h1' h2'=> ?_
      ·rcases zV.1 hx with hx|hx
       ·exact h4 x hx
       ·simp only[zS] at hx; exact hx▸hri
      ·by_cases hji:j=i
       ·subst hji;refine⟨hx,v5,?_,?_,by rw[hr]; exact hr'.1⟩
        ·rw[zH (by omega),← h1,zX,h2]; rfl
        ·rw[zT (by omega),h2,hr]; simp
       ·obtain⟨g1,x,g2,g3,g4⟩:=h5 j h1' (by omega);exact⟨g1,x,by rw[zH (by omega)]; exact g2,by rw[zH (by omega)]; exact g3,g4⟩) (zK _)
 have hd:(decide (0≤a)&&decide (a<8))=E:=by simp; omega
 unfold GT HR;rw[DO,ha,zB];simp only[if_true,hd]
 have m0:Met ⟨G,G,G,G,G,G,G,G⟩ []:=fun x x0 x8=>by
  obtain⟨n,rfl⟩:∃n:Z,x=(n:X):=⟨x.toNat,by omega⟩;have:n=0∨n=1∨n=2∨n=3∨n=4∨n=5∨n=6∨n=7:=by omega
  rcases this with rfl|rfl|rfl|rfl|rfl|rfl|rfl|rfl<;>rfl
 exact main a _ [a] rfl zA (m0.snoc ha'.1 (by omega)) (by simpa using ha) fun j _ h=>by omega
theorem bL{c:X1}(hc:AF c=E){rt:Q X}{a:X}(hl:rt.length≤10000000) :
  ∃l b,EG c a rt=O b∧Fi c a rt=O b∧FI c a rt=O l∧E6 c a rt=O l∧(b=G→l= [])∧(b=E→RtOk c rt l):=by
 have hn:=(Ci hc).2.2.1;have h8:=(Ci hc).1;unfold FI E6 EG Fi;simp only[DB hn,EL hn,hc,zB,if_true,CQ _ (show c.Points.length≤1000 by omega)];cases ha:idx a c.Points.length with
 | false=>
  refine⟨[],G,zA,?_,zA,?_,fun _=>rfl,fun h=>by cases h⟩<;>(unfold HR; rw[DO,ha]; rfl)
 | true=>
  obtain⟨l,b,e1,e2,e3,e4⟩:=az hc ha hl;refine⟨l,b,by simp only[if_true,e1,zB],by simp only[e2,zB],?_,by simp only[e2,zB],e3,e4⟩;simp only[if_true,e1,zB];cases b with
  | false=>rw[e3 rfl]; rfl
  | true=>rfl
theorem sq(l:Q X6)(a:X)(hl:l.length≤100000):∃b,O0 l a=O b∧Mx l a=O b∧(b=E→∃w∈l,w.From≤a∧a≤w.To):=by
 have e1:=Ex (L:=J3 a l) l (fun x=>decide (x.From≤a)&&decide (a≤x.To)) (O E) (O G) (Af (by omega)) (fun n i h=>by
  rw[J3];simp only[Ag,h,decide_true,if_true,Ac h,zB,Bw]) fun n=>by simp[J3]
 have e2:=Ex (L:=I2 a l) l (fun x=>decide (x.From≤a)&&decide (a≤x.To)) (O E) (O G) (Af (by omega)) (fun n i h=>by
  rw[I2];simp only[Ag,h,decide_true,if_true,Ac h,zB,DC]) fun n=>by simp[I2]
 unfold O0 Mx;rw[e1,e2];split
 ·rename_i h
  obtain⟨w,w1,w2⟩:=kP.1 h;simp only[zE,decide_eq_true_eq] at w2
  exact⟨E,zA,zA,fun _=>⟨w,w1,w2⟩⟩
 ·exact⟨G,zA,zA,fun h=>by cases h⟩
theorem xD(l:Q X6)(a:X)(hl:l.length≤100000)(hW:∀w∈l,w.From≤w.To):∃r,O6 l a=O r∧MF l a=O r∧(r<0∨(a≤r∧∃w∈l,w.From≤r∧r≤w.To)):=by
 have hm:l.length≤maxLen:=Af (by omega);unfold O6 MF;rw[bj hm,Zr hm,zB,zB];split
 ·exact B9 (fun n i=>∃r,J6 a l n (i:X)=O r∧I3 a l n (i:X)=O r∧(r<0∨(a≤r∧∃w∈l,w.From≤r∧r≤w.To))) hm (fun n=>⟨-1,by simp[J6],by simp[I3],Or.inl (by omega)⟩) (fun n i h ih=>by
   rw[J6,I3];simp only[Ag,h,decide_true,if_true,Ac h,zB,Am h hm];split
   ·rename_i hd
    simp only[decide_eq_true_eq] at hd
    have hw:=hW _ (zF h);exact⟨_,zA,zA,Or.inr ⟨by split<;>omega,l[i],zF h,by split<;>omega,by split<;>omega⟩⟩
   ·exact ih) (zK _)
 ·exact⟨-1,zA,zA,Or.inl (by omega)⟩
def wt(c:X1)(x:X):Y:=(c.Points[x.toNat]?.getD ⟨[],G⟩).Wait
structure VoyOk (f:Xe) (c:X1) (s:X4) (rt pts:Q X) (v:Xl):Prop where
 ne:rt≠ []
 r:RtOk c rt pts
 ml:v.minutes.length=rt.length
 ul:v.sure.length=rt.length
 m:∀i (h:i<rt.length),v.minutes[i]?=O (AG (At c rt[i]) s)
 w:∀i (h:i<rt.length),∃x,pts[i]?=O x∧v.waits[i]?=O (wt c x)
 u:∀i (h:i<rt.length),∃l,v.sure[i]?=O l∧l.length≤2881∧∀w∈l,0≤w.From∧w.From≤w.To∧w.To+AG (At c rt[i]) s≤2880
 st:R8 f c s rt=O v.sure
theorem A3r{f:Xe}{c:X1}{s:X4}(hf:Dq f=E)(hc:AF c=E)(hs:CF s=E)(hsn:s.Name.length≤maxLen){rt pts:Q X}{a:X}(hl:rt.length≤10000000)(hr:RtOk c rt pts)(h0:rt≠ [])
  (e1:Fi c a rt=O E) (e2:E6 c a rt=O pts):∃v,Io f c s a rt=O (v,E)∧VoyOk f c s rt pts v:=by
 have hn:=(Ci hc).2.2.1;have hz:((rt.length:X)==(0:X))=G:=by cases rt with | nil=>exact absurd rfl h0 | cons=>simp; omega
 have hp:=hr.len;have hlen:(pts.take rt.length).length=rt.length:=by simp; omega
 have hlm:rt.length≤maxLen:=Af (by omega)
 have hspec:=B9 (fun n i=>∀us,us.length=i→∃vs,GX rt f c s n (i:X) us=O (us++vs)∧∀ws ms,ws.length=i→ms.length=i→
   ∃ws' ms',Iq rt f c s (pts.take rt.length) ((pts.take rt.length).length:X) n (i:X) ws ms us=O (⟨ws++ws',ms++ms',us++vs⟩,E)∧ms'.length=rt.length - i∧vs.length=rt.length - i∧
    (∀j (h:j<rt.length),i≤j→ms'[j - i]?=O (AG (At c rt[j]) s)∧(∃x,pts[j]?=O x∧ws'[j - i]?=O (wt c x))∧∃l,vs[j - i]?=O l∧l.length≤2881∧∀w∈l,0≤w.From∧w.From≤w.To∧w.To+AG (At c rt[j]) s≤2880)) hlm
  (fun n us hu=>⟨[],by simp[GX],fun ws ms hw hm=>⟨[],[],by simp[Iq,hlen],by simp,by simp,fun j h h'=>by omega⟩⟩)
  (fun n i h ih us hu=>by
   obtain⟨l,l1,l2,l3,l4⟩:=A1p (s:=s) hf hn hsn hc hs (hr.seg i h);have hlt':i<(pts.take rt.length).length:=by omega
   have hpi:i<pts.length:=by omega
   have hpt:=hr.pt pts[i] (zF hpi);have hg:(pts.take rt.length)[i]=pts[i]:=by simp
   obtain⟨vs,v1,v2⟩:=ih (us++ [l]) (by simp; omega);refine⟨l::vs,?_,fun ws ms hw hm=> ?_⟩
   ·rw[GX];simp only[Ag,h,decide_true,if_true,Ac h,zB,l1];rw[if_pos (AP (by omega) (by simp) (by omega)),Am h hlm,v1];simp
   ·obtain⟨ws',ms',g1,g2,g2',g3⟩:=v2 (ws++ [wt c pts[i]]) (ms++ [AG (At c rt[i]) s]) (by simp; omega) (by simp; omega);refine⟨wt c pts[i]::ws',AG (At c rt[i]) s::ms',?_,by simp; omega,by simp; omega,fun j hj hij=> ?_⟩
    ·rw[Iq];simp only[Ag,hlt',decide_true,if_true,Ac hlt',Ac h,hg,zB,(OV (⟨[],G⟩:X7) hpt).1,(BP (hr.seg i h)).1,OU,l2];rw[if_pos (AP (by omega) (by simp) (by omega)),if_pos (AP (by omega) (by simp) (by omega)),if_pos (AP (by omega) (by simp) (by omega)),Am h hlm];refine g1.trans ?_;simp
    ·by_cases hji:j=i
     ·subst hji;simp only[Nat.sub_self,yY];exact⟨trivial,⟨_,zC hpi,zA⟩,l,zA,l3,l4⟩
     ·obtain⟨q,hq⟩:∃q,j - i=q+1:=⟨j - i - 1,by omega⟩;have:=g3 j hj (by omega);rw[show j - (i+1)=q by omega] at this
      rw[hq];simpa using this) (zK _)
 obtain⟨vs,v1,v2⟩:=hspec [] rfl;obtain⟨ws',ms',g1,g2,g3,g4⟩:=v2 [] [] rfl rfl;refine⟨⟨ws',ms',vs⟩,?_,h0,hr,by simpa using g2,by simpa using g3,fun i h=>by simpa using(g4 i h (zK _)).1,fun i h=>by simpa using(g4 i h (zK _)).2.1,fun i h=>by simpa using(g4 i h (zK _)).2.2,show GX rt f c s bigN 0 []=O vs by simpa using v1⟩;unfold Io;simp only[OT,Hb hsn,hf,hs,e1,e2,zB,if_true,Ip,hz,zD,if_false];rw[E3 (by omega),zB];simp only[yX,kO];exact g1
structure Sailed (c:X1) (s:X4) (rt:Q X) (st:X) (l:Q X):Prop where
 len:l.length=rt.length
 hd:l[0]?=O st
 sf:∀i (h:i<rt.length),∃y,l[i]?=O y∧0≤y∧y+AG (At c rt[i]) s≤2880
 up:∀i (h:i+1<rt.length),∃x y,l[i]?=O x∧l[i+1]?=O y∧kY .i64 (x+AG (At c rt[i]) s)≤y
theorem A0a{f:Xe}{c:X1}{s:X4}(hc:AF c=E){rt pts:Q X}{v:Xl}(hl:rt.length≤10000000)(H:VoyOk f c s rt pts v)(st:X) :
  ∃l b,Lo c s pts rt v.sure st=O (l,b)∧Na v st=O (l,b)∧(b=E→Sailed c s rt st l):=by
 have h0:0<rt.length:=zU.2 H.ne;have hlm:rt.length≤maxLen:=Af (by omega);obtain⟨l0,u1,u2,u3⟩:=H.u 0 h0;obtain⟨b,b1,b2,b3⟩:=sq l0 st (by omega);have hx:ix v.sure (0:X)=O l0:=by have:=An v.sure 0; rw[u1] at this; exact this
 unfold Lo Na;simp only[hx,zB,b1,b2];cases b with
 | false=>exact⟨[],G,rfl,rfl,fun h=>by cases h⟩
 | true=>
  simp only[if_true]
  refine B9 (fun n i=>∀l,1≤i→l.length=i→l[0]?=O st→(∀j (h:j<rt.length),j<i→∃y,l[j]?=O y∧0≤y∧y+AG (At c rt[j]) s≤2880)→(∀j (h:j+1<rt.length),j+1<i→∃x y,l[j]?=O x∧l[j+1]?=O y∧kY .i64 (x+AG (At c rt[j]) s)≤y)→
   ∃l' b,EI pts rt v.sure c s n (i:X) l=O (l',b)∧EE v n (i:X) l=O (l',b)∧(b=E→Sailed c s rt st l')) hlm
   (fun n l h1 h2 h3 h5 h4=>⟨l,E,by simp[EI],by simp[EE,H.ul],fun _=>⟨h2,h3,fun j h=>h5 j h h,fun j h=>h4 j h h⟩⟩)
   (fun n i h ih l h1 h2 h3 h5 h4=> ?_) (i:=1) (by omega) [st] (by omega) rfl rfl (fun j hj h=> ?_) (fun j _ h=>by omega)
  case refine_2=>
   obtain rfl:j=0:=by omega
   obtain⟨w,w1,w2,w3⟩:=b3 rfl;have:=u3 w w1;exact⟨st,zA,by omega,by omega⟩
  obtain⟨w,g1,g2,g3⟩:=H.u i h;have hu:i<v.sure.length:=by have:=H.ul; omega
  have ew:kY .i64 ((i:X) - 1)=((i - 1:Z):X):=by
   rw[show(i:X) - 1=((i - 1:Z):X) by omega];exact Ao (by omega) (by omega)
  have hi1:i - 1<rt.length:=by omega
  have hil:i - 1<l.length:=by omega
  obtain⟨x,x1,x2⟩:=H.w i h;have hpt:=H.r.pt x (List.mem_of_getElem? x1);obtain⟨r,r1,r2,r3⟩:=xD w (kY .i64 (l[i - 1]+AG (At c rt[i - 1]) s)) (by omega) (fun x hx=>(g3 x hx).2.1);rw[EI,EE];simp only[Ag,h,hu,decide_true,if_true,ew,Ac hil,Ac hi1,An,H.m _ hi1,(BP (H.r.seg _ hi1)).1,zB,PJ,g1,r1,r2,x1,x2,(OV (⟨[],G⟩:X7) hpt).1];have fail:∃l' b,(O (([]:Q X),G):U (Q X × Y))=O (l',b)∧(O (([]:Q X),G):U (Q X × Y))=O (l',b)∧(b=E→Sailed c s rt st l'):=⟨[],G,rfl,rfl,fun h=>by cases h⟩;by_cases hr0:r<0
  ·simp only[hr0,decide_true,if_true,Jn,Ir];exact fail
  ·obtain⟨hge,w',w1,w2,w3⟩:=r3.resolve_left hr0;have hwb:=g3 w' w1
   have hne:(r !=kY .i64 (l[i - 1]+AG (At c rt[i - 1]) s))=decide (kY .i64 (l[i - 1]+AG (At c rt[i - 1]) s)<r):=by
    rw[Mc];by_cases e:r=kY .i64 (l[i - 1]+AG (At c rt[i - 1]) s)
    ·simp[← e]
    ·have:kY .i64 (l[i - 1]+AG (At c rt[i - 1]) s)<r:=by omega
     simp[e,this]
   have go:∃l' b,EI pts rt v.sure c s n (kY .i64 ((i:X)+1)) (l++ [r])=O (l',b)∧EE v n (kY .i64 ((i:X)+1)) (l++ [r])=O (l',b)∧(b=E→Sailed c s rt st l'):=by
    rw[Am h hlm];refine ih (l++ [r]) (by omega) (by simp; omega) (by rw[zH (by omega)]; exact h3) (fun j hj1 hj2=> ?_) fun j hj1 hj2=> ?_
    ·by_cases hji:j=i
     ·subst hji;exact⟨r,by rw[zT (by omega),h2]; simp,by omega,by omega⟩
     ·obtain⟨y,q1,q2,q3⟩:=h5 j hj1 (by omega);exact⟨y,by rw[zH (by omega)]; exact q1,q2,q3⟩
    by_cases hji:j+1=i
    ·subst hji;exact⟨l[j],r,by rw[zH (by omega),zC],by rw[zT (by omega),h2]; simp,by simpa using hge⟩
    ·obtain⟨x,y,q1,q2,q3⟩:=h4 j hj1 (by omega);exact⟨x,y,by rw[zH (by omega)]; exact q1,by rw[zH (by omega)]; exact q2,q3⟩
   have hap:A3 l.length [r].length 8=E:=AP (by omega) (by simp) (by omega);simp only[hr0,decide_false,zD,if_false,hne,Jn,Ir,hap,if_true];split
   ·change ∃l' b,(if(!wt c x)=E then _ else _)=_∧_
    split
    ·exact fail
    ·exact go
   ·exact go
def Q4(c:X1)(s:X4)(sh:X)(rt pts l:Q X)(i:Z)(ps:Q X3):Prop:=
 ps.length=i∧∀j (h:j<rt.length),j<i→∃x y,pts[j]?=O x∧l[j]?=O y∧0≤y∧y≤2880∧ps[j]?=O ⟨sh,rt[j],(At c rt[j]).A==x,y,kY .i64 (y+AG (At c rt[j]) s)⟩
theorem xn{c:X1}{s:X4}(hs:CF s=E)(hsn:s.Name.length≤maxLen){rt pts l:Q X}{a sh:X}(hl:rt.length≤10000000)(hr:RtOk c rt pts)(hlen:l.length=rt.length)(hS:∀i (h:i<rt.length),∃y,l[i]?=O y∧0≤y∧y≤2880)
  (e1:EG c a rt=O E) (e2:Fi c a rt=O E) (e3:FI c a rt=O pts) (e4:E6 c a rt=O pts) :
  ∃ps,Oa c sh s a rt l=O ps∧MJ c sh s a rt l=O ps∧Q4 c s sh rt pts l rt.length ps:=by
 have hlm:rt.length≤maxLen:=Af (by omega);have hz:((rt.length:X) !=(l.length:X))=G:=by rw[hlen]; simp
 unfold Oa MJ;simp only[e1,e2,e3,e4,LW hsn,Hb hsn,hs,zB,if_true,hz,zD,if_false]
 refine B9 (fun n i=>∀ps,Q4 c s sh rt pts l i ps→∃ps',J8 sh l rt c s pts n (i:X) ps=O ps'∧I4 sh l rt c s pts n (i:X) ps=O ps'∧Q4 c s sh rt pts l rt.length ps') hlm
  (fun n ps hp=>⟨ps,by simp[J8],by simp[I4],hp⟩) (fun n i h ih ps hp=> ?_) (zK _) [] ⟨rfl,fun j _ h=>by omega⟩
 have hi:i<l.length:=by omega
 have hpi:i<pts.length:=by have:=hr.len; omega
 rw[J8,I4];simp only[Ag,h,decide_true,if_true,Ac h,Ac hi,Ac hpi,(BP (hr.seg i h)).1,zB,Bw,Hc,PJ,OU,BEq.comm (a:=pts[i])];split
 ·rename_i hm
  simp only[zE,decide_eq_true_eq] at hm
  have hp1:=hp.1;rw[if_pos (AP (by omega) (by simp) (by omega)),if_pos (AP (by omega) (by simp) (by omega)),Am h hlm];refine ih _ ⟨by simp; omega,fun j hj1 hj2=> ?_⟩;by_cases hji:j=i
  ·subst hji;exact⟨pts[j],l[j],zC _,zC _,hm.1,hm.2,by rw[zT (by omega),hp1]; simp⟩
  ·obtain⟨x,y,q1,q2,q3,q4,q5⟩:=hp.2 j hj1 (by omega);exact⟨x,y,q1,q2,q3,q4,by rw[zH (by omega)]; exact q5⟩
 ·rename_i hm
  obtain⟨y,y1,y2,y3⟩:=hS i h;rw[zC hi,zG] at y1
  exact absurd (by simp[y1,y2,y3]) hm
theorem bK{c:X1}(hc:AF c=E){rt:Q X}(hl:rt.length≤10000000)(hs:∀i (h:i<rt.length),idx rt[i] c.Segments.length=E):∃r,GR c rt=O r∧Gt c rt=O r∧0≤r:=by
 have hlm:rt.length≤maxLen:=Af (by omega);have hn:=(Ci hc).2.2.1;have h10:=(Ci hc).2.1;unfold GR Gt;simp only[DB hn,EL hn,hc,zB,if_true];refine B9 (fun n i=>∀v:X,0≤v→v≤240*(i:X)→∃r,Jc rt c n v (i:X)=O r∧I6 rt c n v (i:X)=O r∧0≤r) hlm (fun n v h1 h2=>⟨v,by simp[Jc],by simp[I6],h1⟩) (fun n i h ih v h1 h2=> ?_) (zK _) 0 (by omega) (by omega);obtain⟨_,_,a,b⟩:=(EY hc).2.2 _ (BP (hs i h)).2;rw[Jc,I6];simp only[Ag,h,decide_true,if_true,Ac h,(BP (hs i h)).1,zB,DO,CQ _ (show c.Segments.length≤1000 by omega),hs i h,Am h hlm];rw[Ao (by omega) (by omega)];exact ih _ (by omega) (by omega)
theorem jh{c:X1}{s:X4}(hc:AF c=E)(hs:CF s=E)(hsn:s.Name.length≤maxLen){rt l:Q X}(hl:rt.length≤10000000)(hsg:∀i (h:i<rt.length),idx rt[i] c.Segments.length=E)(hlen:l.length=rt.length)(h0:rt≠ []) :
  ∃r,NT c s rt l=O r∧Mm c s rt l=O r∧∀y,l[rt.length - 1]?=O y→0≤y→y≤2880→∃x,rt[rt.length - 1]?=O x∧r=kY .i64 (y+AG (At c x) s):=by
 obtain⟨m,m1,m2,m3⟩:=bK hc hl hsg;have hp:0<rt.length:=zU.2 h0;have hz:((rt.length:X)==(0:X))=G:=beq_eq_false_iff_ne.2 (by omega);have hq:((rt.length:X) !=(l.length:X))=G:=by rw[hlen]; simp
 have ew:kY .i64 ((rt.length:X) - 1)=((rt.length - 1:Z):X):=by
  rw[show(rt.length:X) - 1=((rt.length - 1:Z):X) by omega];exact Ao (by omega) (by omega)
 have h1:rt.length - 1<rt.length:=by omega
 have h2:rt.length - 1<l.length:=by omega
 unfold NT Mm;simp only[m1,m2,zB,show decide (m<0)=G by simp; omega,zD,if_false,LW hsn,Hb hsn,hs,if_true,hq,hz,hlen,ew,Ac h1,Ac h2,Bw,Hc,(BP (hsg _ h1)).1,PJ,OU,bne_self_eq_false];split
 ·refine⟨_,zA,zA,fun y e _ _=>⟨_,zC h1,?_⟩⟩;rw[zC h2,zG] at e
  rw[e]
 ·rename_i hm
  refine⟨-1,zA,zA,fun y e a b=>absurd ?_ hm⟩;rw[zC h2,zG] at e
  simp only[zE,decide_eq_true_eq,e];exact⟨a,b⟩
structure AtOk (h:X5) (a:Xb) (rt:Q X) (st:X) (o:X0):Prop where
 ha:BE h a=E
 mo:∃pts l,RtOk h.Chart rt pts∧Sailed h.Chart (AO h.Fleet a.Ship) rt st l∧Q4 h.Chart (AO h.Fleet a.Ship) a.Ship rt pts l rt.length o.Passages
def AW(c:X1)(s:X4)(rt:Q X):X:=(rt.map fun k=>AG (At c k) s).sum
theorem mH{h:X5}{s:X4}{rt:Q X}{v:Xl}{f:Xe}{pts:Q X}(hc:AF h.Chart=E)(hl:rt.length≤10000000)(H:VoyOk f h.Chart s rt pts v)(st r:X)(ps:Q X3){c0:X}(h0:AW h.Chart s rt≤c0)(h1:c0≤100000) :
  H3 rt h s st r ps bigN 0 c0=O (⟨st,r,c0 - AW h.Chart s rt,ps⟩,decide (r≤2880))∧GB v st r ps bigN 0 c0=O (⟨st,r,c0 - AW h.Chart s rt,ps⟩,decide (r≤2880)):=by
 have hlm:rt.length≤maxLen:=Af (by omega)
 have pos:∀l:Q X,(∀x∈l,idx x h.Chart.Segments.length=E)→0≤AW h.Chart s l:=by
  intro l
  induction l with
  | nil=>intro _; simp[AW]
  | cons a l ih=>
   intro hx;have h1:=ih fun x hm=>hx x (yH _ hm)
   have h2:=(FY (s:=s) hc (hx a (yJ ..))).1;have e:AW h.Chart s (a::l)=AG (At h.Chart a) s+AW h.Chart s l:=by simp[AW]
   omega
 have hsg:∀x∈rt,idx x h.Chart.Segments.length=E:=fun x hx=>by
  obtain⟨i,hi,rfl⟩:=zN hx;exact H.r.seg i hi
 have:=B9 (fun n i=>∀c0,AW h.Chart s (rt.drop i)≤c0→c0≤100000→H3 rt h s st r ps n (i:X) c0=O (⟨st,r,c0 - AW h.Chart s (rt.drop i),ps⟩,decide (r≤2880))∧GB v st r ps n (i:X) c0=O (⟨st,r,c0 - AW h.Chart s (rt.drop i),ps⟩,decide (r≤2880))) hlm (fun n c0 _ _=>by
   have e:AW h.Chart s (rt.drop rt.length)=0:=by simp[AW]
   rw[e,Int.sub_zero];exact⟨by simp[H3],by simp[GB,H.ml]⟩) (fun n i hi ih c0 g0 g1=>by
  have hm:i<v.minutes.length:=by have:=H.ml; omega
  have e:AW h.Chart s (rt.drop i)=AG (At h.Chart rt[i]) s+AW h.Chart s (rt.drop (i+1)):=by rw[zW hi]; rfl
  have hp:=pos (rt.drop (i+1)) fun x hx=>hsg x (List.mem_of_mem_drop hx)
  obtain⟨m1,m2⟩:=FY (s:=s) hc (H.r.seg i hi);rw[H3,GB];simp only[Ag,hi,hm,decide_true,if_true,Ac hi,An,H.m i hi,(BP (H.r.seg i hi)).1,zB,PJ,Am hi hlm];rw[Ao (n:=c0 - _) (by omega) (by omega)];have:=ih (c0 - AG (At h.Chart rt[i]) s) (by omega) (by omega);rw[show c0 - AG (At h.Chart rt[i]) s - AW h.Chart s (rt.drop (i+1))=c0 - AW h.Chart s (rt.drop i) by omega] at this
  exact this) (zK _) c0 (by simpa using h0) h1
 simpa using this
theorem Sailed.sum{c:X1}{s:X4}{rt l:Q X}{st:X}(hc:AF c=E)(hsg:∀i (h:i<rt.length),idx rt[i] c.Segments.length=E)(H:Sailed c s rt st l):∀k (hk:k<rt.length),∃y,l[k]?=O y∧st+AW c s (rt.take k)≤y:=by
 intro k
 induction k with
 | zero=>intro hk; exact⟨st,H.hd,by simp[AW]⟩
 | succ k ih=>
  intro hk;obtain⟨y,y1,y2⟩:=ih (by omega);obtain⟨u,v,u1,u2,u3⟩:=H.up k hk;obtain⟨z,z1,z2,z3⟩:=H.sf k (by omega);rw[y1,zG] at u1 z1
  subst u1 z1;have hm:=FY (s:=s) hc (hsg k (by omega));rw[Ao (by omega) (by omega)] at u3
  have e:AW c s (rt.take (k+1))=AW c s (rt.take k)+AG (At c rt[k]) s:=by
   rw[zJ (by omega)];unfold AW;rw[kV,List.sum_append];simp
  exact⟨v,u2,by omega⟩
theorem xZ{h:X5}{a:Xb}(ha:BE h a=E)(hc:AF h.Chart=E)(hso:CF (AO h.Fleet a.Ship)=E)(hsn:(AO h.Fleet a.Ship).Name.length≤maxLen){rt pts:Q X}{v:Xl}(hl:rt.length≤10000000)
  (V:VoyOk h.Forecast h.Chart (AO h.Fleet a.Ship) rt pts v) (e1:EG h.Chart a.From rt=O E) (e2:Fi h.Chart a.From rt=O E) (e3:FI h.Chart a.From rt=O pts) (e4:E6 h.Chart a.From rt=O pts)
  {st:X} (hr:a.Ready≤st) (hd:st≤2880):∃l b,Lo h.Chart (AO h.Fleet a.Ship) pts rt v.sure st=O (l,b)∧(b=G→∃o,Il h a v rt st=O (o,G))∧
   (b=E→∃o,Oy h a rt l=O (o,E)∧Il h a v rt st=O (o,E)∧AtOk h a rt st o∧o.Arrival≤2880∧0≤o.Cost∧o.Cost≤2880∧∀y,l[rt.length - 1]?=O y→∃x,rt[rt.length - 1]?=O x∧o.Arrival=kY .i64 (y+AG (At h.Chart x) (AO h.Fleet a.Ship))):=by
 obtain⟨l,b,b1,b2,b3⟩:=A0a hc hl V st;refine⟨l,b,b1,fun hb=> ?_,fun hb=> ?_⟩
 ·subst hb;exact⟨⟨0,0,0,[]⟩,by simp only[Il,b2,zB,zD,if_false]⟩
 ·subst hb;have S:=b3 rfl;have ha':=ha;simp only[BE,Ce,zE,decide_eq_true_eq] at ha'
  obtain⟨q1,_,_,_,⟨q5,_⟩,_⟩:=ha';obtain⟨s1,s2⟩:=Jz q1
  have hsS:∀i (h':i<rt.length),∃y,l[i]?=O y∧0≤y∧y≤2880:=fun i h'=>by
   obtain⟨y,y1,y2,y3⟩:=S.sf i h';have:=(FY (s:=AO h.Fleet a.Ship) hc (V.r.seg i h')).1;exact⟨y,y1,y2,by omega⟩
  obtain⟨ps,p1,p2,p3⟩:=xn (sh:=a.Ship) hso hsn hl V.r S.len hsS e1 e2 e3 e4;obtain⟨r,r1,r2,r3⟩:=jh hc hso hsn hl V.r.seg S.len V.ne;have hp:=zU.2 V.ne;have hlt:rt.length - 1<rt.length:=by omega
  obtain⟨y,y1,y2,y3⟩:=S.sf _ hlt;have hm:=FY (s:=AO h.Fleet a.Ship) hc (V.r.seg _ hlt);obtain⟨x,x1,x2⟩:=r3 y y1 y2 (by omega);rw[zC hlt,zG] at x1
  rw[← x1,Ao (by omega) (by omega)] at x2
  obtain⟨z,z1,z2⟩:=S.sum hc V.r.seg _ hlt;rw[y1,zG] at z1
  subst z1
  have es:AW h.Chart (AO h.Fleet a.Ship) rt=AW h.Chart (AO h.Fleet a.Ship) (rt.take (rt.length - 1))+AG (At h.Chart rt[rt.length - 1]) (AO h.Fleet a.Ship):=by
   have e:rt=rt.take (rt.length - 1)++ [rt[rt.length - 1]]:=by
    rw[← zJ hlt,show rt.length - 1+1=rt.length by omega,yF]
   have:∀u w:Q X,AW h.Chart (AO h.Fleet a.Ship) (u++w)=AW h.Chart (AO h.Fleet a.Ship) u+AW h.Chart (AO h.Fleet a.Ship) w:=fun u w=>by simp[AW]
   rw[congrArg (AW h.Chart (AO h.Fleet a.Ship)) e,this];simp[AW]
  obtain⟨c1,c2⟩:=mH hc hl V st r ps (c0:=r - a.Ready) (by omega) (by omega);have ew:kY .i64 (r - a.Ready)=r - a.Ready:=Ao (by omega) (by omega);have hx0:ix l (0:X)=O st:=by have:=An l 0; rw[S.hd] at this; exact this
  have hpos:0≤AW h.Chart (AO h.Fleet a.Ship) rt:=by
   have:∀w:Q X,(∀x∈w,idx x h.Chart.Segments.length=E)→0≤AW h.Chart (AO h.Fleet a.Ship) w:=by
    intro w
    induction w with
    | nil=>intro _; simp[AW]
    | cons u w ih=>
     intro hx;have h1:=ih fun x hm=>hx x (yH _ hm)
     have h2:=(FY (s:=AO h.Fleet a.Ship) hc (hx u (yJ ..))).1;have e:AW h.Chart (AO h.Fleet a.Ship) (u::w)=AG (At h.Chart u) (AO h.Fleet a.Ship)+AW h.Chart (AO h.Fleet a.Ship) w:=by simp[AW]
     omega
   exact this rt fun x hx=>by
    obtain⟨i,hi,rfl⟩:=zN hx;exact V.r.seg i hi
  have hd28:decide (r≤2880)=E:=by simp; omega
  refine⟨⟨st,r,r - a.Ready - AW h.Chart (AO h.Fleet a.Ship) rt,ps⟩,?_,?_,⟨ha,pts,l,V.r,S,p3⟩,by simp only; omega,by simp only; omega,by simp only; omega,fun y' h'=> ?_⟩
  ·simp only[Oy,s1,zB,hx0,r1,p1,ew,c1,hd28]
  ·simp only[Il,b2,if_true,s1,zB,r2,p2,ew,c2,hd28]
  ·rw[y1,zG] at h'
   subst h';exact r3 y y1 y2 (by omega)
structure GoodP (c:X1) (fl:Q X4) (l:Q X3):Prop where
 ne:l≠ []
 inn:∀p∈l,Cg c fl p=E
 ship:∃sh,∀p∈l,p.Ship=sh
 link:∀j (h:j+1<l.length),(Cz c l[j+1]).1=(Cz c l[j]).2∧l[j].End≤l[j+1].Start
theorem pN{s:X2}{x:X}(h:0≤BZ s x):(if(s.A==x)=E then(s.A,s.B) else(s.B,s.A))=(x,BZ s x):=by
 unfold BZ at *
 by_cases h1:s.A=x
 ·subst h1; simp
 ·have h1':¬x=s.A:=fun e=>h1 e.symm
  by_cases h2:x=s.B
  ·subst h2; simp[h1,h1']
  ·simp[h1',h2] at h
theorem AtOk.good{h:X5}{a:Xb}{st:X}{o:X0}(hh:AT h=E)(H:AtOk h a (o.Passages.map fun p=>p.Segment) st o):GoodP h.Chart h.Fleet o.Passages:=by
 obtain⟨ha,pts,l,hr,S,hp⟩:=H;obtain⟨_,hc,hfl,_,_⟩:=FU hh;simp only[BE,zE] at ha
 have hne:o.Passages≠ []:=fun e=>by
  have h1:=S.hd;have h2:=S.len;rw[e] at h2
  cases l with
  | nil=>cases h1
  | cons=>simp at h2
 obtain⟨_,hp⟩:=hp;generalize hps:o.Passages=ps at *
 have hlen:(ps.map fun p=>p.Segment).length=ps.length:=by simp
 have hpos:0<ps.length:=zU.2 hne
 have at_:∀j (hj:j<ps.length),∃x y,pts[j]?=O x∧l[j]?=O y∧0≤y∧y≤2880∧idx ps[j].Segment h.Chart.Segments.length=E∧ps[j]=⟨a.Ship,ps[j].Segment,(At h.Chart ps[j].Segment).A==x,y,y+AG (At h.Chart ps[j].Segment) (AO h.Fleet a.Ship)⟩:=fun j hj=>by
  obtain⟨x,y,q1,q2,q3,q4,q5⟩:=hp j (by omega) (by omega);have hs:=hr.seg j (by omega);simp only[kQ] at hs q5
  obtain⟨m1,m2⟩:=FY (s:=AO h.Fleet a.Ship) hc hs;rw[Ao (by omega) (by omega),zC hj,zG] at q5
  exact⟨x,y,q1,q2,q3,q4,hs,q5⟩
 have up:∀j (hj:j+1<ps.length),ps[j].End≤ps[j+1].Start:=fun j hj=>by
  obtain⟨x,y,_,q2,q3,q4,q5,q6⟩:=at_ j (by omega);obtain⟨x',y',_,r2,_,_,_,r6⟩:=at_ (j+1) hj;obtain⟨u,v,s1,s2,s3⟩:=S.up j (by omega);rw[q2,zG] at s1
  rw[r2,zG] at s2
  subst s1 s2;simp only[kQ] at s3
  obtain⟨m1,m2⟩:=FY (s:=AO h.Fleet a.Ship) hc q5;rw[Ao (by omega) (by omega)] at s3
  rw[q6,r6];exact s3
 refine⟨hne,fun p hpm=> ?_,⟨a.Ship,fun p hpm=> ?_⟩,fun j hj=>⟨?_,up j hj⟩⟩
 ·obtain⟨j,hj,rfl⟩:=zN hpm;obtain⟨x,y,q1,q2,q3,q4,q5,q6⟩:=at_ j hj;obtain⟨m1,m2⟩:=FY (s:=AO h.Fleet a.Ship) hc q5
  have hend:y+AG (At h.Chart ps[j].Segment) (AO h.Fleet a.Ship)≤2880:=by
   obtain⟨z,z1,_,z3⟩:=S.sf j (by omega);rw[q2,zG] at z1
   subst z1;simpa using z3
  rw[q6];simp only[Cg,Ce,zE,decide_eq_true_eq];exact⟨ha.1,q5,⟨q3,q4⟩,hend,(Ao (by omega) (by omega)).symm⟩
 ·obtain⟨j,hj,rfl⟩:=zN hpm;obtain⟨x,y,q1,q2,q3,q4,q5,q6⟩:=at_ j hj;rw[q6]
 ·have e:∀j (hj:j<ps.length),∃x,pts[j]?=O x∧0≤BZ (At h.Chart ps[j].Segment) x∧pts[j+1]?=O (BZ (At h.Chart ps[j].Segment) x)∧Cz h.Chart ps[j]=(x,BZ (At h.Chart ps[j].Segment) x):=fun j hj=>by
   obtain⟨x,y,q1,q2,q3,q4,q5,q6⟩:=at_ j hj;obtain⟨x',t1,t2,t3⟩:=hr.stp j (by omega);simp only[kQ] at t2 t3
   rw[q1,zG] at t1
   subst t1;refine⟨x,q1,t3,t2,?_⟩;rw[← pN t3];have ht:ps[j].Toward=((At h.Chart ps[j].Segment).A==x):=by rw[q6]
   unfold Cz;rw[ht]
  obtain⟨x,_,_,g3,g4⟩:=e j (by omega);obtain⟨x',k1,_,_,k4⟩:=e (j+1) hj;rw[g3,zG] at k1
  rw[g4,k4,k1]
def El(a b g:X):Y:=decide (a - b<g∧b - a<g)
def En(p q:X3):Y:=decide (p.Start<q.End∧q.Start<p.End)
def E5(c:X1)(r:Xi)(p q:X3):Y:=
 decide (p.Segment=q.Segment)&&(if p.Ship=q.Ship then En p q else if p.Toward=q.Toward then(El p.Start q.Start r.Gap || (El p.End q.End r.Gap || decide ((p.Start<q.Start∧q.End<p.End)∨(q.Start<p.Start∧p.End<q.End)))) else En p q&&(r.NoMeet || !(At c p.Segment).Meet))
theorem WO(c:X1)(r:Xi)(p q:X3):E5 c r p q=E5 c r q p:=by
 have n:∀a b g,El a b g=El b a g:=fun a b g=>by unfold El; congr 1; exact propext And.comm
 have v:En p q=En q p:=by unfold En; congr 1; exact propext And.comm
 unfold E5;by_cases e:p.Segment=q.Segment
 ·simp only[e,n q.Start,n q.End,← v,eq_comm (a:=q.Ship),eq_comm (a:=q.Toward),or_comm (a:=q.Start<p.Start∧p.End<q.End)]
 ·have e':¬q.Segment=p.Segment:=fun h=>e h.symm
  simp[e,e']
theorem bl{a b g:X}(a0:0≤a)(a1:a≤2880)(b0:0≤b)(b1:b≤2880):Lp a b g=O (El a b g):=by
 unfold Lp Ov El;by_cases h:b<a
 ·have h':¬a<b:=by omega
  simp only[h,h',if_true,if_false,show ¬b<0 by omega,decide_false,zD,Ao (n:=a - b) (by omega) (by omega),zG,decide_eq_decide];omega
 ·simp only[h,if_false,show ¬a<0 by omega,decide_false,zD,zG,decide_eq_decide];by_cases h':a<b
  ·simp only[h',if_true,Ao (n:=b - a) (by omega) (by omega)]; omega
  ·simp only[h',if_false,Ao (n:=a - a) (by omega) (by omega)]; omega
theorem Zw{a b g:X}(a0:0≤a)(a1:a≤2880)(b0:0≤b)(b1:b≤2880)(g0:0≤g)(g1:g≤60):KI a b g=O (El a b g):=by
 unfold KI El;rw[F3 g0 (by omega)];by_cases h:b<a
 ·have h':¬a<b:=by omega
  simp only[h,h',if_true,if_false,F3 (n:=a) (by omega) (by omega),F3 (n:=b) (by omega) (by omega),F3 (n:=a - b) (by omega) (by omega),zG,decide_eq_decide];omega
 ·by_cases h':a<b
  ·simp only[h,h',if_true,if_false,F3 (n:=a) (by omega) (by omega),F3 (n:=b) (by omega) (by omega),F3 (n:=b - a) (by omega) (by omega),zG,decide_eq_decide];omega
  ·simp only[h,h',if_true,if_false,F3 (n:=a) (by omega) (by omega),F3 (n:=a - a) (by omega) (by omega),zG,decide_eq_decide];omega
theorem xh{p q:X3}(hp:p.Start<p.End)(hq:q.Start<q.End):Li p q=O (En p q)∧Ku p q=O (En p q):=by
 have:decide ((if p.Start<q.Start then q.Start else p.Start)<(if q.End<p.End then q.End else p.End))=En p q:=by
  unfold En;rw[decide_eq_decide];split<;>split<;>omega
 unfold Li Ku;rw[this];exact⟨zA,zA⟩
theorem WP{c:X1}{fl:Q X4}{r:Xi}(hc:AF c=E)(hr:JK r=E){p q:X3}(hp:Cg c fl p=E)(hq:Cg c fl q=E) :
  (∃n,NW c r p q=O n∧(n !=0)=E5 c r p q)∧∃n,MV c r p q=O n∧(n !=0)=E5 c r p q:=by
 obtain⟨_,p2,p3,p4,p5⟩:=DT hc hp;obtain⟨_,q2,q3,q4,q5⟩:=DT hc hq;have hn:=(Ci hc).2.2.1;have h10:=(Ci hc).2.1;have hr':=hr;simp only[JK,zE,decide_eq_true_eq] at hr'
 obtain⟨o1,o2⟩:=xh (Py hc hp) (Py hc hq);have n1:=bl (a:=p.Start) (b:=q.Start) (g:=r.Gap) (by omega) (by omega) (by omega) (by omega);have n2:=bl (a:=p.End) (b:=q.End) (g:=r.Gap) (by omega) (by omega) (by omega) (by omega);have m1:=Zw (a:=p.Start) (b:=q.Start) (g:=r.Gap) (by omega) (by omega) (by omega) (by omega) hr'.1 hr'.2;have m2:=Zw (a:=p.End) (b:=q.End) (g:=r.Gap) (by omega) (by omega) (by omega) (by omega) hr'.1 hr'.2;have hreg:Jb r=O E:=by simp only[Jb,Bw,zB]; exact congrArg O hr
 unfold NW MV MW MX Ig MY E5;simp only[DB hn,hc,hreg,zB,if_true,CQ _ (show c.Segments.length≤1000 by omega),p2,DO,o1,o2,n1,n2,m1,m2,(BP p2).1,kX,zD,if_false];by_cases e1:p.Segment=q.Segment
 ·by_cases e2:p.Ship=q.Ship
  ·cases ho:En p q<;>simp[e1,e2]
  ·by_cases e3:p.Toward=q.Toward
   ·cases h1:El p.Start q.Start r.Gap<;>cases h2:El p.End q.End r.Gap<;>simp[e1,e2,e3];by_cases g1:p.Start<q.Start<;>by_cases g2:q.End<p.End<;>by_cases g3:q.Start<p.Start<;>by_cases g4:p.End<q.End<;>simp[g1,g2,g3,g4]<;>omega
   ·cases ho:En p q<;>cases hm:r.NoMeet<;>cases hs:(At c p.Segment).Meet<;>simp[e1,e2,e3]<;>simp_all
 ·simp[e1]
def Bz(c:X1)(r:Xi)(a b:Q X3):Y:=a.any fun p=>b.any fun q=>E5 c r p q
theorem lj(c:X1)(r:Xi)(a b:Q X3):Bz c r a b=Bz c r b a:=by
 rw[zR];simp only[Bz,kP];constructor
 ·rintro⟨p,hp,q,hq,h⟩
  exact⟨q,hq,p,hp,by rw[WO]; exact h⟩
 ·rintro⟨p,hp,q,hq,h⟩
  exact⟨q,hq,p,hp,by rw[WO]; exact h⟩
theorem WI{c:X1}{fl:Q X4}{r:Xi}(hc:AF c=E)(hr:JK r=E){a b:Q X3}(ha:∀p∈a,Cg c fl p=E)(hb:∀p∈b,Cg c fl p=E)(la:a.length≤maxLen)(lb:b.length≤maxLen) :
  NV c r a b=O (Bz c r a b)∧MU c r a b=O (Bz c r a b):=by
 have fin:∀x:Y,(if x=E then O E else O G)=O x:=fun x=>by cases x<;>rfl
 constructor
 ·have:=Ex (L:=FF b a c r) a (fun p=>b.any fun q=>E5 c r p q) (O E) (O G) la (fun n i h=>by
   rw[FF];simp only[Ag,h,decide_true,if_true,Ac h,zB]
   exact Ex (L:=IW b a (i:X) c r a[i] (FF b a c r n)) b (fun q=>E5 c r a[i] q) (O E) (FF b a c r n (kY .i64 ((i:X)+1))) lb (fun m j hj=>by
    obtain⟨x,x1,x2⟩:=(WP hc hr (ha _ (zF h)) (hb _ (zF hj))).1;rw[IW];simp only[Ag,hj,decide_true,if_true,Ac hj,zB,x1,x2]) fun m=>by rw[IW,if_neg (by simp)]) fun n=>by rw[FF,if_neg (by simp)]
  unfold NV;rw[this,fin];rfl
 ·have:=Ex (L:=Fo b a c r) a (fun p=>b.any fun q=>E5 c r p q) (O E) (O G) la (fun n i h=>by
   rw[Fo];simp only[Ag,h,decide_true,if_true,Ac h,zB]
   exact Ex (L:=If b a (i:X) c r a[i] (Fo b a c r n)) b (fun q=>E5 c r a[i] q) (O E) (Fo b a c r n (kY .i64 ((i:X)+1))) lb (fun m j hj=>by
    obtain⟨x,x1,x2⟩:=(WP hc hr (ha _ (zF h)) (hb _ (zF hj))).2;rw[If];simp only[Ag,hj,decide_true,if_true,Ac hj,zB,x1,x2]) fun m=>by rw[If,if_neg (by simp)]) fun n=>by rw[Fo,if_neg (by simp)]
  unfold MU;rw[this,fin];rfl
theorem ZT{B C:Z→Z→Y}{N M n m:Z}(h:N≤M)(e:∀i j,i<N→j<N→B i j=C i j)(H:Cp B (2 ^ N - 1) n)(K:Cp C (2 ^ M - 1) m):n≤m:=by
 obtain⟨f,f1,f2⟩:=K.1
 have b:∀i,(2 ^ N - 1).testBit i=E→i<N∧(2 ^ M - 1).testBit i=E:=fun i hi=>by
  rw[yN,decide_eq_true_eq] at hi
  exact⟨hi,by rw[yN,decide_eq_true_eq]; omega⟩
 exact H.2 m ⟨f,fun i hi=>f1 i (b i hi).2,fun i j hi hj hne he=>by rw[e i j (b i hi).1 (b j hj).1]; exact f2 i j (b i hi).2 (b j hj).2 hne he⟩
theorem Wy{p:X}{m:Q X}{l k:Q Xc}{i j:Z}(hi:i<l.length)(hj:j<l.length):B8 p m l i j=B8 p m (l++k) i j:=by
 unfold B8;rw[zH hi,zH hj]
theorem Kc{p:X}{m:Q X}{l:Q Xc}(hm:m.length≤maxLen)(h1:l.length≤12)(h2:∀d∈l,Bn d=E)(h3:Ce p=E)(h4:ET m=E) :
  ∃n:Z,Cp (B8 p m l) (2 ^ l.length - 1) n∧(∃w,J4 p m l=O (w,(n:X),E))∧∀k:X,Gu p m l k=O (decide ((n:X)≤k)):=by
 obtain⟨n,w1,w2,n12,n1,e1,e2⟩:=jK hm (jS h1 h2 h3 h4);refine⟨n,n1,⟨w1,e1⟩,fun k=> ?_⟩;have hn:n≤l.length:=n1.2 _ (Qg (by have:=kK (n:=l.length) (show 0<2 by omega); omega));unfold Gu;by_cases hk:(l.length:X)≤k
 ·have:(n:X)≤k:=by omega
  simp[hk,this]
 ·simp[hk,e2]
section
variable {c : X1} {fl : Q X4}
def BU(c:X1)(fl:Q X4)(all:Q X3):Q Xc:=all.flatMap fun p=>zI (AO fl p.Ship).Tugs.toNat (CL c p p)
def HC(l:Q Xc):Q Xc × Y:=if l.length≤12 then(l,E) else([],G)
theorem ck(hn:∀x∈c.Points,x.Name.length≤maxLen)(hf:∀x∈fl,x.Name.length≤maxLen)(hc:AF c=E)(hfl:DN fl=E){all:Q X3}(hl:all.length≤maxLen)(hp:∀p∈all,Cg c fl p=E) :
  Rc c fl all=O (HC (BU c fl all))∧N9 c fl all=O (HC (BU c fl all)):=by
 refine B9 (fun n i=>∀acc:Q Xc,acc.length≤12→FQ fl all c n (i:X) acc=O (HC (acc++BU c fl (all.drop i)))∧Fs fl all c n (i:X) acc=O (HC (acc++BU c fl (all.drop i)))) hl
  (fun n acc ha=>by simp[FQ,Fs,BU,HC,ha]) (fun n i h ih acc ha=> ?_) (zK _) [] (by simp)
 have hpi:=hp _ (zF h);obtain⟨f1,f2,f3,f4,f5⟩:=DT hc hpi;obtain⟨s1,s2⟩:=Jz f1;have hso:=(OJ hfl).2 _ s2
 have hT:0≤(AO fl all[i].Ship).Tugs∧(AO fl all[i].Ship).Tugs≤4:=by
  simp only[CF,zE,decide_eq_true_eq] at hso
  omega
 have hTe:(AO fl all[i].Ship).Tugs=((AO fl all[i].Ship).Tugs.toNat:X):=by omega
 have hd:BU c fl (all.drop i)=zI (AO fl all[i].Ship).Tugs.toNat (CL c all[i] all[i])++BU c fl (all.drop (i+1)):=by
  rw[zW h]; rfl
 rw[FQ,Fs,hd];simp only[Ag,h,decide_true,if_true,Ac h,zB,bg hn hf hc hfl,tp hn hf hc hfl,hpi,PI f2,s1];generalize (AO fl all[i].Ship).Tugs.toNat=T at *
 have g1:=A3c (c:=c) (p:=all[i]) s1 f2 all (i:X) (FQ fl all c n) hTe (by omega) T 0 bigN acc (by omega) (by rw[C5]; omega) (by omega);have g2:=A3b (c:=c) (fl:=fl) (p:=all[i]) f2 all (i:X) (Fs fl all c n) hTe (by omega) T 0 bigN acc (by omega) (by rw[C5]; omega) (by omega);have g1:H2 fl (Cz c all[i]) all (i:X) c all[i] (FQ fl all c n) bigN 0 acc=_:=g1;have g2:GC fl all (i:X) (AO fl all[i].Ship) c all[i] (Fs fl all c n) bigN 0 acc=_:=g2;rw[g1,g2,← yL,Am h hl];generalize acc++zI T (CL c all[i] all[i])=ac2 at ih ⊢
 by_cases h12:(12:X)<(ac2.length:X)
 ·have:¬ac2.length+(BU c fl (all.drop (i+1))).length≤12:=by omega
  simp[h12,HC,this]
 ·simp only[h12,decide_false,zD,if_false];exact ih ac2 (by omega)
theorem V8(hc:AF c=E){all:Q X3}(hp:∀p∈all,Cg c fl p=E):∀d∈BU c fl all,Bn d=E:=fun d hd=>by
 obtain⟨p,hpm,hd⟩:=List.mem_flatMap.1 hd;rw[(List.mem_replicate.1 hd).2];have:=DT hc (hp p hpm);exact WV hc this.2.1 this.2.1 this.2.2.1 (Py hc (hp p hpm)) this.2.2.2.2
def EK(l:Q X3):X3:=l.head?.getD ⟨0,0,G,0,0⟩
def He(l:Q X3):X3:=l.getLast?.getD ⟨0,0,G,0,0⟩
def BX(c:X1)(pl:Q X0):Q Xc:=pl.map fun o=>CL c (EK o.Passages) (He o.Passages)
theorem Tm{l:Q X3}(h:l≠ []):l.head?=O (EK l)∧l.getLast?=O (He l):=by
 cases l with
 | nil=>exact absurd rfl h
 | cons a l=>
  refine⟨zA,?_⟩;unfold He;cases e:(a::l).getLast? with
  | none=>rw[kM] at e; cases e
  | some x=>rfl
theorem GoodP.duty{l:Q X3}(hc:AF c=E)(H:GoodP c fl l):Cg c fl (EK l)=E∧Cg c fl (He l)=E∧Bn (CL c (EK l) (He l))=E:=by
 obtain⟨e1,e2⟩:=Tm H.ne;have i1:=H.inn _ (List.mem_of_head? e1);have i2:=H.inn _ (List.mem_of_getLast? e2);have f1:=DT hc i1;have f2:=DT hc i2;have hpos:=zU.2 H.ne
 have hlt:∀j (h:j<l.length),(l[0]'hpos).Start<l[j].End:=by
  intro j
  induction j with
  | zero=>intro h; exact Py hc (H.inn _ (zF h))
  | succ j ih=>
   intro h;have g1:=ih (by omega);have g2:=(H.link j h).2;have g3:=Py hc (H.inn _ (zF h));omega
 have s1:l[0]'hpos=EK l:=by rw[kC,zC hpos] at e1; exact kW e1
 have s2:l[l.length - 1]'(by omega)=He l:=by rw[zX,zC (by omega)] at e2; exact kW e2
 have:=hlt (l.length - 1) (by omega);rw[s1,s2] at this
 exact⟨i1,i2,WV hc f1.2.1 f2.2.1 f1.2.2.1 this f2.2.2.2.2⟩
theorem xw(hn:∀x∈c.Points,x.Name.length≤maxLen)(hf:∀x∈fl,x.Name.length≤maxLen)(hc:AF c=E)(hfl:DN fl=E){l:Q X3}(hl:l.length≤100000000)(H:GoodP c fl l):Ob c fl l=O (CL c (EK l) (He l),E):=by
 have hlm:l.length≤maxLen:=Af (by omega);have hpos:=zU.2 H.ne;have h10:=(Ci hc).2.1;obtain⟨e1,e2⟩:=Tm H.ne;obtain⟨i1,i2,_⟩:=H.duty hc;have h00:ix l (0:X)=O (EK l):=by have:=An l 0; rw[← kC,e1] at this; exact this
 obtain⟨sh,hsh⟩:=H.ship
 have chain:O1 c l=O E:=by
  unfold O1;rw[DB hn,hc,zB,if_pos rfl];refine B9 (fun n i=>GN l c n (i:X)=O E) hlm (fun n=>by simp[GN]) (fun n i h ih=> ?_) (zK _);have hs:=(DT hc (H.inn _ (zF h))).2.1;have hq:(l[i].Ship !=(EK l).Ship)=G:=by rw[hsh _ (zF h),hsh _ (List.mem_of_head? e1)]; simp
  rw[GN];simp only[Ag,h,decide_true,if_true,Ac h,h00,zB,hq,zD,if_false,CQ _ (show c.Segments.length≤1000 by omega),hs,Am h hlm,ih];cases i with
  | zero=>rfl
  | succ i=>
   have hz:(((i+1:Z):X)==(0:X))=G:=beq_eq_false_iff_ne.2 (by omega)
   have ew:kY .i64 (((i+1:Z):X) - 1)=(i:X):=by
    rw[show((i+1:Z):X) - 1=(i:X) by omega];exact Ao (by omega) (by omega)
   have hi:i<l.length:=by omega
   have hs':=(DT hc (H.inn _ (zF hi))).2.1;obtain⟨k1,k2⟩:=H.link i h;have hx:¬l[i+1].Start<l[i].End:=by omega
   simp only[hz,zD,if_false,PI hs,ew,Ac hi,zB,PI hs',k1,bne_self_eq_false,hx,decide_false]
 unfold Ob Oc;have hz:((l.length:X)==(0:X))=G:=beq_eq_false_iff_ne.2 (by omega);simp only[hz,zD,if_false,chain,zB,kX];refine B9 (fun n i=>J9 fl l c n (i:X)=O (CL c (EK l) (He l),E)) hlm (fun n=> ?_) (fun n i h ih=> ?_) (zK _)
 ·have s1:=(DT hc i1).2.1;have s2:=(DT hc i2).2.1;rw[J9,if_neg (by simp),JD hlm e2,zB,h00,zB,PI s1,zB,PI s2,zB];rfl
 ·rw[J9];simp only[Ag,h,decide_true,if_true,Ac h,zB,bg hn hf hc hfl,H.inn _ (zF h),Am h hlm,ih]
end
def BI(pl:Q X0):Q X3:=(BF pl).flatten
def FitP(h:X5)(pl:Q X0):Prop:=
 (BU h.Chart h.Fleet (BI pl)).length≤12∧(∃n:Z,Cp (B8 0 h.Crew.Moves (BU h.Chart h.Fleet (BI pl))) (2 ^ (BU h.Chart h.Fleet (BI pl)).length - 1) n∧(n:X)≤h.Crew.Tugs)∧
  ∃n:Z,Cp (B8 h.Crew.Rest h.Crew.Moves (BX h.Chart pl)) (2 ^ (BX h.Chart pl).length - 1) n∧(n:X)≤h.Crew.Pilots
theorem ZU{B:Z→Z→Y}{S n m:Z}(H:Cp B S n)(K:Cp B S m):n=m:=Nat.le_antisymm (H.2 _ K.1) (K.2 _ H.1)
def E0(h:X5)(pl:Q X0):Prop:=∀o∈pl,GoodP h.Chart h.Fleet o.Passages∧o.Passages.length≤1048576
theorem OI{h:X5}{pl:Q X0}(H:E0 h pl):∀p∈BI pl,Cg h.Chart h.Fleet p=E:=fun p hp=>by
 obtain⟨l,hl,hp⟩:=List.mem_flatten.1 hp;obtain⟨o,ho,rfl⟩:=kR.1 hl;exact(H o ho).1.inn p hp
theorem UM{h:X5}{pl:Q X0}(hc:AF h.Chart=E)(H:E0 h pl):∀d∈BX h.Chart pl,Bn d=E:=fun d hd=>by
 obtain⟨o,ho,rfl⟩:=kR.1 hd;exact((H o ho).1.duty hc).2.2
theorem FitP.app{h:X5}{pl ql:Q X0}(hh:AT h=E)(s:HSmall h)(H:E0 h (pl++ql))(hl:pl.length≤12)(F:FitP h (pl++ql)):FitP h pl:=by
 obtain⟨_,hc,_,_,hw⟩:=FU hh;obtain⟨m1,m2⟩:=Tg hw;have Hp:E0 h pl:=fun o ho=>H o (List.mem_append_left _ ho)
 have et:BU h.Chart h.Fleet (BI (pl++ql))=BU h.Chart h.Fleet (BI pl)++BU h.Chart h.Fleet (BI ql):=by simp[BI,BF,BU,List.flatMap_append]
 have ep:BX h.Chart (pl++ql)=BX h.Chart pl++BX h.Chart ql:=by simp[BX]
 obtain⟨f1,⟨n,f2,f3⟩,m,f4,f5⟩:=F;rw[et] at f1 f2
 rw[ep] at f4
 have l1:(BU h.Chart h.Fleet (BI pl)).length≤12:=by rw[zO] at f1; omega
 obtain⟨n',k1,_,_⟩:=Kc (p:=0) s.mv l1 (V8 hc (OI Hp)) (by decide) m2;obtain⟨m',k2,_,_⟩:=Kc (p:=h.Crew.Rest) s.mv (l:=BX h.Chart pl) (by simpa[BX] using hl) (UM hc Hp) m1 m2;have q1:=ZT (by simp) (fun i j hi hj=>Wy hi hj) k1 f2;have q2:=ZT (by simp) (fun i j hi hj=>Wy hi hj) k2 f4;exact⟨l1,⟨n',k1,by omega⟩,m',k2,by omega⟩
theorem FitP.iff{h:X5}{pl:Q X0}{n m:Z}(h12:(BU h.Chart h.Fleet (BI pl)).length≤12)(k1:Cp (B8 0 h.Crew.Moves (BU h.Chart h.Fleet (BI pl))) (2 ^ (BU h.Chart h.Fleet (BI pl)).length - 1) n)(k4:Cp (B8 h.Crew.Rest h.Crew.Moves (BX h.Chart pl)) (2 ^ (BX h.Chart pl).length - 1) m) :
  (n:X)≤h.Crew.Tugs∧(m:X)≤h.Crew.Pilots↔FitP h pl:=by
 constructor
 ·rintro⟨a,b⟩
  exact⟨h12,⟨n,k1,a⟩,m,k4,b⟩
 ·rintro⟨_,⟨n',a1,a2⟩,m',b1,b2⟩
  rw[ZU k1 a1,ZU k4 b1];exact⟨a2,b2⟩
theorem XL{h:X5}{pl:Q X0}(hl:pl.length≤12)(H:E0 h pl):(BI pl).length≤1000000000000:=by
 have:∀(ql:Q X0),(∀o∈ql,o.Passages.length≤1048576)→(BI ql).length≤ql.length*1048576:=by
  intro ql
  induction ql with
  | nil=>intro _; simp[BI,BF]
  | cons o ql ih=>
   intro h;have h1:=ih fun x hx=>h x (yH _ hx)
   have h2:=h o (yJ ..);have e:BI (o::ql)=o.Passages++BI ql:=rfl;rw[e,zO,kS];omega
 have:=this pl fun o ho=>(H o ho).2
 omega
theorem WU{h:X5}(s:HSmall h)(hh:AT h=E){pl:Q X0}(hl:pl.length≤12)(H:E0 h pl):∃b,DH h pl=O b∧(b=E↔FitP h pl):=by
 obtain⟨_,hc,hfl,_,hw⟩:=FU hh;obtain⟨m1,m2⟩:=Tg hw;have hlm:pl.length≤maxLen:=Af (by omega)
 have key:=B9 (fun n i=>∀v2 v3,v2.length≤i*1048576→v3.length=i→Gv pl h n (i:X) v2 v3=(N9 h.Chart h.Fleet (v2++BI (pl.drop i))).bind fun r12=>
   if r12.2 then(Gu 0 h.Crew.Moves r12.1 h.Crew.Tugs).bind fun r14=>if r14 then(Gu h.Crew.Rest h.Crew.Moves (v3++BX h.Chart (pl.drop i)) h.Crew.Pilots).bind fun r16=>O r16 else O G else O G) hlm
  (fun n v2 v3 h1 h2=>by rw[Gv,if_neg (by simp)]; simp[BI,BF,BX]) (fun n i hi ih v2 v3 h1 h2=> ?_) (zK _) [] [] (by simp) rfl
 ·have key:DH h pl=_:=key;rw[key,yX,kG,kG,(ck s.pn s.fn hc hfl (Af (XL hl H)) (OI H)).2,zB];unfold HC;by_cases h12:(BU h.Chart h.Fleet (BI pl)).length≤12
  ·obtain⟨n,k1,_,k3⟩:=Kc (p:=0) s.mv h12 (V8 hc (OI H)) (by decide) m2;obtain⟨m,k4,_,k6⟩:=Kc (p:=h.Crew.Rest) s.mv (l:=BX h.Chart pl) (by simpa[BX] using hl) (UM hc H) m1 m2;simp only[h12,if_true,k3,k6,zB];refine⟨decide ((n:X)≤h.Crew.Tugs)&&decide ((m:X)≤h.Crew.Pilots),by by_cases q:(n:X)≤h.Crew.Tugs<;>simp[q],?_⟩;simp only[zE,decide_eq_true_eq];exact FitP.iff h12 k1 k4
  ·simp only[h12,if_false];exact⟨G,zA,⟨(fun h=>by cases h),fun F=>absurd F.1 h12⟩⟩
 ·obtain⟨g1,g2⟩:=H _ (zF hi);obtain⟨e1,e2⟩:=Tm g1.ne;obtain⟨i1,i2,_⟩:=g1.duty hc;have hz:(0:X)<(pl[i].Passages.length:X):=by have:=zU.2 g1.ne; omega
  have h00:ix pl[i].Passages (0:X)=O (EK pl[i].Passages):=by have:=An pl[i].Passages 0; rw[← kC,e1] at this; exact this
  rw[Gv];simp only[Ag,hi,decide_true,if_true,Ac hi,zB,hz,h00,JD (Af (by omega)) e2,Zs (DT hc i1).2.1 (DT hc i2).2.1];rw[if_pos (Qa (by omega) (by omega)),if_pos (AP (by omega) (by simp) (by omega)),Am hi hlm,ih _ _ (by simp; omega) (by simp; omega)];simp only[zW hi,BI,BF,BX,List.map_cons,List.flatten_cons,yL,List.singleton_append]
theorem A1b{h:X5}(s:HSmall h)(hh:AT h=E){pl:Q X0}(hl:pl.length≤12)(H:E0 h pl):∃b,NX h.Crew h.Chart h.Fleet (BF pl)=O b∧(b=E↔FitP h pl):=by
 obtain⟨_,hc,hfl,_,hw⟩:=FU hh;obtain⟨m1,m2⟩:=Tg hw;have hlm:pl.length≤maxLen:=Af (by omega);obtain⟨m,k4,⟨w4,k5⟩,_⟩:=Kc (p:=h.Crew.Rest) s.mv (l:=BX h.Chart pl) (by simpa[BX] using hl) (UM hc H) m1 m2
 have pil:Od h.Crew h.Chart h.Fleet (BF pl)=O (m:X):=by
  unfold Od;rw[UV s.mv,hw,zB,if_pos rfl];have hcl:(BF pl).length=pl.length:=by simp[BF]
  refine B9 (fun n i=>∀v,v.length=i→v++BX h.Chart (pl.drop i)=BX h.Chart pl→GQ h.Fleet (BF pl) h.Crew h.Chart n (i:X) v=O (m:X)) hlm (fun n v h1 h2=> ?_) (fun n i hi ih v h1 h2=> ?_) (zK _) [] rfl (by simp)
  ·rw[GQ,if_neg (by rw[hcl]; simp)];have:v=BX h.Chart pl:=by simpa[BX] using h2
   rw[this,k5];rfl
  ·obtain⟨g1,g2⟩:=H _ (zF hi);have hi':i<(BF pl).length:=by omega
   have hg:(BF pl)[i]=pl[i].Passages:=by simp[BF]
   have hz:((pl[i].Passages.length:X)==(0:X))=G:=beq_eq_false_iff_ne.2 (by have:=zU.2 g1.ne; omega);rw[GQ];simp only[Ag,hi',decide_true,if_true,Ac hi',hg,zB,hz,zD,if_false,xw s.pn s.fn hc hfl (by omega) g1];rw[if_pos (AP (by omega) (by simp) (by omega)),Am hi hlm];exact ih _ (by simp; omega) (by rw[← h2,zW hi,yL]; rfl)
 have hT:∃t:X,Lk h.Crew h.Chart h.Fleet (BI pl)=O t∧((0≤t∧t≤h.Crew.Tugs)∧(m:X)≤h.Crew.Pilots↔FitP h pl):=by
  unfold Lk;rw[(ck s.pn s.fn hc hfl (Af (XL hl H)) (OI H)).1,zB,UV s.mv,hw,zB,if_pos rfl];unfold HC;by_cases h12:(BU h.Chart h.Fleet (BI pl)).length≤12
  ·obtain⟨n,k1,⟨w1,k2⟩,_⟩:=Kc (p:=0) s.mv h12 (V8 hc (OI H)) (by decide) m2;simp only[h12,if_true,k2,zB];exact⟨n,rfl,by rw[← FitP.iff h12 k1 k4]; constructor<;>(rintro⟨a,b⟩; exact⟨by omega,b⟩)⟩
  ·simp only[h12,if_false];exact⟨-1,zA,⟨(fun h=>by omega),fun F=>absurd F.1 h12⟩⟩
 obtain⟨t,t1,t2⟩:=hT
 have:=(qY (L:=IZ h.Fleet (BF pl) h.Crew h.Chart) (BF pl) (O ((decide (0≤t)&&decide (t≤h.Crew.Tugs))&&decide ((m:X)≤h.Crew.Pilots))) (by simp[BF]; omega) (fun x hx=>by
  obtain⟨o,ho,rfl⟩:=kR.1 hx
  exact(H o ho).2) (fun n i acc hi ha=>by
   have:(BF pl)[i].length≤1048576:=by
    obtain⟨o,ho,e⟩:=kR.1 (zF hi);rw[← e]; exact(H o ho).2
   have hcl:(BF pl).length=pl.length:=by simp[BF]
   rw[IZ];simp only[Ag,hi,decide_true,if_true,Ac hi,zB]
   rw[if_pos (Qa (by omega) (by omega))]) fun n=>by
    rw[IZ,if_neg (by simp)];have t1:Lk h.Crew h.Chart h.Fleet (BF pl).flatten=O t:=t1;rw[t1,zB,Bw,zB,pil,zB,Bw];cases decide (0≤t)&&decide (t≤h.Crew.Tugs)<;>simp).1
 refine⟨_,this,?_⟩;rw[← t2];simp only[zE,decide_eq_true_eq]
theorem lq{l:Q X0}(h:l.length≤1000):EC l=O l:=by
 unfold EC BQ;rw[if_pos ⟨by omega,by omega,by omega,by omega⟩];simp only[zB,Int.toNat_zero,List.replicate_zero,kG];rw[if_pos (by simp only[A3,List.length_nil,decide_eq_true_eq]; omega)]
def SO(h:X5)(l:Q X0)(o:X0):Prop:=∀x∈l,Bz h.Chart h.Regime x.Passages o.Passages=G
theorem qW{h:X5}(s:HSmall h)(hh:AT h=E){l:Q X0}{o:X0}(hl:l.length≤11)(H:E0 h (l++ [o])):∃b,N0 h l o=O b∧(b=E↔SO h l o∧FitP h (l++ [o])):=by
 obtain⟨_,hc,_,hr,_⟩:=FU hh;obtain⟨b,b1,b2⟩:=WU s hh (pl:=l++ [o]) (by simp; omega) H;have Ho:=H o (by simp)
 have e:=Ex (L:=Ii l h o) l (fun x=>Bz h.Chart h.Regime x.Passages o.Passages) (O G) (O b) (Af (by omega)) (fun n i hi=>by
  have Hi:=H l[i] (List.mem_append_left _ (zF hi));rw[Ii]
  simp only[Ag,hi,decide_true,if_true,Ac hi,zB,(WI hc hr Hi.1.inn Ho.1.inn (Af (by omega)) (Af (by omega))).2]) fun n=>by
   rw[Ii,if_neg (by simp),lq (by omega),zB,if_pos (AP (by omega) (by simp) (by omega)),b1];rfl
 have e:N0 h l o=_:=e;rw[e];cases ha:l.any fun x=>Bz h.Chart h.Regime x.Passages o.Passages with
 | true=>
  obtain⟨x,x1,x2⟩:=kP.1 ha;exact⟨G,zA,(fun h=>by cases h),fun K=>by rw[K.1 x x1] at x2; cases x2⟩
 | false=>
  refine⟨b,zA,b2.trans ⟨fun F=>⟨fun x hx=> ?_,F⟩,fun K=>K.2⟩⟩;have:=List.any_eq_false.1 ha x hx;simpa using this
theorem FitP.nil{h:X5}(hh:AT h=E):FitP h []:=by
 have hw:=(FU hh).2.2.2.2;simp only[Fc,zE,decide_eq_true_eq] at hw
 exact⟨by simp[BU,BI,BF],⟨0,Up,hw.1.1⟩,0,Up,hw.2.1.1⟩
theorem T8{m n:Z}(h:m+n≤140737488355328):Fb m n=E:=by
 unfold Fb;simp only[decide_eq_true_eq];omega
theorem A2u{xs:Q Xb}(h:xs.length≤1048576):GF xs=O xs:=by
 unfold GF;rw[Ei h (by omega)];have:=Gk (L:=IF xs) xs id (EQ h) (fun n i acc hi ha=>by simp[IF,An,hi,ha,QE]) (fun n acc=>by simp[IF]) (zI xs.length ⟨0,0,0,0,0⟩) (by simp);simpa using this
theorem pP{xs:Q Xb}(h:xs.length≤maxLen):Nd xs xs=O E:=by
 unfold Nd;have:=Eu (L:=Iu xs xs) xs (fun _=>E) h (fun n i hi=>by simp[Iu,An,hi,Qy]) (fun n=>by simp[Iu]);simp[this]
theorem wY(P:Z→Z→Prop){len:Z}(h0:∀n,P (n+1) len)(hs:∀n i,i<len→P n (i+1)→P (n+1) i):∀k i n,i+k=len→k<n→P n i:=by
 intro k
 induction k with
 | zero=>
  intro i n h1 h2;obtain⟨q,rfl⟩:=sn (n:=n) (by omega);obtain rfl:i=len:=by omega
  exact h0 q
 | succ k ih=>
  intro i n h1 h2;obtain⟨q,rfl⟩:=sn (n:=n) (by omega);exact hs q i (by omega) (ih _ _ (by omega) (by omega))
theorem Ww:∃m,bigN=m+1∧1000000000000<m:=⟨1208925819614629174706175,by rw[C5],by omega⟩
def Qd(y:X8):Z:=(Eh y).countP fun b=> !b
theorem mI{l:Q Y}:∀{n:Z},l[n]?=O G→((l.set n E).countP fun b=> !b)+1=l.countP fun b=> !b:=by
 induction l with
 | nil=>intro n h; simp at h
 | cons a l ih=>
  intro n h;cases n with
  | zero=>simp only[yY,zG] at h; subst h; simp
  | succ n=>
   simp only[List.getElem?_cons_succ] at h;have:=ih h;simp only[List.set_cons_succ,List.countP_cons];omega
theorem WJ{y:X8}{a:X}(h:ix (Eh y) a=O G):Qd (X8.set y (Int.toNat a) E)+1=Qd y∧0≤a∧a<8:=by
 have hg:=Au h;have hl:(Eh y).length=8:=rfl
 have ha:0≤a:=by
  unfold ix at h;split at h
  ·rename_i h1; exact h1
  ·cases h
 have hn:a.toNat<8:=by
  have:=(kL.1 hg).1;omega
 refine⟨?_,ha,by omega⟩;unfold Qd;rw[bV y hn];exact mI hg
theorem T9{l:Q X}(h:l.length≤1000):BG l=O l:=by
 unfold BG BQ;rw[if_pos ⟨by omega,by omega,by omega,by omega⟩];simp only[zB,Int.toNat_zero,List.replicate_zero,kG];rw[if_pos (by simp only[A3,List.length_nil,decide_eq_true_eq]; omega)]
structure Lead (c:X1) (a:X) (rt l:Q X):Prop where
 r:RtOk c rt l
 hd:l[0]?=O a
 fr:∀i (h:i+1<l.length),((l.take (i+1)).any fun z=>z==l[i+1])=G
theorem Lead.snoc{c:X1}{a:X}{rt l:Q X}(H:Lead c a rt l){x:X}(hx:l.getLast?=O x){i:Z}(hi:i<c.Segments.length)(he:idx (BZ c.Segments[i] x) c.Points.length=E)(hf:(l.any fun z=>z==BZ c.Segments[i] x)=G) :
  Lead c a (rt++ [(i:X)]) (l++ [BZ c.Segments[i] x]):=by
 have hlen:=H.r.len;have hsi:idx (i:X) c.Segments.length=E:=Ha.2 ⟨by omega,by omega⟩;have hsg:At c (i:X)=c.Segments[i]:=by unfold At; rw[zP,zC hi]; rfl
 refine⟨⟨by simp; omega,fun y hy=> ?_,fun j hj=> ?_,fun j hj=> ?_⟩,by rw[zH (by omega)]; exact H.hd,fun j hj=> ?_⟩
 ·rcases zV.1 hy with hy|hy
  ·exact H.r.pt y hy
  ·rw[zS] at hy; subst hy; exact he
 ·by_cases h:j<rt.length
  ·rw[zM h]; exact H.r.seg j h
  ·rw[yI (by omega)]; simpa using hsi
 ·simp only[zO,zY] at hj
  by_cases h:j<rt.length
  ·obtain⟨y,y1,y2,y3⟩:=H.r.stp j h;rw[zM h];exact⟨y,by rw[zH (by omega)]; exact y1,by rw[zH (by omega)]; exact y2,y3⟩
  ·obtain rfl:j=rt.length:=by omega
   rw[yI (by omega)];simp only[Nat.sub_self,List.getElem_singleton,hsg];exact⟨x,by rw[zH (by omega),← hx,zX,hlen]; rfl,by rw[zT (by omega),hlen]; simp,(Ha.1 he).1⟩
 ·simp only[zO,zY] at hj
  by_cases h:j+1<l.length
  ·rw[kH (by omega),zM h];exact H.fr j h
  ·have e:j+1=l.length:=by omega
   rw[yI (by omega)];simp only[e,Nat.sub_self,List.getElem_singleton];rw[kH (by omega),yF];exact hf
theorem Lead.points{c:X1}{a:X}{rt l:Q X}(hc:AF c=E)(hl:rt.length≤1000000)(H:Lead c a rt l):GT c a rt=O (l,E):=by
 have hlen:=H.r.len;have h10:=(Ci hc).2.1
 have h1:l.take 1= [a]:=by
  have h0:=H.hd;cases l with
  | nil=>cases h0
  | cons x l=>simp only[yY,zG] at h0; subst h0; rfl
 unfold GT;rw[← h1];refine B9 (fun n i=>Eb rt c n (i:X) (l.take (i+1))=O (l,E)) (Af (by omega)) (fun n=> ?_) (fun n i hi ih=> ?_) (zK rt.length)
 ·rw[Eb,if_neg (by simp),← hlen,yF]
 ·obtain⟨x,x1,x2,x3⟩:=H.r.stp i hi;have hi1:i+1<l.length:=by omega
  have hlast:(l.take (i+1)).getLast?=O x:=by
   rw[zX,List.length_take,Nat.min_eq_left (by omega),List.getElem?_take_of_lt (by omega)];simpa using x1
  rw[zC hi1,zG] at x2
  have hfr:=H.fr i hi1;rw[x2] at hfr
  have hneg:¬BZ (At c rt[i]) x<0:=by omega
  rw[Eb];simp only[Ag,hi,decide_true,if_true,Ac hi,zB,CQ _ (show c.Segments.length≤1000 by omega),H.r.seg i hi,(BP (H.r.seg i hi)).1,JD (Af (n:=(l.take (i+1)).length) (by simp; omega)) hlast,UF,hneg,decide_false,zD,if_false,Rp (Af (n:=(l.take (i+1)).length) (by simp; omega)),hfr,GU];rw[if_pos (AP (by simp; omega) (by simp) (by omega)),Am hi (Af (by omega)),← x2];rw[show l.take (i+1)++ [l[i+1]]=l.take (i+1+1) by rw[zJ hi1]];exact ih
theorem A54{c:X1}(hc:AF c=E){a0:X}:∀(u n:Z) (a b:X) (rt pts:Q X) (y:X8) (out:Q (Q X)),u<n→Qd y≤u→ix (Eh y) a=O G→Met (X8.set y a.toNat E) pts→pts.getLast?=O a→Lead c a0 rt pts→rt.length+u≤100→out.length+10 ^ u≤100000000→
  ∃r,Gn n c a b rt y out=O r∧GW n c pts rt b out=O r∧r.length≤out.length+10 ^ u∧∀x∈r,x∈out∨(x.length≤100∧∃p,Lead c a0 x p∧p.getLast?=O b):=by
 obtain⟨_,hs10,_,_⟩:=Ci hc;intro u
 induction u with
 | zero=>
  intro n a b rt pts y out hn hu hi;have:=(WJ hi).1;omega
 | succ u ih=>
  intro n a b rt pts y out hn hu hi hm hla hL hr ho;obtain⟨q,rfl⟩:=sn (n:=n) (by omega);obtain⟨hc1,ha0,ha8⟩:=WJ hi;have hp:10 ^ (u+1)=10*10 ^ u:=by rw[Nat.pow_succ]; omega
  have hp1:0<10 ^ u:=kK (by omega);have hpl:=hL.r.len;rw[Gn,Ql,GW,R6,JD (Af (by omega)) hla,zB];by_cases hab:(a==b)=E
  ·have e:a=b:=by simpa using hab
   rw[if_pos hab,if_pos hab,T9 (by omega),zB,if_pos (AP (by omega) (by simp) (by omega)),if_pos (AP (by simp) (by omega) (by omega))];refine⟨_,zA,zA,by simp; omega,fun x hx=> ?_⟩;rcases zV.1 hx with hx|hx
   ·exact Or.inl hx
   ·simp only[zS] at hx; subst hx; exact Or.inr ⟨by omega,pts,hL,e▸hla⟩
  ·rw[if_neg hab,if_neg hab,if_pos (by simp; omega)];generalize hy:X8.set y (Int.toNat a) E=y' at hm
   have hy':(⟨y'.i0,y'.i1,y'.i2,y'.i3,y'.i4,y'.i5,y'.i6,y'.i7⟩:X8)=y':=rfl;rw[hy'];rw[hy] at hc1
   obtain⟨r,e1,e2,e3,e4⟩:=B9 (fun m i=>∀o:Q (Q X),o.length≤out.length+i*10 ^ u→(∀x∈o,x∈out∨(x.length≤100∧∃p,Lead c a0 x p∧p.getLast?=O b))→
     ∃r,Gm (Gn q) a b rt c y' m (i:X) o=O r∧GV (GW q) pts rt b a c m (i:X) o=O r∧r.length≤out.length+c.Segments.length*10 ^ u∧∀x∈r,x∈out∨(x.length≤100∧∃p,Lead c a0 x p∧p.getLast?=O b)) (Af (n:=c.Segments.length) (by omega))
    (fun m o hl hx=>⟨o,by simp[Gm],by simp[GV],hl,hx⟩) (fun m i hlt ihk o hl hx=>by
     have hsucc:(i+1)*10 ^ u=i*10 ^ u+10 ^ u:=Nat.succ_mul i _;have hle:i*10 ^ u≤9*10 ^ u:=Nat.mul_le_mul_right _ (by omega);rw[Gm,GV];simp only[Ag,hlt,decide_true,if_true,Ac hlt,zB,Tl,UF];have he:=WX hc (zF hlt) a;have hE:∃e,BZ c.Segments[i] a=e:=⟨_,rfl⟩;obtain⟨e,hE⟩:=hE;rw[hE] at he ⊢
     by_cases h0:0≤e
     ·have hei:=he.resolve_left (by omega);have he':=Ha.1 hei;have hp8:=(Ci hc).1;have hd:(decide (0≤e)&&decide (e<8))=E:=by simp; omega
      have hmE:=hm e h0 (by omega);have hmE':=hmE;unfold Eh at hmE'
      simp only[h0,decide_true,if_true,Rp (Af (n:=pts.length) (by omega)),zB];rw[if_pos (by simp; omega),hmE',zB];cases hb:pts.any fun z=>z==e with
      | true=>
       simp only[HT,Jl,kX,zD,if_false,Am hlt (Af (n:=c.Segments.length) (by omega))];exact ihk o (by omega) hx
      | false=>
       simp only[HT,Jl,Bool.not_false,if_true,Am hlt (Af (n:=c.Segments.length) (by omega))];rw[T9 (by omega),zB,if_pos (AP (by omega) (by simp) (by omega)),if_pos (AP (by simp) (by omega) (by omega)),if_pos (AP (by omega) (by simp) (by omega)),if_pos (AP (by simp) (by omega) (by omega)),if_pos (AP (by omega) (by simp) (by omega))];rw[hb] at hmE
       obtain⟨r,e1,e2,e3,e4⟩:=ih q e b (rt++ [(i:X)]) (pts++ [e]) y' o (by omega) (by omega) hmE (hm.snoc h0 (by omega)) (by simp) (by have:=hL.snoc hla hlt (by rw[hE]; exact hei) (by rw[hE]; exact hb); rw[hE] at this; exact this) (by simp; omega) (by omega);rw[e1,e2,zB,zB]
       exact ihk r (by omega) fun x h=>by
        rcases e4 x h with h|h
        ·exact hx x h
        ·exact Or.inr h
     ·simp only[h0,decide_false,zD,if_false,HT,Jl,Am hlt (Af (n:=c.Segments.length) (by omega))];exact ihk o (by omega) hx) (zK _) out (by omega) fun x hx=>Or.inl hx
   have hle:c.Segments.length*10 ^ u≤10*10 ^ u:=Nat.mul_le_mul_right _ hs10;exact⟨r,e1,e2,by omega,e4⟩
theorem kt{c:X1}(hc:AF c=E){a b:X}(ha:idx a c.Points.length=E)(hb:idx b c.Points.length=E):∃r,Of c a b=O r∧ML c a b=O r∧r.length≤100000000∧∀x∈r,x.length≤100∧∃p,Lead c a x p∧p.getLast?=O b:=by
 have hp8:=(Ci hc).1;have hn:=(Ci hc).2.2.1;have ha':=Ha.1 ha
 have hi:ix (Eh ⟨G,G,G,G,G,G,G,G⟩) a=O G:=by
  obtain⟨n,rfl⟩:∃n:Z,a=(n:X):=⟨a.toNat,by omega⟩;have:n=0∨n=1∨n=2∨n=3∨n=4∨n=5∨n=6∨n=7:=by omega
  rcases this with rfl|rfl|rfl|rfl|rfl|rfl|rfl|rfl<;>rfl
 have m0:Met ⟨G,G,G,G,G,G,G,G⟩ []:=fun x x0 x8=>by
  obtain⟨n,rfl⟩:∃n:Z,x=(n:X):=⟨x.toNat,by omega⟩;have:n=0∨n=1∨n=2∨n=3∨n=4∨n=5∨n=6∨n=7:=by omega
  rcases this with rfl|rfl|rfl|rfl|rfl|rfl|rfl|rfl<;>rfl
 obtain⟨r,e1,e2,e3,e4⟩:=A54 hc (a0:=a) 8 bigN a b [] [a] ⟨G,G,G,G,G,G,G,G⟩ [] (by rw[C5]; omega) (by decide) hi (m0.snoc ha'.1 (by omega)) rfl ⟨⟨rfl,by simpa using ha,fun i h=>by simp at h,fun i h=>by simp at h⟩,rfl,fun i h=>by simp at h⟩ (by simp) (by simp);refine⟨r,?_,?_,by simpa using e3,fun x hx=>(e4 x hx).resolve_left (by simp)⟩
 ·unfold Of Tu;simp only[DB hn,hc,zB,if_true,CQ _ (show c.Points.length≤1000 by omega),ha,hb,e2]
 ·unfold ML Tn;simp only[EL hn,hc,zB,if_true,DO,ha,hb,e1]
theorem kr{c:X1}(hc:AF c=E){a b:X}(ha:idx a c.Points.length=E)(hb:idx b c.Points.length=E):∃rt q,NU c a b=O (rt,q)∧Mn c a b=O (rt,q)∧(q=G→rt= [])∧(q=E→rt.length≤100∧∃p,Lead c a rt p∧p.getLast?=O b):=by
 obtain⟨r,e1,e2,e3,e4⟩:=kt hc ha hb;unfold NU Mn;rw[e1,e2,zB,zB];cases hr0:r with
 | nil=>exact⟨[],G,by obtain⟨m,hm,_⟩:=Ww; rw[hm]; rfl,rfl,fun _=>rfl,fun h=>by cases h⟩
 | cons r0 rs=>
  rw[← hr0];have hpos:0<r.length:=by rw[hr0]; simp
  have hz:((r.length:X)==(0:X))=G:=beq_eq_false_iff_ne.2 (by omega);have h00:ix r (0:X)=O r0:=by rw[hr0]; rfl
  have hm0:r0∈r:=by rw[hr0]; simp
  have hlm:r.length≤maxLen:=Af (by omega);rw[hz,if_neg (by simp),h00,zB]
  have rm:∀x∈r,∃m,GR c x=O m∧Gt c x=O m:=fun x hx=>by
   obtain⟨h1,p,h2,_⟩:=e4 x hx;obtain⟨m,m1,m2,_⟩:=bK hc (rt:=x) (by omega) h2.r.seg;exact⟨m,m1,m2⟩
  have key:=wY (fun n i=>∀v∈r,∃rt∈r,FE r c n v E (i:X)=O (rt,E)∧Fe r c n v (i:X)=O (rt,E)) (len:=r.length)
   (fun n v hv=>⟨v,hv,by simp[FE],by simp[Fe]⟩) (fun n i hi ih v hv=>by
    obtain⟨m1,g1,g2⟩:=rm _ (zF hi);obtain⟨m2,g3,g4⟩:=rm v hv;rw[FE,Fe];simp only[Ag,hi,decide_true,if_true,Ac hi,zB,g1,g2,g3,g4,Am hi hlm,L3];by_cases hlt:m1<m2
    ·simp only[hlt,decide_true,if_true];exact ih _ (zF hi)
    ·simp only[hlt,decide_false,zD,if_false];exact ih v hv)
  obtain⟨m,hm,hm1⟩:=Ww;obtain⟨rt,hrt,k1,k2⟩:=key (r.length - 1) 1 m (by omega) (by omega) r0 hm0;obtain⟨m1,g1,g2⟩:=rm r0 hm0;refine⟨rt,E,?_,?_,(fun h=>by cases h),fun _=>e4 rt hrt⟩
  ·rw[hm,FE];have hd:(decide ((0:X)<(r.length:X)))=E:=by simp; omega
   simp only[hd,if_true,h00,zB,zD,if_false,L3];exact k1
  ·rw[hm,Fe];have hd:(decide ((0:X)<(r.length:X)))=E:=by simp; omega
   simp only[hd,if_true,h00,zB,g2,show ¬m1<m1 by omega,decide_false,zD,if_false];exact k2
def HG(h:X5)(o:X0):Prop:=(GoodP h.Chart h.Fleet o.Passages∧o.Passages.length≤1048576)∧0≤o.Cost∧o.Cost≤2880
theorem AtOk.optG{h:X5}{a:Xb}{rt:Q X}{st:X}{o:X0}(hh:AT h=E)(hl:rt.length≤100)(H:AtOk h a rt st o)(h1:0≤o.Cost)(h2:o.Cost≤2880):HG h o:=by
 obtain⟨ha,pts,l,hr,S,hp⟩:=H
 have e:rt=o.Passages.map fun p=>p.Segment:=by
  refine List.ext_getElem (by simp[hp.1]) fun i g1 g2=> ?_
  obtain⟨x,y,_,_,_,_,q⟩:=hp.2 i g1 g1;simp only[List.length_map] at g2
  rw[zC g2,zG] at q
  simp[q]
 have hlen:=hp.1;subst e;exact⟨⟨AtOk.good hh ⟨ha,pts,l,hr,S,hp⟩,by omega⟩,h1,h2⟩
theorem xa{h:X5}(s:HSmall h)(hh:AT h=E){a:Xb}(ha:BE h a=E):∃L,O8 h a=O L∧Ks h a=O L∧L.length≤8∧∀o∈L,HG h o:=by
 obtain⟨hf,hc,hfl,_,_⟩:=FU hh;have ha':=ha;simp only[BE,Ce,zE,decide_eq_true_eq] at ha'
 obtain⟨q1,q2,q3,q4,⟨q5,q6⟩,q7,q8⟩:=ha';obtain⟨s1,s2⟩:=Jz q1;have hso:=(OJ hfl).2 _ s2;have hsn:=s.fn _ s2;obtain⟨rt,q,b1,b2,b3,b4⟩:=kr hc q2 q3;have nil_:∃L,O ([]:Q X0)=O L∧O ([]:Q X0)=O L∧L.length≤8∧∀o∈L,HG h o:=⟨[],rfl,rfl,by simp,fun o h=>by cases h⟩;unfold O8 Ks;simp only[UT s,Zo s,hh,ha,Bool.and_self,zB,if_true,b1,b2];cases q with
 | false=>
  rw[b3 rfl];obtain⟨pts,bb,g1,g2,g3,g4,_,_⟩:=bL hc (rt:= []) (a:=a.From) (by simp)
  have hv:∃v,Ib h a []=O v:=by
   unfold Ib;rw[g4,zB];split
   ·exact⟨_,zA⟩
   ·have hl:pts.length≤1:=by
     have:=g4;obtain⟨p,b',e1,e2,e3,e4⟩:=az hc q2 (rt:= []) (by simp);have hn:=(Ci hc).2.2.1;unfold E6 at this
     rw[EL hn,hc,zB,if_pos rfl,e2,zB,zG] at this
     subst this;cases b' with
     | false=>rw[e3 rfl]; simp
     | true=>rw[(e4 rfl).len]; simp
    rename_i hne
    have:∃x,pts.getLast?=O x:=by
     cases hp:pts.getLast? with
     | none=>rw[kM] at hp; rw[hp] at hne; simp at hne
     | some x=>exact⟨x,rfl⟩
    obtain⟨x,hx⟩:=this;rw[JD (Af (by omega)) hx,zB];unfold KC;split
    ·exact⟨_,zA⟩
    ·rw[s1,zB]
     have:∃w,Io h.Forecast h.Chart (AO h.Fleet a.Ship) a.From []=O w:=by
      unfold Io;simp only[OT,Hb hsn,hf,hso,g2,zB,if_true];split<;>exact⟨_,rfl⟩
     obtain⟨w,hw⟩:=this;rw[hw];exact⟨_,zA⟩
  obtain⟨v,hv⟩:=hv;simp only[hv,zB,zD,if_false];exact nil_
 | true=>
  obtain⟨hl,p,P,hp⟩:=b4 rfl;obtain⟨pts,bb,g1,g2,g3,g4,g5,g6⟩:=bL hc (rt:=rt) (a:=a.From) (by omega)
  have hpts:bb=E∧pts=p:=by
   have e:=P.points hc (by omega);have hn:=(Ci hc).2.2.1;have h8:=(Ci hc).1;unfold EG at g1
   simp only[DB hn,hc,zB,if_true,CQ _ (show h.Chart.Points.length≤1000 by omega),q2,e,zG] at g1
   subst g1;unfold FI EG at g3
   simp only[DB hn,hc,zB,if_true,CQ _ (show h.Chart.Points.length≤1000 by omega),q2,e,zG] at g3
   exact⟨zA,g3.symm⟩
  obtain⟨rfl,rfl⟩:=hpts;have hr:=g6 rfl;have hpl:=hr.len
  have h0:rt≠ []:=fun e=>by
   subst e;have hd:=P.hd;rw[zX,hpl] at hp
   rw[show([]:Q X).length+1 - 1=0 from rfl,hd] at hp
   exact q4 (kW hp)
  obtain⟨v,v1,V⟩:=A3r hf hc hso hsn (by omega) hr h0 g2 g4;have hz:((pts.length:X)==(0:X))=G:=beq_eq_false_iff_ne.2 (by omega)
  have hcv:Ib h a rt=O (v,E):=by
   unfold Ib;simp only[g4,zB,hz,zD,if_false,JD (Af (by omega)) hp,bne_self_eq_false,KC,s1,v1]
  simp only[hcv,zB,if_true,s1,V.st,g3]
  have key:∀(k n:Z) (m:X) (acc:Q X0),2880<m+15*(k:X)→k<n→a.Ready≤m→m≤2880+15→acc.length≤8→(∀o∈acc,HG h o)→
    ∃L,FH (rt,E) h a (AO h.Fleet a.Ship) v.sure pts n m acc=O L∧Gs (rt,E) h a (v,E) n m acc=O L∧L.length≤8∧∀o∈L,HG h o:=by
   intro k
   induction k with
   | zero=>
    intro n m acc h1 h2 h3 h4 h5 h6;obtain⟨q,rfl⟩:=sn (n:=n) (by omega);have:¬m≤a.Due:=by omega
    exact⟨acc,by simp[FH,this],by simp[Gs,this],h5,h6⟩
   | succ k ih=>
    intro n m acc h1 h2 h3 h4 h5 h6;obtain⟨q,rfl⟩:=sn (n:=n) (by omega);rw[FH,Gs];by_cases hd:m≤a.Due
    ·by_cases h8:(acc.length:X)<8
     ·have hw:kY .i64 (m+15)=m+15:=Ao (by omega) (by omega);obtain⟨l,b,c1,c2,c3⟩:=xZ ha hc hso hsn (by omega) V g1 g2 g3 g4 h3 (by omega);simp only[hd,h8,decide_true,if_true,c1,zB];cases b with
      | false=>
       obtain⟨o,o1⟩:=c2 rfl;simp only[o1,zB,zD,if_false,J7,Kt,hw];exact ih q _ acc (by omega) (by omega) (by omega) (by omega) h5 h6
      | true=>
       obtain⟨o,o1,o2,o3,_,o4,o5,_⟩:=c3 rfl;simp only[o1,o2,zB,if_true,J7,Kt,hw];rw[if_pos (AP (by omega) (by simp) (by omega)),if_pos (AP (by omega) (by simp) (by omega))]
       exact ih q _ _ (by omega) (by omega) (by omega) (by omega) (by simp; omega) fun x hx=>by
        rcases zV.1 hx with hx|hx
        ·exact h6 x hx
        ·rw[zS] at hx; subst hx; exact o3.optG hh hl o4 o5
     ·simp only[hd,h8,decide_true,decide_false,if_true,zD,if_false];exact⟨acc,zA,zA,h5,h6⟩
    ·simp only[hd,decide_false,zD,if_false];exact⟨acc,zA,zA,h5,h6⟩
  exact key 200 bigN a.Ready [] (by omega) (by rw[C5]; omega) (Int.le_refl _) (by omega) (by simp) fun o h=>by cases h
structure CallsGood (h:X5) (cs:Q Xb):Prop where
 ok:∀a∈cs,BE h a=E
 six:cs.length≤6
def Ep(l:Q X0):X:=(l.map X0.Cost).sum
def SI(l:Q X0):Prop:=∀o∈l,0≤o.Cost∧o.Cost≤2880
theorem A19{l:Q X0}(h:SI l):0≤Ep l∧Ep l≤2880*(l.length:X):=by
 induction l with
 | nil=>simp[Ep]
 | cons x l ih=>
  have:=h x (by simp);have:=ih fun o ho=>h o (by simp[ho])
  simp only[Ep,List.map_cons,List.sum_cons,kS] at *
  omega
theorem cU(l:Q X0)(o:X0):Ep (l++ [o])=Ep l+o.Cost:=by simp[Ep]
theorem mG{l:Q X0}(hl:l.length≤1000)(h:SI l):Mq l=O (Ep l):=by
 have key:∀(k i n:Z),i+k=l.length→k<n→HX l n (Ep (l.take i)) (i:X)=O (Ep l):=by
  intro k
  induction k with
  | zero=>
   intro i n hi hn;obtain⟨q,rfl⟩:=sn (n:=n) (by omega);have:i=l.length:=by omega
   subst this;rw[yF];simp[HX]
  | succ k ih=>
   intro i n hi hn;obtain⟨q,rfl⟩:=sn (n:=n) (by omega);have hlt:i<l.length:=by omega
   have b1:=A19 (l:=l.take i) fun o ho=>h o (List.mem_of_mem_take ho)
   have b2:=h _ (zF hlt);have b3:((l.take i).length:X)≤1000:=by simp only[List.length_take]; omega
   have e:=ih (i+1) q (by omega) (by omega);rw[zJ hlt,cU] at e
   rw[HX];simp only[Ag,hlt,decide_true,if_true,Ac hlt,zB,Am hlt (Af (by omega))];rw[Ao (by omega) (by omega)];exact e
 exact key l.length 0 bigN (by omega) (Bp (Af (by omega)))
structure Fnd where
 f:Y
 b:Q X
 w:Xk
def wl(a b:Xk):Y:=decide (a.i0<b.i0) || (decide (a.i0=b.i0)&&decide (a.i1<b.i1))
def LU(A:Fnd)(ch:Q X)(w:Xk):Fnd:=if(A.f&& !wl w A.w)=E then A else⟨E,ch,w⟩
def CN(h:X5)(pl:Q X0):Y:=(DH h pl).getD G
def Da(h:X5)(pl:Q X0)(o:X0):Y:= !(pl.any fun x=>Bz h.Chart h.Regime x.Passages o.Passages)
def Dm(F:X0→X→Fnd→Fnd):Q X0→Z→Fnd→Fnd
 | [],_,A=>A
 | o::l,n,A=>Dm F l (n+1) (F o (n:X) A)
def Br(h:X5)(wv:Q X0→Xk):Q (Q X0)→Q X0→Q X→Fnd→Fnd
 | [],pl,ch,A=>if CN h pl=E then LU A ch (wv pl) else A
 | l::ls,pl,ch,A=>Dm (fun o n A=>if Da h pl o=E then Br h wv ls (pl++ [o]) (ch++ [n]) A else A) l 0 A
theorem WW{F:X0→X→Fnd→Fnd}{A:Fnd}:∀{l:Q X0} {n:Z},(∀o∈l,∀n,F o n A=A)→Dm F l n A=A:=by
 intro l
 induction l with
 | nil=>intro n _; rfl
 | cons o l ih=>
  intro n H;rw[Dm,H o (yJ ..)];exact ih fun x hx=>H x (yH _ hx)
section
variable {h : X5} {cs : Q Xb} {os : Q (Q X0)}
def GoodC(h:X5)(pl:Q X0):Prop:=∀o∈pl,HG h o
theorem GoodC.pl{pl:Q X0}(H:GoodC h pl):E0 h pl:=fun o ho=>(H o ho).1
theorem GoodC.cost{pl:Q X0}(H:GoodC h pl):SI pl:=fun o ho=>(H o ho).2
theorem GoodC.snoc{pl:Q X0}{o:X0}(H:GoodC h pl)(ho:HG h o):GoodC h (pl++ [o]):=fun x hx=>by
 rcases zV.1 hx with hx|hx
 ·exact H x hx
 ·rw[zS] at hx; subst hx; exact ho
theorem Lu(s:HSmall h)(hh:AT h=E){pl:Q X0}(hl:pl.length≤12)(H:E0 h pl):DH h pl=O (CN h pl)∧(CN h pl=E↔FitP h pl):=by
 obtain⟨b,b1,b2⟩:=WU s hh hl H;have:CN h pl=b:=by unfold CN; rw[b1]; rfl
 rw[this];exact⟨b1,b2⟩
theorem mM(s:HSmall h)(hh:AT h=E){pl:Q X0}(hl:pl.length≤12)(H:E0 h pl):NX h.Crew h.Chart h.Fleet (BF pl)=O (CN h pl):=by
 obtain⟨b,b1,b2⟩:=A1b s hh hl H;have:b=CN h pl:=by rw[zR,b2,(Lu s hh hl H).2]
 rw[b1,this]
theorem A1k(s:HSmall h)(hh:AT h=E){wv:Q X0→Xk}:∀(ls:Q (Q X0)) (pl:Q X0) (ch:Q X) (A:Fnd),(∀l∈ls,GoodC h l)→GoodC h pl→pl.length+ls.length≤12→CN h pl=G→Br h wv ls pl ch A=A:=by
 intro ls
 induction ls with
 | nil=>intro pl ch A _ _ _ hf; rw[Br,if_neg (by rw[hf]; simp)]
 | cons l ls ih=>
  intro pl ch A hg hp hl hf;simp only[kS] at hl
  rw[Br];refine WW fun o ho n=> ?_
  have ho':=hg l (yJ ..) o ho;split
  ·refine ih _ _ _ (fun l hm=>hg l (yH _ hm)) (hp.snoc ho') (by simp; omega) ?_;cases e:CN h (pl++ [o]) with
   | false=>rfl
   | true=>
    have F:=(Lu s hh (by simp; omega) (hp.snoc ho').pl).2.1 e;have:=(Lu s hh (by omega) hp.pl).2.2 (FitP.app hh s (hp.snoc ho').pl (by omega) F);rw[hf] at this
    cases this
  ·rfl
theorem A6h{a b c:Xk}(h1:wl a b=G)(h2:wl b c=G):wl a c=G:=by
 simp only[wl,Bool.or_eq_false_iff,Bool.and_eq_false_iff,decide_eq_false_iff_not] at *
 omega
def Ez(h:X5)(os:Q (Q X0)):Q (Q (Q (Q Y))):=os.map fun a=>os.map fun b=>a.map fun o=>b.map fun p=>Bz h.Chart h.Regime o.Passages p.Passages
theorem lk(hh:AT h=E)(h6:os.length≤6)(h8:∀l∈os,l.length≤8)(hg:∀l∈os,GoodC h l):OA h os=O (Ez h os):=by
 obtain⟨_,hc,_,hr,_⟩:=FU hh;unfold OA;refine G6 (L:=Do os h) os (fun a=>os.map fun b=>a.map fun o=>b.map fun p=>Bz h.Chart h.Regime o.Passages p.Passages) O (Af (by omega)) (fun n i acc hi ha=> ?_) fun n acc _=>by rw[Do,if_neg (by simp)]
 rw[Do];simp only[Ag,hi,decide_true,if_true,Ac hi,zB];have g1:=h8 _ (zF hi);refine(G6 (L:=Ed os os[i] (i:X) h acc (Do os h n)) os (fun b=>os[i].map fun o=>b.map fun p=>Bz h.Chart h.Regime o.Passages p.Passages) (fun v=>if A3 acc.length [v].length 24=E then Do os h n (kY .i64 ((i:X)+1)) (acc++ [v]) else none) (Af (by omega)) (fun n2 j ac2 hj ha2=> ?_) fun n2 ac2 _=>by rw[Ed,if_neg (by simp)]).trans (by rw[if_pos (AP (by omega) (by simp) (by omega))]);rw[Ed];simp only[Ag,hj,decide_true,if_true,Ac hj,zB];have g2:=h8 _ (zF hj);refine(G6 (L:=FR os os[i] os[j] (i:X) (j:X) h acc ac2 (Ed os os[i] (i:X) h acc (Do os h n) n2)) os[i] (fun o=>os[j].map fun p=>Bz h.Chart h.Regime o.Passages p.Passages) (fun v=>if A3 ac2.length [v].length 24=E then Ed os os[i] (i:X) h acc (Do os h n) n2 (kY .i64 ((j:X)+1)) (ac2++ [v]) else none) (Af (by omega)) (fun n3 k ac3 hk ha3=> ?_) fun n3 ac3 _=>by rw[FR,if_neg (by simp)]).trans (by rw[if_pos (AP (by omega) (by simp) (by omega))]);rw[FR];simp only[Ag,hk,decide_true,if_true,Ac hk,zB];have o1:=(hg _ (zF hi) _ (zF hk)).1;refine(G6 (L:=Jq os os[i] os[j] (i:X) (j:X) (k:X) h os[i][k] acc ac2 ac3 (FR os os[i] os[j] (i:X) (j:X) h acc ac2 (Ed os os[i] (i:X) h acc (Do os h n) n2) n3)) os[j] (fun p=>Bz h.Chart h.Regime os[i][k].Passages p.Passages) (fun v=>if A3 ac3.length [v].length 24=E then FR os os[i] os[j] (i:X) (j:X) h acc ac2 (Ed os os[i] (i:X) h acc (Do os h n) n2) n3 (kY .i64 ((k:X)+1)) (ac3++ [v]) else none) (Af (by omega)) (fun n4 m ac4 hm ha4=> ?_) fun n4 ac4 _=>by rw[Jq,if_neg (by simp)]).trans (by rw[if_pos (AP (by omega) (by simp) (by omega))]);have o2:=(hg _ (zF hj) _ (zF hm)).1;rw[Jq];simp only[Ag,hm,decide_true,if_true,Ac hm,zB,(WI hc hr o1.1.inn o2.1.inn (Af (by omega)) (Af (by omega))).1];rw[if_pos (AP (by omega) (by simp) (by omega))]
def Chos(os:Q (Q X0))(pl:Q X0)(ch:Q X):Prop:=pl.length=ch.length∧∀i (h:i<pl.length),∃(l:Q X0) (c:Z),os[i]?=O l∧ch[i]?=O (c:X)∧l[c]?=O pl[i]
theorem Chos.snoc{pl:Q X0}{ch:Q X}(H:Chos os pl ch){l:Q X0}(hl:os[pl.length]?=O l){i:Z}(hi:i<l.length):Chos os (pl++ [l[i]]) (ch++ [(i:X)]):=by
 obtain⟨h1,h2⟩:=H;refine⟨by simp; omega,fun j hj=> ?_⟩;simp only[zO,zY] at hj
 by_cases h:j<pl.length
 ·obtain⟨l',c,c1,c2,c3⟩:=h2 j h;exact⟨l',c,c1,by rw[zH (by omega)]; exact c2,by rw[zM h]; exact c3⟩
 ·obtain rfl:j=pl.length:=by omega
  exact⟨l,i,hl,by rw[h1,zT (by omega)]; simp,by rw[yI (by omega),zC hi]; simp⟩
theorem ZZ(a b:Xk):Nb a b=O (wl a b):=by
 unfold Nb wl;by_cases h1:a.i0<b.i0
 ·simp[h1]
 ·by_cases h2:a.i0=b.i0
  ·simp[h2]
  ·simp[h1,h2]
theorem aZ{pl:Q X0}{o:X0}:Da h pl o=E↔SO h pl o:=by
 simp only[Da,SO,Bool.not_eq_true',List.any_eq_false];exact⟨fun H x hx=>by simpa using H x hx,fun H x hx=>by simpa using H x hx⟩
end
theorem om{F:X0→X→Fnd→Fnd}(p:Fnd→Prop)(H:∀o n A,p A→p (F o n A)):∀(l:Q X0) (n:Z) (A:Fnd),p A→p (Dm F l n A):=by
 intro l
 induction l with
 | nil=>intro n A h; exact h
 | cons o l ih=>intro n A h; exact ih _ _ (H _ _ _ h)
theorem lU{m n:Z}(h:m+n≤140737488355328):Fb m n=E:=by
 unfold Fb;rw[decide_eq_true_eq];omega
theorem ifc{α:Type}{m n:Z}(h:m+n≤140737488355328)(x y:α):(if Fb m n=E then x else y)=x:=by rw[if_pos (lU h)]
end Go.Vi
