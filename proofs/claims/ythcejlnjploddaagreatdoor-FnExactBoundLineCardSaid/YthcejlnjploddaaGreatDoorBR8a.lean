/-
Plain laws. No condition.
-/
import Derived.Test.YthcejlnjploddaaGreatDoorBNf
import Derived.Test.YthcejlnjploddaaGreatDoorBVi33
import Derived.KernelRfl
import Derived.Test.YthcejlnjploddaaGreatDoorBLa
namespace Go.Vi
open Go.Lib
set_option linter.all false
open Option renaming bind_some → zB, some → O
open List renaming getElem?_eq_getElem → zC, getElem_mem → zF, getElem?_append_left → zH, replicate → zI, take_succ_eq_append_getElem → zJ, range → zL, getElem_append_left → zM, getElem_of_mem → zN, length_append → zO, mem_singleton → zS, getElem?_append_right → zT, length_pos_iff → zU, mem_append → zV, drop_eq_getElem_cons → zW, getLast?_eq_getElem? → zX, length_singleton → zY, all_eq_true → yB, getElem?_set_ne → yE, take_length → yF, getElem?_set_self → yG, mem_cons_of_mem → yH, getElem_append_right → yI, mem_cons_self → yJ, range' → yK, append_assoc → yL, drop_zero → yX, getElem?_cons_zero → yY, getElem?_map → kA, head?_eq_getElem? → kC, map → kD, getElem_set_self → kE, foldr_cons → kF, nil_append → kG, take_append_of_le_length → kH, flatten_append → kI, mem_range → kJ, getElem?_eq_some_iff → kL, getLast?_eq_none_iff → kM, range'_succ → kN, any_eq_true → kP, getElem_map → kQ, mem_map → kR, length_cons → kS, map_append → kV
open Bool renaming false_eq_true → zD, and_eq_true → zE, true_and → zQ, eq_iff_iff → zR, or_eq_true → kU, not_true → kX, true → E, false → G
open Option.some renaming injEq → zG, inj → kW
open Nat renaming zero_le → zK, mod_two_eq_zero_or_one → yA, lt_or_ge → yC, lt_trans → yD, testBit_or → yM, testBit_two_pow_sub_one → yN, pow_le_pow_right → yO, eq_of_testBit_eq → yP, pow_lt_pow_right → yQ, testBit_and → yS, lt_of_lt_of_le → yT, lt_of_le_of_lt → yV, mul_le_mul → yW, or_lt_two_pow → yZ, le_refl → kB, pow_pos → kK, sub_zero → kO, and_div_two → kT
open Int renaming toNat_natCast → zP, tdiv → zZ, tmod_eq_emod_of_nonneg → yR, tmod → yU
open IntKind renaming wrap → kY
open _root_ renaming List → Q, Option → U, Int → X, Bool → Y, Nat → Z, UInt8 → I, rfl → zA
def AD(a b:Z):Z:=a ^^^ (a &&& b)
theorem ET(a b i:Z):(AD a b).testBit i=(a.testBit i&& !b.testBit i):=by
 simp only[AD,Nat.testBit_xor,yS];cases a.testBit i<;>cases b.testBit i<;>rfl
theorem Jq(n i:Z):(2 ^ n).testBit i=decide (n=i):=Nat.testBit_two_pow
theorem H8{s n i:Z}(h:s<2 ^ n)(hi:s.testBit i=E):i<n:=by
 rcases yC i n with h1|h1
 ·exact h1
 ·have:s<2 ^ i:=yT h (yO (by omega) h1);rw[Nat.testBit_lt_two_pow this] at hi
  cases hi
theorem ze{s i:Z}(hi:s.testBit i=E):i<s:=H8 Nat.lt_two_pow_self hi
theorem Z4(p:Z→Y):∀k:Z,∃q:Z,∀i,q.testBit i=(decide (i<k)&&p i)
 | 0=>⟨0,fun i=>by simp⟩
 | k+1=>by
  obtain⟨q,hq⟩:=Z4 p k;refine⟨q ||| (if p k then 2 ^ k else 0),fun i=> ?_⟩;rw[yM,hq];by_cases hp:p k=E
  ·rw[if_pos hp,Jq];by_cases h:k=i
   ·subst h; simp[hp]
   ·have:decide (i<k+1)=decide (i<k):=by simp; omega
    simp[h,this]
  ·rw[if_neg hp,Nat.zero_testBit];by_cases h:k=i
   ·subst h; simp[hp]
   ·have:decide (i<k+1)=decide (i<k):=by simp; omega
    simp[this]
theorem yh{q r:Z}(h:q &&& r=q){i:Z}(hi:q.testBit i=E):r.testBit i=E:=by
 have:=congrArg (fun x=>x.testBit i) h;simp only[yS,hi,zQ] at this
 exact this
theorem Tw{q r:Z}(h:∀i,q.testBit i=E→r.testBit i=E):q &&& r=q:=by
 apply yP
 intro i;rw[yS];cases hq:q.testBit i with
 | false=>rfl
 | true=>rw[h i hq]; rfl
theorem uv:∀(n r p q:Z),r≤n→p &&& r=p→q &&& r=q→q<p→q≤(p - 1) &&& r:=by
 intro n
 induction n with
 | zero=>
  intro r p q hr hp hq hlt;have:r=0:=by omega
  subst this;rw[Nat.and_zero] at hp hq
  omega
 | succ n ih=>
  intro r p q hr hp hq hlt;by_cases h0:r=0
  ·subst h0;rw[Nat.and_zero] at hp hq
   omega
  have hp2:(p / 2) &&& (r / 2)=p / 2:=by rw[← kT,hp]
  have hq2:(q / 2) &&& (r / 2)=q / 2:=by rw[← kT,hq]
  have e2:∀a b:Z,(a &&& b) % 2=(a % 2)*(b % 2):=fun a b=>by
   have h:=yS a b 0;simp only[Nat.testBit_zero] at h;rcases yA a with ha|ha<;>rcases yA b with hb|hb<;>rcases yA (a &&& b) with hc|hc<;>simp_all
  have hpm:=e2 p r;have hqm:=e2 q r;rw[hp] at hpm
  rw[hq] at hqm
  have hd:((p - 1) &&& r) / 2=((p - 1) / 2) &&& (r / 2):=kT;have hm:=e2 (p - 1) r;rcases yA p with h1|h1
  ·-- an even one
   have i1:=ih (r / 2) (p / 2) (q / 2) (by omega) hp2 hq2 (by omega);have e3:(p - 1) / 2=p / 2 - 1:=by omega
   rw[e3] at hd
   have e4:(p - 1) % 2=1:=by omega
   rw[e4,Nat.one_mul] at hm
   have hqr:q % 2≤r % 2:=by
    rcases yA q with h2|h2
    ·omega
    ·rw[h2,Nat.one_mul] at hqm; omega
   omega
  ·have e3:(p - 1) / 2=p / 2:=by omega
   rw[e3,hp2] at hd
   omega
theorem gk{p r:Z}(h:0<p):(p - 1) &&& r<p:=by
 have:= @Nat.and_le_left (p - 1) r;omega
theorem gl(p r:Z):(p &&& r) &&& r=p &&& r:=by rw[Nat.and_assoc,Nat.and_self]
def Eg(B:Z→Z→Y)(S m:Z):Prop:=∃f:Z→Z,(∀i,S.testBit i=E→f i<m)∧∀i j,S.testBit i=E→S.testBit j=E→i≠j→f i=f j→B i j=E
def EZ(B:Z→Z→Y)(S:Z):Prop:=∀i j,S.testBit i=E→S.testBit j=E→i≠j→B i j=E
def Cc(B:Z→Z→Y)(S n:Z):Prop:=Eg B S n∧∀m,Eg B S m→n≤m
theorem PH{B:Z→Z→Y}{S n:Z}(h:S<2 ^ n):Eg B S n:=⟨id,fun i hi=>H8 h hi,fun i j _ _ hne e=>absurd e hne⟩
theorem Tl{B:Z→Z→Y}:Cc B 0 0:=⟨⟨id,fun i hi=>by simp at hi,fun i j hi=>by simp at hi⟩,fun m _=>zK m⟩
theorem jp{B:Z→Z→Y}{S t rest q n:Z}(hS:∀i,S.testBit i=E→i=t∨rest.testBit i=E)(hq:EZ B (q ||| 2 ^ t))(h:Eg B (AD rest q) n):Eg B S (1+n):=by
 obtain⟨f,f1,f2⟩:=h
 have key:∀i,S.testBit i=E→(i=t∨q.testBit i=E)∨(AD rest q).testBit i=E:=fun i hi=>by
  rcases hS i hi with h|h
  ·exact .inl (.inl h)
  ·cases hb:q.testBit i with
   | true=>exact .inl (.inr rfl)
   | false=>right; rw[ET,h,hb]; rfl
 have hin:∀i,(i=t∨q.testBit i=E)→(q ||| 2 ^ t).testBit i=E:=fun i hi=>by
  rw[yM,Jq];rcases hi with h|h
  ·simp[h]
  ·simp[h]
 refine⟨fun i=>if i=t∨q.testBit i=E then n else f i,fun i hi=> ?_,fun i j hi hj hne e=> ?_⟩
 ·by_cases hx:i=t∨q.testBit i=E
  ·simp only[hx,if_true]; omega
  ·simp only[hx,if_false];rcases key i hi with h|h
   ·exact absurd h hx
   ·have:=f1 i h; omega
 ·by_cases hx:i=t∨q.testBit i=E
  ·by_cases hy:j=t∨q.testBit j=E
   ·exact hq i j (hin i hx) (hin j hy) hne
   ·simp only[hx,hy,if_true,if_false] at e
    have:=f1 j ((key j hj).resolve_left hy);omega
  ·by_cases hy:j=t∨q.testBit j=E
   ·simp only[hx,hy,if_true,if_false] at e
    have:=f1 i ((key i hi).resolve_left hx);omega
   ·simp only[hx,hy,if_false] at e
    exact f2 i j ((key i hi).resolve_left hx) ((key j hj).resolve_left hy) hne e
theorem jq{B:Z→Z→Y}{S t rest m:Z}(hS:S.testBit t=E)(hr:∀i,rest.testBit i=E→S.testBit i=E)(h:Eg B S m):∃q n,q &&& rest=q∧EZ B (q ||| 2 ^ t)∧n+1=m∧Eg B (AD rest q) n:=by
 obtain⟨f,f1,f2⟩:=h;obtain⟨q,hq⟩:=Z4 (fun i=>rest.testBit i&&decide (f i=f t)) rest
 have hq2:∀i,q.testBit i=E↔rest.testBit i=E∧f i=f t:=fun i=>by
  rw[hq i];constructor
  ·intro h;simp only[zE,decide_eq_true_eq] at h;exact h.2
  ·intro⟨h1,h2⟩;simp only[zE,decide_eq_true_eq];exact⟨ze h1,h1,h2⟩
 have hm:=f1 t hS;refine⟨q,m - 1,Tw fun i hi=>((hq2 i).1 hi).1,fun i j hi hj hne=> ?_,by omega,fun i=>if f i=m - 1 then f t else f i,fun i hi=> ?_,fun i j hi hj hne e=> ?_⟩
 ·have side:∀i,(q ||| 2 ^ t).testBit i=E→S.testBit i=E∧f i=f t:=fun i hi=>by
   rw[yM,Jq,kU,decide_eq_true_eq] at hi
   rcases hi with h|h
   ·exact⟨hr i ((hq2 i).1 h).1,((hq2 i).1 h).2⟩
   ·subst h; exact⟨hS,rfl⟩
  obtain⟨i1,i2⟩:=side i hi;obtain⟨j1,j2⟩:=side j hj;exact f2 i j i1 j1 hne (i2.trans j2.symm)
 ·rw[ET,zE] at hi
  have hne:f i≠f t:=fun e=>by
   have:=(hq2 i).2 ⟨hi.1,e⟩;rw[this] at hi
   simp at hi
  have:=f1 i (hr i hi.1);show(if f i=m - 1 then f t else f i)<m - 1
  split<;>omega
 ·rw[ET,zE] at hi hj
  have hni:f i≠f t:=fun e=>by
   have:=(hq2 i).2 ⟨hi.1,e⟩;rw[this] at hi
   simp at hi
  have hnj:f j≠f t:=fun e=>by
   have:=(hq2 j).2 ⟨hj.1,e⟩;rw[this] at hj
   simp at hj
  have e2:f i=f j:=by
   have e:(if f i=m - 1 then f t else f i)=(if f j=m - 1 then f t else f j):=e;split at e<;>split at e<;>omega
  exact f2 i j (hr i hi.1) (hr j hj.1) hne e2
def CS(B:Z→Z→Y)(N m:Z)(w:Q Z):Prop:=∃f:Z→Z,(∀(j:Z) (h:j<w.length),f j=w[j])∧(∀j,j<N→f j<m)∧∀i j,i<N→j<N→i≠j→f i=f j→B i j=E
def JB(B:Z→Z→Y)(w:Q Z)(c:Z):Prop:=∀(k:Z) (h:k<w.length),w[k]=c→B w.length k=E
theorem nh{B:Z→Z→Y}{N m:Z}{w:Q Z}{c:Z}(h:CS B N m (w++ [c])):CS B N m w:=by
 obtain⟨f,f1,f2⟩:=h;exact⟨f,fun j hj=>by rw[f1 j (by simp; omega),zM hj],f2⟩
theorem nj{B:Z→Z→Y}{N m u:Z}{w:Q Z}(hw:w.length<N)(hu:∀x∈w,x<u)(h:CS B N m w):∃c,c≤u∧c<m∧JB B w c∧CS B N m (w++ [c]):=by
 obtain⟨f,f1,f2,f3⟩:=h
 have done:∀f:Z→Z,(∀(j:Z) (h:j<w.length),f j=w[j])→(∀j,j<N→f j<m)→(∀i j,i<N→j<N→i≠j→f i=f j→B i j=E)→f w.length≤u→∃c,c≤u∧c<m∧JB B w c∧CS B N m (w++ [c]):=by
  intro f f1 f2 f3 hle;refine⟨f w.length,hle,f2 _ hw,fun k hk e=>f3 _ _ hw (by omega) (by omega) ((e.symm.trans (f1 k hk).symm)),f,fun j hj=> ?_,f2,f3⟩;rcases yC j w.length with h|h
  ·rw[zM h]; exact f1 j h
  ·have:j=w.length:=by simp at hj; omega
   subst this;simp
 by_cases hc:f w.length≤u
 ·exact done f f1 f2 f3 hc
 ·have hm:=f2 _ hw;refine done (fun x=>if f x=f w.length then u else if f x=u then f w.length else f x) (fun j hj=> ?_) (fun j hj=> ?_) (fun i j hi hj hne e=>f3 i j hi hj hne ?_) (by simp)
  ·have e1:=f1 j hj;have e2:=hu _ (zF hj);show(if f j=f w.length then u else if f j=u then f w.length else f j)=w[j]
   rw[if_neg (by omega),if_neg (by omega),e1]
  ·have:=f2 j hj;show(if f j=f w.length then u else if f j=u then f w.length else f j)<m
   split
   ·omega
   ·split<;>omega
  ·have e:(if f i=f w.length then u else if f i=u then f w.length else f i)=(if f j=f w.length then u else if f j=u then f w.length else f j):=e;split at e<;>split at e<;>(try split at e)<;>(try split at e)<;>omega
theorem ni{B:Z→Z→Y}{N m:Z}{w:Q Z}(hl:w.length=N)(hm:∀x∈w,x<m)(hB:∀i j,B i j=B j i)(hv:∀(i k:Z) (hi:i<w.length) (hk:k<i),w[i]=w[k]→B i k=E):CS B N m w:=by
 subst hl;have e:∀(j:Z) (h:j<w.length),w[j]?.getD 0=w[j]:=fun j h=>by rw[zC h]; rfl
 refine⟨fun j=>w[j]?.getD 0,fun j hj=>e j hj,fun j hj=> ?_,fun i j hi hj hne h=> ?_⟩
 ·show w[j]?.getD 0<m
  rw[e j hj]; exact hm _ (zF hj)
 ·have h:w[i]?.getD 0=w[j]?.getD 0:=h;rw[e i hi,e j hj] at h;rcases yC j i with hlt|hge
  ·exact hv i j hi hlt h
  ·rw[hB]; exact hv j i hj (by omega) h.symm
theorem W4{B:Z→Z→Y}{N m:Z}:Eg B (2 ^ N - 1) m↔CS B N m []:=by
 have ht:∀i,(2 ^ N - 1).testBit i=decide (i<N):=fun i=>yN N i
 constructor
 ·rintro⟨f,f1,f2⟩
  exact⟨f,fun j h=>by simp at h,fun j hj=>f1 j (by rw[ht]; simpa using hj),fun i j hi hj hne e=>f2 i j (by rw[ht]; simpa using hi) (by rw[ht]; simpa using hj) hne e⟩
 ·rintro⟨f,_,f1,f2⟩
  exact⟨f,fun j hj=>f1 j (by rw[ht] at hj; simpa using hj),fun i j hi hj hne e=>f2 i j (by rw[ht] at hi; simpa using hi) (by rw[ht] at hj; simpa using hj) hne e⟩
theorem Bw(n lo hi:X):Aw n lo hi=O (decide (lo≤n)&&decide (n≤hi)):=by
 unfold Aw;by_cases h:lo≤n<;>simp[h]
theorem Dm(n lo hi:X):BN n lo hi=O (decide (lo≤n)&&decide (n≤hi)):=by
 unfold BN;by_cases h:lo≤n<;>simp[h]
theorem E9{n bytes:Z}(h:n≤1048576)(hb:bytes≤1000):BI (n:X) (n:X) bytes=O n:=by
 unfold BI
 have:(n:X)*(bytes:X)≤140737488355328:=by
  have:n*bytes≤1048576*1000:=yW h hb;have e:((n*bytes:Z):X)=(n:X)*(bytes:X):=by simp
  omega
 rw[if_pos ⟨by omega,by omega,this,by omega⟩];simp
theorem J8{n:Z}(h:n≤1048576):n≤maxLen:=by rw[Az]; omega
theorem zp{xs:Q X}(h:xs.length≤1048576):N9 xs=O xs:=by
 unfold N9;rw[E9 h (by omega)];have:=Hr (L:=Ig xs) xs id (J8 h) (fun n i acc hi ha=>by simp[Ig,Al,hi,ha]) (fun n acc=>by simp[Ig]) (zI xs.length 0) (by simp);simpa using this
theorem nN{xs ys:Q X}(h:xs.length≤maxLen):MK xs ys=O (decide (xs=ys)):=by
 unfold MK;by_cases hl:xs.length=ys.length
 ·have:=JR (L:=I6 xs ys) xs ys h hl (fun n i h1 h2=>by simp[I6,Al,h1,h2]) (fun n=>by simp[I6]);simp[hl,this]
 ·have:¬(xs.length:X)=ys.length:=by omega
  have:xs≠ys:=fun e=>hl (by rw[e])
  simp_all
theorem GV{α:Type}{row:α→Q D}{xs:Q α}(h:(D.sl (kD row xs)).Ok):xs.length≤maxLen:=by simpa using h.sl.1
theorem GT(n:X):CU n=O (decide (0≤n)&&decide (n≤2880)):=by simp[CU,Dm]
theorem Wu{len:Z}(p:Z→Y)(K:U Y):∀(k i:Z),(yK i k).foldr (fun i r=>if p i=E then r else O G) K=if(yK i k).all p=E then K else O G
 | 0,i=>by simp
 | k+1,i=>by
  rw[kN,kF,Wu (len:=len) p K k (i+1),List.all_cons];cases p i<;>rfl
theorem Wv{len:Z}(p:Z→Y)(K:U Y):∀(k i:Z),(yK i k).foldr (fun i r=>if p i=E then O G else r) K=if(yK i k).any p=E then O G else K
 | 0,i=>by simp
 | k+1,i=>by
  rw[kN,kF,Wv (len:=len) p K k (i+1),List.any_cons];cases p i<;>rfl
theorem G2{L:Z→X→U Y}(len:Z)(p:Z→Y)(K:U Y)(hl:len≤maxLen)
  (hs:∀(n i:Z),i<len→L (n+1) (i:X)=if p i=E then L n (kY .i64 ((i:X)+1)) else O G) (he:∀n,L (n+1) (len:X)=K):L bigN 0=if(zL len).all p=E then K else O G:=by
 have:=Jh L len hl (fun i r=>if p i=E then r else O G) K hs he len 0 bigN (by omega) (BU hl);rw[Wu (len:=len),← List.range_eq_range'] at this
 exact this
theorem Vs{L:Z→X→U Y}(len:Z)(p:Z→Y)(K:U Y)(hl:len≤maxLen)
  (hs:∀(n i:Z),i<len→L (n+1) (i:X)=if p i=E then O G else L n (kY .i64 ((i:X)+1))) (he:∀n,L (n+1) (len:X)=K):L bigN 0=if(zL len).any p=E then O G else K:=by
 have:=Jh L len hl (fun i r=>if p i=E then O G else r) K hs he len 0 bigN (by omega) (BU hl);rw[Wv (len:=len),← List.range_eq_range'] at this
 exact this
def Jd(s:Q I)(i:Z):Y:=match s[i]? with
 | some b=>(decide (97≤(b.toNat:X))&&decide ((b.toNat:X)≤122)) || (!(decide (i=0))&&(decide (48≤(b.toNat:X))&&decide ((b.toNat:X)≤57)))
 | none=>G
def OO(s:Q I):Y:=decide (1≤(s.length:X))&&decide ((s.length:X)≤8)
def EF(s:Q I):Y:=OO s&&(zL s.length).all (Jd s)
theorem Zi(c:X)(K:U Y)(z':Y)(z:X)(i:Z)(hz:z=(i:X)) :
  (if decide (97≤c)=E then(if decide (c≤122)=E then K else if(z==0)=E then O G else if decide (c<48)=E then O G else if decide (57<c)=E then O G else K)
   else if G=E then K else if(z==0)=E then O G else if decide (c<48)=E then O G else if decide (57<c)=E then O G else K) =
  if((decide (97≤c)&&decide (c≤122)) || (!(decide (i=0))&&(decide (48≤c)&&decide (c≤57))))=E then K else O G:=by
 subst hz;have e0:(((i:Z):X)==0)=decide (i=0):=by rw[zR]; simp
 have e1:decide (c<48)= !decide (48≤c):=by rw[zR]; simp
 have e2:decide (57<c)= !decide (c≤57):=by rw[zR]; simp
 rw[e0,e1,e2];cases decide (i=0)<;>cases decide (97≤c)<;>cases decide (c≤122)<;>cases decide (48≤c)<;>cases decide (c≤57)<;>rfl
theorem aE{s:Q I}(h:s.length≤maxLen):KD s=O (EF s):=by
 unfold KD;rw[G2 (L:=Gx s) s.length (Jd s) (O (OO s)) h (fun n i hi=> ?_) (fun n=>by simp[Gx,Bw,OO])]
 ·unfold EF;cases(zL s.length).all (Jd s)<;>simp
 ·simp only[Gx,Ns,Nt,Al,Jd,zC hi,zB,Ai,hi,decide_true,if_true];exact Zi _ _ E (i:X) i zA
theorem Yp{s:Q I}(h:s.length≤maxLen):JY s=O (EF s):=by
 unfold JY;rw[Dm];rw[G2 (L:=Gd s) s.length (Jd s) (O E) h (fun n i hi=> ?_) (fun n=>by simp[Gd])]
 ·unfold EF OO;simp only[zB];cases(zL s.length).all (Jd s)<;>cases(decide (1≤(s.length:X))&&decide ((s.length:X)≤8))<;>simp
 ·simp only[Gd,M4,M5,Al,Jd,zC hi,zB,Ai,hi,decide_true,if_true];exact Zi _ _ E (i:X) i zA
theorem O2{R:Type}(p:Z→Y)(f:Z→R)(z:R):∀(k i:Z),(yK i k).foldr (fun i r=>if p i=E then O (f i) else r) (O z)=O ((yK i k).foldr (fun i r=>if p i=E then f i else r) z)
 | 0,i=>by simp
 | k+1,i=>by
  rw[kN,kF,O2 p f z k (i+1),kF];cases p i<;>simp
def P0(xs:Q X7)(s:Q I)(i:Z):Y:=match xs[i]? with
 | some x=>decide (x.Name=s)
 | none=>G
def P1(xs:Q X7)(s:Q I):X:=(yK 0 xs.length).foldr (fun i r=>if P0 xs s i=E then(i:X) else r) (-1)
theorem xU{c:X1}{s:Q I}(h:c.Points.length≤maxLen):NC c s=O (P1 c.Points s):=by
 unfold NC;exact(Jh (ID s c) c.Points.length h (fun i r=>if P0 c.Points s i=E then O (i:X) else r) (O (-1)) (fun n i hi=>by simp[ID,Al,hi,P0]) (fun n=>by simp[ID]) c.Points.length 0 bigN (by omega) (BU h)).trans (O2 _ _ _ _ _)
theorem rv{c:X1}{s:Q I}(h:c.Points.length≤maxLen):Mf c s=O (P1 c.Points s):=by
 unfold Mf;exact(Jh (HK s c) c.Points.length h (fun i r=>if P0 c.Points s i=E then O (i:X) else r) (O (-1)) (fun n i hi=>by simp[HK,Al,hi,P0]) (fun n=>by simp[HK]) c.Points.length 0 bigN (by omega) (BU h)).trans (O2 _ _ _ _ _)
def jn(y:X2)(a b:X):Y:=(decide (y.A=a)&&decide (y.B=b)) || (decide (y.A=b)&&decide (y.B=a))
theorem xb(y:X2)(a b:X):NN y a b=O (jn y a b):=by
 unfold NN jn;by_cases h1:y.A=a<;>by_cases h2:y.B=b<;>by_cases h3:y.A=b<;>by_cases h4:y.B=a<;>simp_all
theorem sD(y:X2)(a b:X):Mh y a b=O (jn y a b):=by
 unfold Mh jn;by_cases h1:y.A=a<;>by_cases h2:y.B=b<;>by_cases h3:y.A=b<;>by_cases h4:y.B=a<;>simp_all
theorem ym{xs:Q X}{l:X}(h0:0≤l)(h1:l≤1048576)(hx:xs.length≤maxLen):∃r,MZ xs l=O r∧(0≤r→r≤l∧xs.length≤1048576):=by
 unfold MZ;rw[Az] at hx
 rw[Ak (by omega) (by omega)];by_cases h:l - (xs.length:X)<0
 ·exact⟨-1,by simp[h],by omega⟩
 ·exact⟨l - xs.length,by simp[h],by omega⟩
theorem J1(i n:X):Bt i n=O (decide (0≤i)&&decide (i<n)):=by
 unfold Bt;by_cases h:0≤i<;>simp[h]
def idx(i:X)(n:Z):Y:=decide (0≤i)&&decide (i<(n:X))
theorem Yw(i:X){n:Z}(h:n≤1000):(decide (0≤i)&&decide (i≤kY .i64 ((n:X) - 1)))=idx i n:=by
 rw[Ak (by omega) (by omega)];unfold idx;congr 1
 rw[zR];simp;omega
def DG(c:X1)(i:Z):Y:=match c.Segments[i]? with
 | some x=>idx x.A c.Points.length&&(idx x.B c.Points.length&&(!(decide (x.A=x.B))&&((decide (0≤x.Depth)&&decide (x.Depth≤3000))&&((decide (1≤x.Minutes)&&decide (x.Minutes≤240))&& !((zL i).any fun j=>match c.Segments[j]? with | some y=>jn y x.A x.B | none=>G)))))
 | none=>G
def H3(c:X1)(i:Z):Y:=match c.Points[i]? with
 | some x=>EF x.Name&&decide (P1 c.Points x.Name=(i:X))
 | none=>G
def AJ(c:X1):Y:=decide (c.Points.length≤8)&&(decide (c.Segments.length≤10)&&((zL c.Points.length).all (H3 c)&&(zL c.Segments.length).all (DG c)))
theorem F6{n i:Z}(h:i≤n):bnd (n:X) (i:X) (0:X) n=O (0,i):=by
 unfold bnd;rw[if_pos ⟨by omega,by omega,by omega,by omega⟩];simp
theorem bC{α:Type}{l:Q α}{i j:Z}(hj:j<i):(l.take i)[j]?=l[j]?:=by simp[List.getElem?_take,hj]
theorem DH{c:X1}(hn:∀x∈c.Points,x.Name.length≤maxLen):D6 c=O (AJ c):=by
 unfold D6 AJ;by_cases h1:c.Points.length≤8
 ·have h1':¬(8:X)<c.Points.length:=by omega
  by_cases h2:c.Segments.length≤10
  ·have h2':¬(10:X)<c.Segments.length:=by omega
   have hp:c.Points.length≤maxLen:=by rw[Az]; omega
   have hs:c.Segments.length≤maxLen:=by rw[Az]; omega
   have inner:Eu c bigN 0=O ((zL c.Segments.length).all (DG c)):=by
    rw[G2 (L:=Eu c) c.Segments.length (DG c) (O E) hs (fun n i hi=> ?_) (fun n=>by simp[Eu])]
    ·cases(zL c.Segments.length).all (DG c)<;>rfl
    ·simp only[Eu,Al,zC hi,zB,Ai,hi,decide_true,if_true,Bw,Yw _ (show c.Points.length≤1000 by omega),F6 (Nat.le_of_lt hi),DG,yX,kO];have hl:(c.Segments.take i).length=i:=by simp; omega
     rw[hl]
     rw[Vs (L:=Ip c i c.Segments[i] (c.Segments.take i) (i:X) (Eu c n)) i (fun j=>match c.Segments[j]? with | some y=>jn y c.Segments[i].A c.Segments[i].B | none=>G)
      (Eu c n (kY .i64 ((i:X)+1))) (by omega) (fun m j hj=>by
       have hj2:j<c.Segments.length:=by omega
       simp only[Ip,Al,bC hj,zC hj2,zB,Ai,hj,decide_true,if_true,xb]) (fun m=>by simp[Ip])]
     have e:(c.Segments[i].A==c.Segments[i].B)=decide (c.Segments[i].A=c.Segments[i].B):=rfl;rw[e]
     cases idx c.Segments[i].A c.Points.length<;>cases idx c.Segments[i].B c.Points.length<;>cases decide (c.Segments[i].A=c.Segments[i].B)<;>cases(decide (0≤c.Segments[i].Depth)&&decide (c.Segments[i].Depth≤3000)) <;>
      cases(decide (1≤c.Segments[i].Minutes)&&decide (c.Segments[i].Minutes≤240))<;>cases((zL i).any fun j=>match c.Segments[j]? with | some y=>jn y c.Segments[i].A c.Segments[i].B | none=>G)<;>rfl
   rw[G2 (L:=Io c) c.Points.length (H3 c) _ hp (fun n i hi=> ?_) (fun n=>by simp only[Io,Int.lt_irrefl,decide_false,zD,if_false]; exact inner)]
   ·simp only[h1,h2,h1',h2',decide_true,decide_false,zQ,zD,if_false];cases(zL c.Points.length).all (H3 c)<;>rfl
   ·simp only[Io,Al,zC hi,zB,Ai,hi,decide_true,if_true,aE (hn _ (zF hi)),xU hp,H3];by_cases e:P1 c.Points c.Points[i].Name=(i:X)<;>cases EF c.Points[i].Name<;>simp[e]
  ·have h2':(10:X)<c.Segments.length:=by omega
   simp[h1,h1',h2,h2']
 ·have h1':(8:X)<c.Points.length:=by omega
  simp[h1,h1']
theorem FF{c:X1}(hn:∀x∈c.Points,x.Name.length≤maxLen):Ds c=O (AJ c):=by
 unfold Ds AJ;by_cases h1:c.Points.length≤8
 ·have h1':¬(8:X)<c.Points.length:=by omega
  by_cases h2:c.Segments.length≤10
  ·have h2':¬(10:X)<c.Segments.length:=by omega
   have hp:c.Points.length≤maxLen:=by rw[Az]; omega
   have hs:c.Segments.length≤maxLen:=by rw[Az]; omega
   have inner:Em c bigN 0=O ((zL c.Segments.length).all (DG c)):=by
    rw[G2 (L:=Em c) c.Segments.length (DG c) (O E) hs (fun n i hi=> ?_) (fun n=>by simp[Em])]
    ·cases(zL c.Segments.length).all (DG c)<;>rfl
    ·simp only[Em,Al,zC hi,zB,Ai,hi,decide_true,if_true,Dm,J1,show ∀(a:X) (n:Z),(decide (0≤a)&&decide (a<(n:X)))=idx a n from fun _ _=>rfl,F6 (Nat.le_of_lt hi),DG,yX,kO];have hl:(c.Segments.take i).length=i:=by simp; omega
     rw[hl]
     rw[Vs (L:=Hv c i c.Segments[i] (c.Segments.take i) (i:X) (Em c n)) i (fun j=>match c.Segments[j]? with | some y=>jn y c.Segments[i].A c.Segments[i].B | none=>G)
      (Em c n (kY .i64 ((i:X)+1))) (by omega) (fun m j hj=>by
       have hj2:j<c.Segments.length:=by omega
       simp only[Hv,Al,bC hj,zC hj2,zB,Ai,hj,decide_true,if_true,sD]) (fun m=>by simp[Hv])]
     have e:(c.Segments[i].A==c.Segments[i].B)=decide (c.Segments[i].A=c.Segments[i].B):=rfl;rw[e]
     cases idx c.Segments[i].A c.Points.length<;>cases idx c.Segments[i].B c.Points.length<;>cases decide (c.Segments[i].A=c.Segments[i].B)<;>cases(decide (0≤c.Segments[i].Depth)&&decide (c.Segments[i].Depth≤3000)) <;>
      cases(decide (1≤c.Segments[i].Minutes)&&decide (c.Segments[i].Minutes≤240))<;>cases((zL i).any fun j=>match c.Segments[j]? with | some y=>jn y c.Segments[i].A c.Segments[i].B | none=>G)<;>rfl
   rw[G2 (L:=Hu c) c.Points.length (H3 c) _ hp (fun n i hi=> ?_) (fun n=>by simp only[Hu,Int.lt_irrefl,decide_false,zD,if_false]; exact inner)]
   ·simp only[h1,h2,h1',h2',decide_true,decide_false,zQ,zD,if_false];cases(zL c.Points.length).all (H3 c)<;>rfl
   ·simp only[Hu,Al,zC hi,zB,Ai,hi,decide_true,if_true,Yp (hn _ (zF hi)),rv hp,H3];by_cases e:P1 c.Points c.Points[i].Name=(i:X)<;>cases EF c.Points[i].Name<;>simp[e]
  ·have h2':(10:X)<c.Segments.length:=by omega
   simp[h1,h1',h2,h2']
 ·have h1':(8:X)<c.Points.length:=by omega
  simp[h1,h1']
theorem zt{xs:Q X7}(h:xs.length≤1048576):Nb xs=O xs:=by
 unfold Nb;rw[E9 h (by omega)];have:=Hr (L:=Ii xs) xs id (J8 h) (fun n i acc hi ha=>by simp[Ii,Al,hi,ha,Qb]) (fun n acc=>by simp[Ii]) (zI xs.length ⟨[],G⟩) (by simp);simpa using this
theorem zu{xs:Q X2}(h:xs.length≤1048576):Nc xs=O xs:=by
 unfold Nc;rw[E9 h (by omega)];have:=Hr (L:=Ij xs) xs id (J8 h) (fun n i acc hi ha=>by simp[Ij,Al,hi,ha,Qd]) (fun n acc=>by simp[Ij]) (zI xs.length ⟨0,0,0,0,G⟩) (by simp);simpa using this
theorem zk{c:X1}(h1:c.Points.length≤1048576)(h2:c.Segments.length≤1048576):N7 c=O c:=by
 simp[N7,zt h1,zu h2]
theorem nR(x y:X7):MN x y=O (decide (x=y)):=by
 unfold MN;cases x; cases y;simp only[X7.mk.injEq];repeat' split
 all_goals simp_all
theorem nQ{xs ys:Q X7}(h:xs.length≤maxLen):MO xs ys=O (decide (xs=ys)):=by
 unfold MO;by_cases hl:xs.length=ys.length
 ·have:=JR (L:=I8 xs ys) xs ys h hl (fun n i h1 h2=>by simp[I8,Al,h1,h2,nR]) (fun n=>by simp[I8]);simp[hl,this]
 ·have:¬(xs.length:X)=ys.length:=by omega
  have:xs≠ys:=fun e=>hl (by rw[e])
  simp_all
theorem nT(x y:X2):MP x y=O (decide (x=y)):=by
 unfold MP;cases x; cases y;simp only[X2.mk.injEq];repeat' split
 all_goals simp_all
theorem nS{xs ys:Q X2}(h:xs.length≤maxLen):MQ xs ys=O (decide (xs=ys)):=by
 unfold MQ;by_cases hl:xs.length=ys.length
 ·have:=JR (L:=I9 xs ys) xs ys h hl (fun n i h1 h2=>by simp[I9,Al,h1,h2,nT]) (fun n=>by simp[I9]);simp[hl,this]
 ·have:¬(xs.length:X)=ys.length:=by omega
  have:xs≠ys:=fun e=>hl (by rw[e])
  simp_all
theorem nH{c:X1}(h1:c.Points.length≤maxLen)(h2:c.Segments.length≤maxLen):MH c c=O E:=by
 simp[MH,nQ h1,nS h2]
theorem yp{x:X7}{l:X}(h0:0≤l)(h1:l≤1048576)(hx:x.Name.length≤maxLen):∃r,N1 x l=O r∧(0≤r→r≤l):=by
 unfold N1;rw[Az] at hx
 rw[Ak (by omega) (by omega)];by_cases h:l - (x.Name.length:X)<0
 ·exact⟨-1,by simp[h],by omega⟩
 ·exact⟨l - x.Name.length,by simp[h],by omega⟩
theorem yo{xs:Q X7}{l:X}(h0:0≤l)(h1:l≤1048576)(hx:xs.length≤maxLen)(hn:∀x∈xs,x.Name.length≤maxLen):∃r,N2 xs l=O r∧(0≤r→r≤l∧xs.length≤1048576):=by
 unfold N2;have hx':=hx;rw[Az] at hx'
 rw[Ak (by omega) (by omega)];by_cases h:l - (xs.length:X)<0
 ·exact⟨-1,by simp[h],by omega⟩
 ·have key:∀(k i n:Z) (v:X),i+k=xs.length→k<n→0≤v→v≤l→∃r,Gs xs n v (i:X)=O r∧(0≤r→r≤l):=by
   intro k
   induction k with
   | zero=>
    intro i n v hi hn2 hv hv2;obtain⟨m,rfl⟩:∃m,n=m+1:=⟨n - 1,by omega⟩;have:i=xs.length:=by omega
    subst this;exact⟨v,by simp[Gs],fun _=>hv2⟩
   | succ k ih=>
    intro i n v hi hn2 hv hv2;obtain⟨m,rfl⟩:∃m,n=m+1:=⟨n - 1,by omega⟩;have hlt:i<xs.length:=by omega
    obtain⟨r,e,hr⟩:=yp (x:=xs[i]) hv (by omega) (hn _ (zF hlt));by_cases hr0:r<0
    ·exact⟨-1,by simp[Gs,Al,hlt,e,hr0],by omega⟩
    ·obtain⟨r2,e2,h2⟩:=ih (i+1) m r (by omega) (by omega) (by omega) (by have:=hr (by omega); omega);refine⟨r2,?_,h2⟩;rw[← At hlt hx] at e2
     simp only[Gs,Al,zC hlt,zB,Ai,hlt,decide_true,if_true,e,hr0,decide_false,zD,if_false];exact e2
  obtain⟨r,e,hr⟩:=key xs.length 0 bigN (l - xs.length) (by omega) (BU hx) (by omega) (by omega);refine⟨r,?_,fun h=>⟨hr h,by omega⟩⟩;simp only[h,decide_false,zD,if_false];exact e
theorem yq{xs:Q X2}{l:X}(h0:0≤l)(h1:l≤1048576)(hx:xs.length≤maxLen):∃r,N3 xs l=O r∧(0≤r→r≤l∧xs.length≤1048576):=by
 unfold N3;rw[Az] at hx
 rw[Ak (by omega) (by omega)];by_cases h:l - (xs.length:X)<0
 ·exact⟨-1,by simp[h],by omega⟩
 ·exact⟨l - xs.length,by simp[h],by omega⟩
theorem yj{c:X1}{l:X}(h0:0≤l)(h1:l≤1048576)(hp:c.Points.length≤maxLen)(hs:c.Segments.length≤maxLen)(hn:∀x∈c.Points,x.Name.length≤maxLen) :
  ∃r,MW c l=O r∧(0≤r→r≤l∧c.Points.length≤1048576∧c.Segments.length≤1048576):=by
 unfold MW;obtain⟨r,e,h⟩:=yo h0 h1 hp hn;by_cases hr:r<0
 ·exact⟨-1,by simp[e,hr],by omega⟩
 ·obtain⟨k1,k2⟩:=h (by omega);obtain⟨r',e',h'⟩:=yq (xs:=c.Segments) (l:=r) (by omega) (by omega) hs;by_cases hr':r'<0
  ·exact⟨-1,by simp[e,hr,e',hr'],by omega⟩
  ·obtain⟨k3,k4⟩:=h' (by omega);exact⟨r',by simp[e,hr,e',hr'],fun _=>⟨by omega,k2,k4⟩⟩
def Cp(s:X6):Y:=EF s.Name&&((decide (10≤s.Length)&&decide (s.Length≤400))&&((decide (100≤s.Draught)&&decide (s.Draught≤2000))&&((decide (0≤s.Line)&&decide (s.Line≤3))&&(decide (0≤s.Tugs)&&decide (s.Tugs≤4)))))
theorem Ym(a b:Y):(if a=E then O b else O G)=O (a&&b):=by cases a<;>rfl
theorem Ll{s:X6}(h:s.Name.length≤maxLen):DX s=O (Cp s):=by
 simp only[DX,aE h,Bw,zB,Ym,Cp]
theorem GS{s:X6}(h:s.Name.length≤maxLen):En s=O (Cp s):=by
 have e:(decide (0≤s.Line)&&decide (s.Line<4))=(decide (0≤s.Line)&&decide (s.Line≤3)):=by
  congr 1
  rw[zR]; simp; omega
 simp only[En,Yp h,Dm,J1,zB,Ym,Cp,e]
def P6(xs:Q X6)(s:Q I)(i:Z):Y:=match xs[i]? with
 | some x=>decide (x.Name=s)
 | none=>G
def P7(xs:Q X6)(s:Q I):X:=(yK 0 xs.length).foldr (fun i r=>if P6 xs s i=E then(i:X) else r) (-1)
theorem xV{xs:Q X6}{s:Q I}(h:xs.length≤maxLen):NE xs s=O (P7 xs s):=by
 unfold NE;exact(Jh (IG s xs) xs.length h (fun i r=>if P6 xs s i=E then O (i:X) else r) (O (-1)) (fun n i hi=>by simp[IG,Al,hi,P6]) (fun n=>by simp[IG]) xs.length 0 bigN (by omega) (BU h)).trans (O2 _ _ _ _ _)
theorem rx{xs:Q X6}{s:Q I}(h:xs.length≤maxLen):Mi xs s=O (P7 xs s):=by
 unfold Mi;exact(Jh (HM s xs) xs.length h (fun i r=>if P6 xs s i=E then O (i:X) else r) (O (-1)) (fun n i hi=>by simp[HM,Al,hi,P6]) (fun n=>by simp[HM]) xs.length 0 bigN (by omega) (BU h)).trans (O2 _ _ _ _ _)
def KV(xs:Q X6)(i:Z):Y:=match xs[i]? with
 | some x=>Cp x&&decide (P7 xs x.Name=(i:X))
 | none=>G
def Dy(xs:Q X6):Y:=decide (xs.length≤6)&&(zL xs.length).all (KV xs)
theorem LD(a b:X):(a !=b)= !decide (a=b):=rfl
theorem aA{xs:Q X6}(hn:∀x∈xs,x.Name.length≤maxLen):Kv xs=O (Dy xs):=by
 unfold Kv Dy;by_cases h:xs.length≤6
 ·have h':¬(6:X)<xs.length:=by omega
  have hm:xs.length≤maxLen:=by rw[Az]; omega
  simp only[h,h',decide_true,decide_false,zD,if_false,zQ];refine Ly (L:=Iv xs) xs.length (KV xs) hm (fun n i hi=> ?_) (fun n=>by simp[Iv]);simp only[Iv,Ai,hi,decide_true,if_true,Ae hi,zB,Ll (hn _ (zF hi)),xV hm,KV,zC hi,LD];cases Cp xs[i]<;>by_cases e:P7 xs xs[i].Name=(i:X)<;>simp[e]
 ·have h':(6:X)<xs.length:=by omega
  simp[h,h']
theorem Yn{xs:Q X6}(hn:∀x∈xs,x.Name.length≤maxLen):JW xs=O (Dy xs):=by
 unfold JW Dy;by_cases h:xs.length≤6
 ·have h':¬(6:X)<xs.length:=by omega
  have hm:xs.length≤maxLen:=by rw[Az]; omega
  simp only[h,h',decide_true,decide_false,zD,if_false,zQ];refine Ly (L:=HE xs) xs.length (KV xs) hm (fun n i hi=> ?_) (fun n=>by simp[HE]);simp only[HE,Ai,hi,decide_true,if_true,Ae hi,zB,GS (hn _ (zF hi)),rx hm,KV,zC hi,LD];cases Cp xs[i]<;>by_cases e:P7 xs xs[i].Name=(i:X)<;>simp[e]
 ·have h':(6:X)<xs.length:=by omega
  simp[h,h']
theorem O1{xs:Q X6}(h:Dy xs=E):xs.length≤6∧∀x∈xs,Cp x=E:=by
 simp only[Dy,zE,decide_eq_true_eq,yB,kJ] at h;refine⟨h.1,fun x hx=> ?_⟩;obtain⟨i,hi,rfl⟩:=zN hx;have:=h.2 i hi;simp only[KV,zC hi,zE] at this
 exact this.1
def AB(x:X2)(s:X6):X:=if s.Slow=E then kY .i64 (2*x.Minutes) else x.Minutes
theorem P9(x:X2)(s:X6):Fw x s=O (AB x s):=by unfold Fw AB; split<;>rfl
theorem Of(x:X2)(s:X6):Fc s x=O (AB x s):=by unfold Fc AB; split<;>rfl
def As(c:X1)(i:X):X2:=c.Segments[i.toNat]?.getD ⟨0,0,0,0,G⟩
def AN(l:Q X6)(i:X):X6:=l[i.toNat]?.getD ⟨[],0,0,0,0,G⟩
theorem QX{α:Type}{l:Q α}{i:X}(d:α)(h:idx i l.length=E):ix l i=O (l[i.toNat]?.getD d)∧l[i.toNat]?.getD d∈l:=by
 simp only[idx,zE,decide_eq_true_eq] at h;obtain⟨k,rfl⟩:∃k:Z,i=(k:X):=⟨i.toNat,by omega⟩;have hk:k<l.length:=by omega
 have e:l[((k:Z):X).toNat]?.getD d=l[k]:=by simp[hk]
 rw[Ae hk,e];exact⟨zA,zF hk⟩
theorem BH{c:X1}{i:X}(h:idx i c.Segments.length=E):ix c.Segments i=O (As c i)∧As c i∈c.Segments:=QX _ h
theorem J2{l:Q X6}{i:X}(h:idx i l.length=E):ix l i=O (AN l i)∧AN l i∈l:=QX _ h
theorem CF(i:X){n:Z}(h:n≤1000):Aw i 0 (kY .i64 ((n:X) - 1))=O (idx i n):=by rw[Bw,Yw i h]
theorem E5(i:X)(n:Z):Bt i (n:X)=O (idx i n):=J1 i n
theorem zv{xs:Q X6}(h:xs.length≤1048576):Nd xs=O xs:=by
 unfold Nd;rw[E9 h (by omega)];have:=Hr (L:=Ik xs) xs id (J8 h) (fun n i acc hi ha=>by simp[Ik,Al,hi,ha,Qe]) (fun n acc=>by simp[Ik]) (zI xs.length ⟨[],0,0,0,0,G⟩) (by simp);simpa using this
theorem nV(x y:X6):MR x y=O (decide (x=y)):=by
 unfold MR;cases x; cases y;simp only[X6.mk.injEq];repeat' split
 all_goals simp_all
theorem nU{xs ys:Q X6}(h:xs.length≤maxLen):MS xs ys=O (decide (xs=ys)):=by
 unfold MS;by_cases hl:xs.length=ys.length
 ·have:=JR (L:=Ia xs ys) xs ys h hl (fun n i h1 h2=>by simp[Ia,Al,h1,h2,nV]) (fun n=>by simp[Ia]);simp[hl,this]
 ·have:¬(xs.length:X)=ys.length:=by omega
  have:xs≠ys:=fun e=>hl (by rw[e])
  simp_all
theorem yu{x:X6}{l:X}(h0:0≤l)(h1:l≤1048576)(hx:x.Name.length≤maxLen):∃r,N4 x l=O r∧(0≤r→r≤l):=by
 unfold N4;rw[Az] at hx
 rw[Ak (by omega) (by omega)];by_cases h:l - (x.Name.length:X)<0
 ·exact⟨-1,by simp[h],by omega⟩
 ·exact⟨l - x.Name.length,by simp[h],by omega⟩
theorem yr{xs:Q X6}{l:X}(h0:0≤l)(h1:l≤1048576)(hx:xs.length≤maxLen)(hn:∀x∈xs,x.Name.length≤maxLen):∃r,N5 xs l=O r∧(0≤r→r≤l∧xs.length≤1048576):=by
 unfold N5;have hx':=hx;rw[Az] at hx'
 rw[Ak (by omega) (by omega)];by_cases h:l - (xs.length:X)<0
 ·exact⟨-1,by simp[h],by omega⟩
 ·have key:∀(k i n:Z) (v:X),i+k=xs.length→k<n→0≤v→v≤l→∃r,Gt xs n v (i:X)=O r∧(0≤r→r≤l):=by
   intro k
   induction k with
   | zero=>
    intro i n v hi hn2 hv hv2;obtain⟨m,rfl⟩:∃m,n=m+1:=⟨n - 1,by omega⟩;have:i=xs.length:=by omega
    subst this;exact⟨v,by simp[Gt],fun _=>hv2⟩
   | succ k ih=>
    intro i n v hi hn2 hv hv2;obtain⟨m,rfl⟩:∃m,n=m+1:=⟨n - 1,by omega⟩;have hlt:i<xs.length:=by omega
    obtain⟨r,e,hr⟩:=yu (x:=xs[i]) hv (by omega) (hn _ (zF hlt));by_cases hr0:r<0
    ·exact⟨-1,by simp[Gt,Al,hlt,e,hr0],by omega⟩
    ·obtain⟨r2,e2,h2⟩:=ih (i+1) m r (by omega) (by omega) (by omega) (by have:=hr (by omega); omega);refine⟨r2,?_,h2⟩;rw[← At hlt hx] at e2
     simp only[Gt,Al,zC hlt,zB,Ai,hlt,decide_true,if_true,e,hr0,decide_false,zD,if_false];exact e2
  obtain⟨r,e,hr⟩:=key xs.length 0 bigN (l - xs.length) (by omega) (BU hx) (by omega) (by omega);refine⟨r,?_,fun h=>⟨hr h,by omega⟩⟩;simp only[h,decide_false,zD,if_false];exact e
theorem xI{xs:Q X6}(ok:(D.sl (kD X6.row xs)).Ok):xs.length≤maxLen∧∀x∈xs,x.Name.length≤maxLen:=
 ⟨GV ok,fun x hx=>(ok.sl.2 (X6.row x) (List.mem_map_of_mem hx) (.str x.Name) (by simp[X6.row_eq])).str⟩
def FS(p:X):Y:=(decide (4≤p)&&decide (p≤2880))&&(kY .i64 (yU p 4)==0)
def H2(x:Xc):Y:=(decide (0≤x.Amp)&&decide (x.Amp≤1000))&&(FS x.Period&&(decide (0≤x.Phase)&&decide (x.Phase≤kY .i64 (x.Period - 1))))
def EU(t:Xl):Y:=(decide (-1000≤t.Mean)&&decide (t.Mean≤1000))&&(decide (t.Parts.length≤4)&&t.Parts.all H2)
theorem xT(x:Xc):Nx x=O (H2 x):=by
 simp only[Nx,Bw,zB,H2,FS];cases(decide (0≤x.Amp)&&decide (x.Amp≤1000))<;>cases(decide (4≤x.Period)&&decide (x.Period≤2880))<;>cases(kY .i64 (yU x.Period 4)==0)<;>rfl
theorem YK(p:X):Kd p=O (FS p):=by
 simp only[Kd,Dm,zB,FS];cases(decide (4≤p)&&decide (p≤2880))<;>rfl
theorem rr(x:Xc):Mc x=O (H2 x):=by
 simp only[Mc,Dm,YK,zB,H2];cases(decide (0≤x.Amp)&&decide (x.Amp≤1000))<;>cases FS x.Period<;>rfl
theorem xX(t:Xl):NH t=O (EU t):=by
 simp only[NH,Bw,zB,EU];cases(decide (-1000≤t.Mean)&&decide (t.Mean≤1000)) with
 | false=>rfl
 | true=>
  by_cases h1:t.Parts.length≤4
  ·have h1':¬(4:X)<t.Parts.length:=by omega
   rw[G1 (L:=IH t) t.Parts H2 (by rw[Az]; omega) (fun n i hi=>by simp only[IH,Al,zC hi,zB,Ai,hi,decide_true,if_true,xT]) (fun n=>by simp[IH])];simp[h1,h1']
  ·have h1':(4:X)<t.Parts.length:=by omega
   simp[h1,h1']
theorem rz(t:Xl):Mm t=O (EU t):=by
 simp only[Mm,Dm,zB,EU];cases(decide (-1000≤t.Mean)&&decide (t.Mean≤1000)) with
 | false=>rfl
 | true=>
  by_cases h1:t.Parts.length≤4
  ·have h1':¬(4:X)<t.Parts.length:=by omega
   rw[G1 (L:=HN t) t.Parts H2 (by rw[Az]; omega) (fun n i hi=>by simp only[HN,Al,zC hi,zB,Ai,hi,decide_true,if_true,rr]) (fun n=>by simp[HN])];simp[h1,h1']
  ·have h1':(4:X)<t.Parts.length:=by omega
   simp[h1,h1']
def FW(x:X9):Y:=(decide (0≤x.From)&&decide (x.From≤2880))&&((decide (-500≤x.Low)&&decide (x.Low≤500))&&(decide (x.Low≤x.High)&&decide (x.High≤500)))
theorem xW(x:X9):NG x=O (FW x):=by
 simp only[NG,Bw,zB,FW];cases(decide (0≤x.From)&&decide (x.From≤2880))<;>cases(decide (-500≤x.Low)&&decide (x.Low≤500))<;>rfl
theorem ry(x:X9):Ml x=O (FW x):=by
 simp only[Ml,GT,zB,FW];cases(decide (0≤x.From)&&decide (x.From≤2880))
 ·rfl
 ·by_cases a1: -500≤x.Low<;>by_cases a2:x.Low≤x.High<;>by_cases a3:x.High≤500<;>by_cases a4:x.Low≤500<;>simp[a1,a2,a3,a4]
  omega
def Jm(l:Q X9)(i:Z):Y:=match l[i]? with
 | some x=>FW x&&(match i with | 0=>E | j+1=>match l[j]? with | some y=> !(decide (x.From≤y.From)) | none=>G)
 | none=>G
def TW(l:Q X9):Y:=match l[0]? with
 | some x=>decide (x.From=0)
 | none=>G
def D9(f:Xd):Y:=EU f.Tide&&((decide (1≤(f.Surges.length:X))&&decide ((f.Surges.length:X)≤6))&&(TW f.Surges&&(zL f.Surges.length).all (Jm f.Surges)))
theorem br(j:Z)(h:j≤1000):kY .i64 (((j+1:Z):X) - 1)=(j:X):=by
 rw[Ak (by omega) (by omega)];omega
theorem aC(f:Xd):Kw f=O (D9 f):=by
 simp only[Kw,xX,Bw,zB,D9];cases EU f.Tide with
 | false=>rfl
 | true=>
  cases hb:(decide (1≤(f.Surges.length:X))&&decide ((f.Surges.length:X)≤6)) with
  | false=>rfl
  | true=>
   simp only[zE,decide_eq_true_eq] at hb
   have h0:0<f.Surges.length:=by omega
   have hl:f.Surges.length≤maxLen:=by rw[Az]; omega
   rw[G2 (L:=Gv f) f.Surges.length (Jm f.Surges) (O E) hl (fun n i hi=> ?_) (fun n=>by simp[Gv])]
   ·have e0:ix f.Surges 0=O f.Surges[0]:=Ae h0;simp only[e0,zB,TW,zC h0,zQ,if_true];by_cases e:f.Surges[0].From=0<;>cases(zL f.Surges.length).all (Jm f.Surges)<;>simp[e]
   ·simp only[Gv,Al,zC hi,zB,Ai,hi,decide_true,if_true,xW,Jm];cases i with
    | zero=>cases FW f.Surges[0]<;>simp
    | succ j=>
     have hj:j<f.Surges.length:=by omega
     rw[br j (by omega)];simp only[Al,zC hj,zB];have hp:(0:X)<((j+1:Z):X):=by omega
     cases FW f.Surges[j+1]<;>cases decide (f.Surges[j+1].From≤f.Surges[j].From)<;>simp
theorem Oe(f:Xd):Gb f=O (D9 f):=by
 simp only[Gb,rz,Dm,zB,D9];cases EU f.Tide with
 | false=>rfl
 | true=>
  cases hb:(decide (1≤(f.Surges.length:X))&&decide ((f.Surges.length:X)≤6)) with
  | false=>rfl
  | true=>
   simp only[zE,decide_eq_true_eq] at hb
   have h0:0<f.Surges.length:=by omega
   have hl:f.Surges.length≤maxLen:=by rw[Az]; omega
   rw[G2 (L:=Gc f) f.Surges.length (Jm f.Surges) (O E) hl (fun n i hi=> ?_) (fun n=>by simp[Gc])]
   ·have e0:ix f.Surges 0=O f.Surges[0]:=Ae h0;simp only[e0,zB,TW,zC h0,zQ,if_true];by_cases e:f.Surges[0].From=0<;>cases(zL f.Surges.length).all (Jm f.Surges)<;>simp[e]
   ·simp only[Gc,Al,zC hi,zB,Ai,hi,decide_true,if_true,ry,Jm];cases i with
    | zero=>cases FW f.Surges[0]<;>simp
    | succ j=>
     have hj:j<f.Surges.length:=by omega
     rw[br j (by omega)];simp only[Al,zC hj,zB];have hp:(0:X)<((j+1:Z):X):=by omega
     cases FW f.Surges[j+1]<;>cases decide (f.Surges[j+1].From≤f.Surges[j].From)<;>simp
def C3(m:X):Y:=decide (0≤m)&&decide (m≤2880)
theorem zq{xs:Q Xc}(h:xs.length≤1048576):Na xs=O xs:=by
 unfold Na;rw[E9 h (by omega)];have:=Hr (L:=Ih xs) xs id (J8 h) (fun n i acc hi ha=>by simp[Ih,Al,hi,ha,Qa]) (fun n acc=>by simp[Ih]) (zI xs.length ⟨0,0,0⟩) (by simp);simpa using this
theorem zw{xs:Q X9}(h:xs.length≤1048576):Nf xs=O xs:=by
 unfold Nf;rw[E9 h (by omega)];have:=Hr (L:=Il xs) xs id (J8 h) (fun n i acc hi ha=>by simp[Il,Al,hi,ha,Qf]) (fun n acc=>by simp[Il]) (zI xs.length ⟨0,0,0⟩) (by simp);simpa using this
theorem zn{f:Xd}(h1:f.Tide.Parts.length≤1048576)(h2:f.Surges.length≤1048576):N8 f=O f:=by
 simp[N8,Qg,zq h1,zw h2]
theorem nP(x y:Xc):ML x y=O (decide (x=y)):=by
 unfold ML;cases x; cases y;simp only[Xc.mk.injEq];repeat' split
 all_goals simp_all
theorem nO{xs ys:Q Xc}(h:xs.length≤maxLen):MM xs ys=O (decide (xs=ys)):=by
 unfold MM;by_cases hl:xs.length=ys.length
 ·have:=JR (L:=I7 xs ys) xs ys h hl (fun n i h1 h2=>by simp[I7,Al,h1,h2,nP]) (fun n=>by simp[I7]);simp[hl,this]
 ·have:¬(xs.length:X)=ys.length:=by omega
  have:xs≠ys:=fun e=>hl (by rw[e])
  simp_all
theorem nX(x y:X9):MT x y=O (decide (x=y)):=by
 unfold MT;cases x; cases y;simp only[X9.mk.injEq];repeat' split
 all_goals simp_all
theorem nW{xs ys:Q X9}(h:xs.length≤maxLen):MU xs ys=O (decide (xs=ys)):=by
 unfold MU;by_cases hl:xs.length=ys.length
 ·have:=JR (L:=Ib xs ys) xs ys h hl (fun n i h1 h2=>by simp[Ib,Al,h1,h2,nX]) (fun n=>by simp[Ib]);simp[hl,this]
 ·have:¬(xs.length:X)=ys.length:=by omega
  have:xs≠ys:=fun e=>hl (by rw[e])
  simp_all
theorem nI{f:Xd}(h1:f.Tide.Parts.length≤maxLen)(h2:f.Surges.length≤maxLen):MI f f=O E:=by
 simp[MI,Q5,nO h1,nW h2]
theorem yn{xs:Q Xc}{l:X}(h0:0≤l)(h1:l≤1048576)(hx:xs.length≤maxLen):∃r,N0 xs l=O r∧(0≤r→r≤l∧xs.length≤1048576):=by
 unfold N0;rw[Az] at hx
 rw[Ak (by omega) (by omega)];by_cases h:l - (xs.length:X)<0
 ·exact⟨-1,by simp[h],by omega⟩
 ·exact⟨l - xs.length,by simp[h],by omega⟩
theorem yw{xs:Q X9}{l:X}(h0:0≤l)(h1:l≤1048576)(hx:xs.length≤maxLen):∃r,N6 xs l=O r∧(0≤r→r≤l∧xs.length≤1048576):=by
 unfold N6;rw[Az] at hx
 rw[Ak (by omega) (by omega)];by_cases h:l - (xs.length:X)<0
 ·exact⟨-1,by simp[h],by omega⟩
 ·exact⟨l - xs.length,by simp[h],by omega⟩
theorem yk{f:Xd}{l:X}(h0:0≤l)(h1:l≤1048576)(hp:f.Tide.Parts.length≤maxLen)(hs:f.Surges.length≤maxLen) :
  ∃r,MX f l=O r∧(0≤r→r≤l∧f.Tide.Parts.length≤1048576∧f.Surges.length≤1048576):=by
 unfold MX Q7;obtain⟨r,e,h⟩:=yn h0 h1 hp;by_cases hr:r<0
 ·exact⟨-1,by simp[e,hr],by omega⟩
 ·obtain⟨k1,k2⟩:=h (by omega);obtain⟨r',e',h'⟩:=yw (xs:=f.Surges) (l:=r) (by omega) (by omega) hs;by_cases hr':r'<0
  ·exact⟨-1,by simp[e,hr,e',hr'],by omega⟩
  ·obtain⟨k3,k4⟩:=h' (by omega);exact⟨r',by simp[e,hr,e',hr'],fun _=>⟨by omega,k2,k4⟩⟩
def F7(w:Xm):Y:=(decide (0≤w.Tugs)&&decide (w.Tugs≤12))&&((decide (0≤w.Pilots)&&decide (w.Pilots≤12))&&(C3 w.Rest&&(decide (w.Moves.length=64)&&w.Moves.all fun x=>decide (0≤x)&&decide (x≤240))))
theorem QT(a b:Y):(if a=E then O b else O G)=O (a&&b):=by cases a<;>rfl
theorem Zg{l:Q X}(h:l.length≤maxLen):GJ l bigN 0=O (l.all fun x=>decide (0≤x)&&decide (x≤240)):=
 G1 (L:=GJ l) l _ h (fun n i hi=>by simp[GJ,Al,hi,Bw]) (fun n=>by simp[GJ])
theorem Zf{l:Q X}(h:l.length≤maxLen):Gp l bigN 0=O (l.all fun x=>decide (0≤x)&&decide (x≤240)):=
 G1 (L:=Gp l) l _ h (fun n i hi=>by simp[Gp,Al,hi,Dm]) (fun n=>by simp[Gp])
theorem TQ{w:Xm}(h:w.Moves.length≤maxLen):Ir w=O (F7 w):=by
 simp only[Ir,GI,Bw,zB,Zg h,F7,C3];by_cases e:w.Moves.length=64
 ·have e':((w.Moves.length:X) !=64)=G:=by simp; omega
  simp only[e,e',zD,if_false,decide_true,zQ];cases(decide (0≤w.Tugs)&&decide (w.Tugs≤12))<;>cases(decide (0≤w.Pilots)&&decide (w.Pilots≤12))<;>cases(decide (0≤w.Rest)&&decide (w.Rest≤2880))<;>rfl
 ·have e':((w.Moves.length:X) !=64)=E:=by simp; omega
  simp only[e,e',if_true,decide_false,Bool.false_and,Bool.and_false];cases(decide (0≤w.Tugs)&&decide (w.Tugs≤12))<;>cases(decide (0≤w.Pilots)&&decide (w.Pilots≤12))<;>cases(decide (0≤w.Rest)&&decide (w.Rest≤2880))<;>rfl
theorem ro{w:Xm}(h:w.Moves.length≤maxLen):LY w=O (F7 w):=by
 simp only[LY,Gn,Dm,GT,zB,Zf h,F7,C3];by_cases e:w.Moves.length=64
 ·have e':((w.Moves.length:X) !=64)=G:=by simp; omega
  simp only[e,e',zD,if_false,decide_true,zQ,zB];cases(decide (0≤w.Tugs)&&decide (w.Tugs≤12))<;>cases(decide (0≤w.Pilots)&&decide (w.Pilots≤12))<;>cases(decide (0≤w.Rest)&&decide (w.Rest≤2880))<;>rfl
 ·have e':((w.Moves.length:X) !=64)=E:=by simp; omega
  simp only[e,e',if_true,decide_false,Bool.false_and,Bool.and_false,zB];cases(decide (0≤w.Tugs)&&decide (w.Tugs≤12))<;>cases(decide (0≤w.Pilots)&&decide (w.Pilots≤12))<;>cases(decide (0≤w.Rest)&&decide (w.Rest≤2880))<;>rfl
def Ji(r:Xh):Y:=decide (0≤r.Gap)&&decide (r.Gap≤60)
def AP(h:X4):Y:=D9 h.Forecast&&(AJ h.Chart&&(Dy h.Fleet&&(Ji h.Regime&&F7 h.Crew)))
structure HSmall (h:X4):Prop where
 pn:∀x∈h.Chart.Points,x.Name.length≤maxLen
 fn:∀x∈h.Fleet,x.Name.length≤maxLen
 mv:h.Crew.Moves.length≤maxLen
theorem aD{h:X4}(s:HSmall h):KC h=O (AP h):=by
 simp only[KC,IE,aC,DH s.pn,aA s.fn,TQ s.mv,Bw,zB,QT,AP,Ji]
theorem Yo{h:X4}(s:HSmall h):JX h=O (AP h):=by
 simp only[JX,PS,Oe,FF s.pn,Yn s.fn,ro s.mv,Dm,zB,QT,AP,Ji]
theorem ER{c:X1}(h:AJ c=E):c.Points.length≤8∧c.Segments.length≤10∧∀x∈c.Segments,0≤x.Depth∧x.Depth≤3000∧1≤x.Minutes∧x.Minutes≤240:=by
 simp only[AJ,zE,decide_eq_true_eq,yB,kJ] at h;obtain⟨h1,h2,h3,h4⟩:=h;refine⟨h1,h2,fun x hx=> ?_⟩;obtain⟨i,hi,rfl⟩:=zN hx;have:=h4 i hi;simp only[DG,zC hi,zE,decide_eq_true_eq] at this
 omega
def C6(c:X1)(fl:Q X6)(p:X3):Y:=idx p.Ship fl.length&&(idx p.Segment c.Segments.length&&(C3 p.Start&&(decide (p.End≤2880)&&decide (p.End=kY .i64 (p.Start+AB (As c p.Segment) (AN fl p.Ship))))))
theorem aF{c:X1}{s:X6}{i:X}(hn:∀x∈c.Points,x.Name.length≤maxLen)(hs:s.Name.length≤maxLen)(h1:AJ c=E)(h2:Cp s=E)(h3:idx i c.Segments.length=E):KE c i s=O (AB (As c i) s):=by
 have:=(ER h1).2.1;unfold KE;simp only[DH hn,Ll hs,h1,h2,zB,if_true,CF i (show c.Segments.length≤1000 by omega),h3,(BH h3).1,P9]
theorem aG{c:X1}{fl:Q X6}{p:X3}(hn:∀x∈c.Points,x.Name.length≤maxLen)(hf:∀x∈fl,x.Name.length≤maxLen)(h1:AJ c=E)(h2:Dy fl=E):KH c fl p=O (C6 c fl p):=by
 unfold KH;simp only[DH hn,aA hf,zB,h1,h2];have s1:=(ER h1).2.1;have s2:=(O1 h2).1;simp only[if_true,CF p.Ship (show fl.length≤1000 by omega),CF p.Segment (show c.Segments.length≤1000 by omega),zB,Bw,C6,C3];cases h3:idx p.Ship fl.length with
 | false=>simp
 | true=>
  cases h4:idx p.Segment c.Segments.length with
  | false=>simp
  | true=>
   cases h5:decide (0≤p.Start)&&decide (p.Start≤2880) with
   | false=>simp
   | true=>
    have hsh:=(O1 h2).2 _ (J2 h3).2;simp only[if_true,zQ,(J2 h3).1,zB,aF hn (hf _ (J2 h3).2) h1 hsh h4];by_cases e:p.End=kY .i64 (p.Start+AB (As c p.Segment) (AN fl p.Ship))<;>simp[e]
theorem sF{c:X1}{fl:Q X6}{p:X3}:My c fl p=O (C6 c fl p):=by
 unfold My;simp only[E5,zB,GT,C6,C3];cases h3:idx p.Ship fl.length with
 | false=>simp
 | true=>
  cases h4:idx p.Segment c.Segments.length with
  | false=>simp
  | true=>
   cases h5:decide (0≤p.Start)&&decide (p.Start≤2880) with
   | false=>simp
   | true=>
    simp only[if_true,zQ,(J2 h3).1,(BH h4).1,zB,Of];have e0:decide (2880<p.End)= !decide (p.End≤2880):=by rw[zR]; simp
    rw[e0];cases decide (p.End≤2880)<;>simp;rfl
theorem DE{c:X1}{fl:Q X6}{p:X3}(hc:AJ c=E)(h:C6 c fl p=E):idx p.Ship fl.length=E∧idx p.Segment c.Segments.length=E∧0≤p.Start∧p.Start≤p.End∧p.End≤2880:=by
 simp only[C6,C3,zE,decide_eq_true_eq] at h;obtain⟨h3,h4,h5,h6,h7⟩:=h;refine⟨h3,h4,h5.1,?_,h6⟩;obtain⟨_,_,a,b⟩:=(ER hc).2.2 _ (BH h4).2;rw[h7];unfold AB;split
 ·rw[Ak (n:=2*_) (by omega) (by omega),Ak (by omega) (by omega)]; omega
 ·rw[Ak (by omega) (by omega)]; omega
theorem yl{a:X4}{l:X}(h0:0≤l)(h1:l≤1048576)(q1:a.Forecast.Tide.Parts.length≤maxLen)(q2:a.Forecast.Surges.length≤maxLen)(q3:a.Chart.Points.length≤maxLen)(q4:a.Chart.Segments.length≤maxLen)(q5:a.Fleet.length≤maxLen)(s:HSmall a) :
  ∃r,MY a l=O r∧(0≤r→r≤l∧a.Forecast.Tide.Parts.length≤1048576∧a.Forecast.Surges.length≤1048576∧a.Chart.Points.length≤1048576∧a.Chart.Segments.length≤1048576∧a.Fleet.length≤1048576∧a.Crew.Moves.length≤1048576):=by
 unfold MY Q6;obtain⟨r1,e1,k1⟩:=yk (f:=a.Forecast) h0 h1 q1 q2;by_cases c1:r1<0
 ·exact⟨-1,by simp[e1,c1],by omega⟩
 obtain⟨b1,b2,b3⟩:=k1 (by omega);obtain⟨r2,e2,k2⟩:=yj (c:=a.Chart) (l:=r1) (by omega) (by omega) q3 q4 s.pn;by_cases c2:r2<0
 ·exact⟨-1,by simp[e1,c1,e2,c2],by omega⟩
 obtain⟨b4,b5,b6⟩:=k2 (by omega);obtain⟨r3,e3,k3⟩:=yr (xs:=a.Fleet) (l:=r2) (by omega) (by omega) q5 s.fn;by_cases c3:r3<0
 ·exact⟨-1,by simp[e1,c1,e2,c2,e3,c3],by omega⟩
 obtain⟨b7,b8⟩:=k3 (by omega);obtain⟨r4,e4,k4⟩:=ym (xs:=a.Crew.Moves) (l:=r3) (by omega) (by omega) s.mv;by_cases c4:r4<0
 ·exact⟨-1,by simp[e1,c1,e2,c2,e3,c3,e4,c4],by omega⟩
 obtain⟨b9,b10⟩:=k4 (by omega);exact⟨r4,by simp[e1,c1,e2,c2,e3,c3,e4,c4],fun _=>⟨by omega,b2,b3,b5,b6,b8,b10⟩⟩
theorem zo{a:X4}(q1:a.Forecast.Tide.Parts.length≤1048576)(q2:a.Forecast.Surges.length≤1048576)(q3:a.Chart.Points.length≤1048576)(q4:a.Chart.Segments.length≤1048576)(q5:a.Fleet.length≤1048576)(q6:a.Crew.Moves.length≤1048576):If a=O a:=by
 simp[If,Qc,Q9,zn q1 q2,zk q3 q4,zv q5,zp q6]
theorem nM{a:X4}(q1:a.Forecast.Tide.Parts.length≤maxLen)(q2:a.Forecast.Surges.length≤maxLen)(q3:a.Chart.Points.length≤maxLen)(q4:a.Chart.Segments.length≤maxLen)(q5:a.Fleet.length≤maxLen)(q6:a.Crew.Moves.length≤maxLen):MJ a a=O E:=by
 simp[MJ,Q4,Q3,nI q1 q2,nH q3 q4,nU q5,nN q6]
theorem qi{a:X4}(ok:∀d∈X4.row a,d.Ok):a.Forecast.Tide.Parts.length≤maxLen∧a.Forecast.Surges.length≤maxLen∧a.Chart.Points.length≤maxLen∧a.Chart.Segments.length≤maxLen∧a.Fleet.length≤maxLen∧HSmall a:=by
 have h1:=ok (D.sl (kD Xc.row a.Forecast.Tide.Parts)) (by simp[X4.row_eq]);have h2:=ok (D.sl (kD X9.row a.Forecast.Surges)) (by simp[X4.row_eq]);have h3:=ok (D.sl (kD X7.row a.Chart.Points)) (by simp[X4.row_eq]);have h4:=ok (D.sl (kD X2.row a.Chart.Segments)) (by simp[X4.row_eq]);have h5:=ok (D.sl (kD X6.row a.Fleet)) (by simp[X4.row_eq]);have h6:=ok (D.sl (kD rI a.Crew.Moves)) (by simp[X4.row_eq]);refine⟨GV h1,GV h2,GV h3,GV h4,GV h5,⟨fun x hx=> ?_,(xI h5).2,GV h6⟩⟩;exact(h3.sl.2 (X7.row x) (List.mem_map_of_mem hx) (.str x.Name) (by simp[X7.row_eq])).str
theorem gw{m n b:Z}(h:m+n≤2000000)(hb:b≤1000):A3 m n b=E:=by
 unfold A3;rw[decide_eq_true_eq];have:(m+n)*b≤2000000*1000:=yW h hb;omega
theorem Od{α:Type}{m n b:Z}(h:m+n≤2000000)(hb:b≤1000)(x y:α):(if A3 m n b=E then x else y)=x:=by rw[if_pos (gw h hb)]
theorem EX{n:X}(h0:0≤n)(h1:n<18446744073709551616):IntKind.u64.wrap n=n:=by
 simp only[IntKind.wrap,IntKind.bits,IntKind.signed];have:n % 18446744073709551616=n:=Int.emod_eq_of_lt h0 h1;simp[this]
theorem Eb{n:Z}(h:n<2 ^ 63):kY .i64 (n:X)=n:=Ak (by omega) (by omega)
theorem Ld{n:Z}(h:n<2 ^ 64):IntKind.u64.wrap (n:X)=n:=EX (by omega) (by omega)
theorem OK{s n:Z}(h:∀i,s.testBit i=E→i<n):s<2 ^ n:=Nat.lt_pow_two_of_testBit s fun i hi=>by
 cases hb:s.testBit i with
 | false=>rfl
 | true=>have:=h i hb; omega
theorem Vr{a b n:Z}(h:a<2 ^ n):AD a b<2 ^ n:=OK fun i hi=>by
 rw[ET,zE] at hi
 exact H8 h hi.1
theorem H1{w n:Z}(h:n<2 ^ w):(BitVec.ofInt w (n:X)).toNat=n:=by
 rw[BitVec.ofInt_natCast,BitVec.toNat_ofNat,Nat.mod_eq_of_lt h]
theorem VL{w a b:Z}(ha:a<2 ^ w)(hb:b<2 ^ w):(BitVec.ofInt w (a:X) &&& ~~~ BitVec.ofInt w (b:X)).toNat=AD a b:=by
 rw[BitVec.toNat_and,BitVec.toNat_not,H1 ha,H1 hb];apply yP
 intro i;rw[show 2 ^ w - 1 - b=2 ^ w - (b+1) by omega,yS,Nat.testBit_two_pow_sub_succ hb,ET];cases hi:a.testBit i with
 | false=>rfl
 | true=>simp[H8 ha hi]
theorem gj{a b:Z}(ha:a<2 ^ 63)(hb:b<2 ^ 63):B8 .and .i64 (a:X) (b:X)=((a &&& b:Z):X):=by
 show kY .i64 ((BitVec.ofInt 64 (a:X) &&& BitVec.ofInt 64 (b:X)).toNat:X)=_
 rw[BitVec.toNat_and,H1 (yD ha (by decide)),H1 (yD hb (by decide)),Eb (Nat.and_lt_two_pow a hb)]
theorem vU{a b:Z}(ha:a<2 ^ 63)(hb:b<2 ^ 63):B8 .or .i64 (a:X) (b:X)=((a ||| b:Z):X):=by
 show kY .i64 ((BitVec.ofInt 64 (a:X) ||| BitVec.ofInt 64 (b:X)).toNat:X)=_
 rw[BitVec.toNat_or,H1 (yD ha (by decide)),H1 (yD hb (by decide)),Eb (yZ ha hb)]
theorem Vp{a b:Z}(ha:a<2 ^ 63)(hb:b<2 ^ 63):B8 .andNot .i64 (a:X) (b:X)=((AD a b:Z):X):=by
 show kY .i64 ((BitVec.ofInt 64 (a:X) &&& ~~~ BitVec.ofInt 64 (b:X)).toNat:X)=_
 rw[VL (yD ha (by decide)) (yD hb (by decide)),Eb (Vr ha)]
theorem Tz{a b:Z}(ha:a<2 ^ 64)(hb:b<2 ^ 64):B8 .or .u64 (a:X) (b:X)=((a ||| b:Z):X):=by
 show IntKind.u64.wrap ((BitVec.ofInt 64 (a:X) ||| BitVec.ofInt 64 (b:X)).toNat:X)=_
 rw[BitVec.toNat_or,H1 ha,H1 hb,Ld (yZ ha hb)]
theorem LB{a b:Z}(ha:a<2 ^ 64)(hb:b<2 ^ 64):B8 .andNot .u64 (a:X) (b:X)=((AD a b:Z):X):=by
 show IntKind.u64.wrap ((BitVec.ofInt 64 (a:X) &&& ~~~ BitVec.ofInt 64 (b:X)).toNat:X)=_
 rw[VL ha hb,Ld (Vr ha)]
theorem Rz{n:Z}(h:n≤20):Bl .i64 (1:X) (n:X)=((2 ^ n:Z):X):=by
 have hp:2 ^ n<2 ^ 63:=yQ (by omega) (by omega);unfold Bl;rw[zP,show min n IntKind.i64.bits=n by simp[IntKind.bits]; omega,Int.one_mul];have:((2:X) ^ n)=((2 ^ n:Z):X):=by simp
 rw[this,Eb hp]
theorem TP{n:Z}(h:n≤20):Bl .u64 (1:X) (n:X)=((2 ^ n:Z):X):=by
 have hp:2 ^ n<2 ^ 64:=yQ (by omega) (by omega);unfold Bl;rw[zP,show min n IntKind.u64.bits=n by simp[IntKind.bits]; omega,Int.one_mul];have:((2:X) ^ n)=((2 ^ n:Z):X):=by simp
 rw[this,Ld hp]
theorem iY(n:Z):((n:X)==(0:X))=decide (n=0):=by
 rw[zR];simp
def YW:Q I:= [0,1,2,2,3,3,3,3,4,4,4,4,4,4,4,4,5,5,5,5,5,5,5,5,5,5,5,5,5,5,5,5,6,6,6,6,6,6,6,6,6,6,6,6,6,6,6,6,6,6,6,6,6,6,6,6,6,6,6,6,6,6,6,6,7,7,7,7,7,7,7,7,7,7,7,7,7,7,7,7,7,7,7,7,7,7,7,7,7,7,7,7,7,7,7,7,7,7,7,7,7,7,7,7,7,7,7,7,7,7,7,7,7,7,7,7,7,7,7,7,7,7,7,7,7,7,7,7,8,8,8,8,8,8,8,8,8,8,8,8,8,8,8,8,8,8,8,8,8,8,8,8,8,8,8,8,8,8,8,8,8,8,8,8,8,8,8,8,8,8,8,8,8,8,8,8,8,8,8,8,8,8,8,8,8,8,8,8,8,8,8,8,8,8,8,8,8,8,8,8,8,8,8,8,8,8,8,8,8,8,8,8,8,8,8,8,8,8,8,8,8,8,8,8,8,8,8,8,8,8,8,8,8,8,8,8,8,8,8,8,8,8,8,8,8,8,8,8,8,8,8,8,8,8,8,8]
theorem tk(v8 v9:X):Kk v8 v9=(ix YW (IntKind.u8.wrap v8)).bind fun b10=>O (kY .i64 (v9+(kY .i64 (b10.toNat:X)))):=rfl
def YU(x:Z):Y:=match YW[x]? with
 | some b=>decide (b.toNat≤8)&&(decide (x<2 ^ b.toNat)&&(x==0 || (decide (1≤b.toNat)&&decide (2 ^ (b.toNat - 1)≤x))))
 | none=>G
theorem tl:(zL 256).all YU=E:=by kernel_rfl
theorem YT{x:Z}(hx:x<256)(n:X):∃l:Z,Kk (x:X) n=O (kY .i64 (n+(l:X)))∧l≤8∧x<2 ^ l∧(0<x→1≤l∧2 ^ (l - 1)≤x):=by
 have h:=yB.1 tl x (by simpa using hx);unfold YU at h;split at h
 ·rename_i b hb
  simp only[zE,decide_eq_true_eq,kU,beq_iff_eq] at h
  have hw:IntKind.u8.wrap (x:X)=(x:X):=by
   simp only[IntKind.wrap,IntKind.bits,IntKind.signed];have:(x:X) % 256=x:=Int.emod_eq_of_lt (by omega) (by omega);simp[this]
  refine⟨b.toNat,?_,h.1,h.2.1,fun h0=> ?_⟩
  ·rw[tk,hw,Al,hb,zB,Eb (n:=b.toNat) (by omega)]
  ·rcases h.2.2 with h3|h3
   ·omega
   ·exact h3
 ·cases h
theorem tr{s:Z}(h1:1≤s)(h2:s<4096):∃t:Z,Kj (s:X)=O ((t+1:Z):X)∧2 ^ t≤s∧s<2 ^ (t+1)∧t<12:=by
 have key:∃l:Z,Kj (s:X)=O ((l:Z):X)∧1≤l∧2 ^ (l - 1)≤s∧s<2 ^ l:=by
  unfold Kj Qh;rw[if_neg (by simp; omega)];unfold Ng;rw[if_neg (by simp; omega)];unfold Nh;by_cases hs:s<256
  ·rw[if_neg (by simp; omega)];obtain⟨l,e,l8,a1,a2⟩:=YT hs 0;obtain⟨a3,a4⟩:=a2 h1;refine⟨l,?_,a3,a4,a1⟩;rw[e,zB,Int.zero_add,Eb (by omega)]
  ·rw[if_pos (by simp; omega)]
   have e8:Cq .u64 (s:X) 8=((s / 256:Z):X):=by
    unfold Cq;rw[show min 8 IntKind.u64.bits=8 by rfl,Int.fdiv_eq_ediv_of_nonneg _ (by decide)];have:((s:X) / 2 ^ 8)=((s / 256:Z):X):=by simp
    rw[this,Ld (by omega)]
   have e9:kY .i64 ((0:X)+8)=((8:Z):X):=by rw[Ak (by omega) (by omega)]; rfl
   rw[e8,e9];obtain⟨l,e,l8,a1,a2⟩:=YT (x:=s / 256) (by omega) ((8:Z):X);obtain⟨a3,a4⟩:=a2 (by omega);refine⟨8+l,?_,by omega,?_,?_⟩
   ·have:((8:Z):X)+(l:X)=((8+l:Z):X):=by omega
    rw[e,zB,this,Eb (by omega)]
   ·rw[show 8+l - 1=(l - 1)+8 by omega,Nat.pow_add];omega
   ·rw[Nat.add_comm,Nat.pow_add];omega
 obtain⟨l,e,a1,a2,a3⟩:=key;obtain⟨t,rfl⟩:∃t,l=t+1:=⟨l - 1,by omega⟩;refine⟨t,e,by simpa using a2,a3,?_⟩;rcases yC t 12 with h|h
 ·exact h
 ·have:=yO (show 0<2 by omega) h;simp at a2
  omega
theorem U6{s t:Z}(h1:2 ^ t≤s)(h2:s<2 ^ (t+1)):s.testBit t=E∧AD s (2 ^ t)<2 ^ t∧(∀i,(AD s (2 ^ t)).testBit i=E→s.testBit i=E)∧(∀i,s.testBit i=E→i=t∨(AD s (2 ^ t)).testBit i=E):=by
 have hb:∀i,(AD s (2 ^ t)).testBit i=(s.testBit i&& !decide (t=i)):=fun i=>by rw[ET,Jq]
 refine⟨Nat.testBit_of_two_pow_le_and_two_pow_add_one_gt h1 h2,OK fun i hi=> ?_,fun i hi=> ?_,fun i hi=> ?_⟩
 ·rw[hb,zE] at hi
  have:=H8 h2 hi.1;have h3:t≠i:=by simpa using hi.2
  omega
 ·rw[hb,zE] at hi
  exact hi.1
 ·by_cases h:i=t
  ·exact .inl h
  ·right
   rw[hb,hi];simpa using fun e:t=i=>h e.symm
theorem EQ{α β R:Type}{L:Z→X→Q β→U R}(xs:Q α)(g:α→β)(K:Q β→U R)(hl:xs.length≤maxLen)
  (hs:∀(n i:Z) (acc:Q β) (h:i<xs.length),acc.length=i→L (n+1) (i:X) acc=L n (kY .i64 ((i:X)+1)) (acc++ [g xs[i]])) (he:∀n acc,acc.length=xs.length→L (n+1) (xs.length:X) acc=K acc):L bigN 0 []=K (xs.map g):=by
 have key:∀(k i n:Z) (acc:Q β),i+k=xs.length→k<n→acc=(xs.take i).map g→L n (i:X) acc=K (xs.map g):=by
  intro k
  induction k with
  | zero=>
   intro i n acc hi hn ha;obtain⟨m,rfl⟩:∃m,n=m+1:=⟨n - 1,by omega⟩;have:i=xs.length:=by omega
   subst this;rw[yF] at ha
   rw[he m acc (by rw[ha]; simp),ha]
  | succ k ih=>
   intro i n acc hi hn ha;obtain⟨m,rfl⟩:∃m,n=m+1:=⟨n - 1,by omega⟩;have hlt:i<xs.length:=by omega
   rw[hs m i acc hlt (by rw[ha]; simp; omega),At hlt hl];refine ih (i+1) m _ (by omega) (by omega) ?_;rw[zJ hlt,kV,ha];rfl
 exact key xs.length 0 bigN [] (by omega) (BU hl) (by simp)
def Bh(d:Xa):Y:=decide (0≤d.From)&&(decide (d.From<d.To)&&(decide (d.To≤2880)&&((decide (0≤d.A)&&decide (d.A<8))&&(decide (0≤d.B)&&decide (d.B<8)))))
theorem TR(d:Xa):IQ d=O (Bh d):=by
 unfold IQ Bh;have e7:∀x:X,decide (x≤7)=decide (x<8):=fun x=>decide_eq_decide.2 (by omega)
 simp only[Bw,zB,e7];by_cases h2:d.From<d.To
 ·by_cases h3:d.To≤2880
  ·have h8:d.From≤2880:=by omega
   simp only[h2,h3,h8,decide_true,if_true,Bool.and_true,zQ];cases decide (0≤d.From)<;>cases(decide (0≤d.A)&&decide (d.A<8))<;>rfl
  ·simp[h2,h3]
 ·simp[h2]
theorem xQ{l:Q Xa}:Np l=O (decide (l.length≤12)&&l.all Bh):=by
 unfold Np;by_cases h:l.length≤12
 ·rw[if_neg (by simp; omega),G1 (L:=Iu l) l Bh (by rw[Az]; omega) (fun n i hi=>by simp[Iu,Al,hi,TR]) (fun n=>by simp[Iu])];simp[h]
 ·rw[if_pos (by simp; omega)];simp[h]
theorem rl{R:Type}(a b c d e:Y)(x y:R):(if(!a)=E then y else if(!b)=E then y else if(!c)=E then y else if d=E then(if e=E then x else y) else y)=if(a&&(b&&(c&&(d&&e))))=E then x else y:=by
 cases a<;>cases b<;>cases c<;>cases d<;>cases e<;>rfl
theorem Tf{l:Q Xa}:HC l=O (decide (l.length≤12)&&l.all Bh):=by
 unfold HC;by_cases h:l.length≤12
 ·rw[if_neg (by simp; omega),G1 (L:=HD l) l Bh (by rw[Az]; omega) (fun n i hi=> ?_) (fun n=>by simp[HD])]
  ·simp[h]
  ·simp only[HD,Ai,hi,decide_true,if_true,Ae hi,zB,J1,Bh];generalize l[i]=d
   have g1:decide (d.From<0)= !decide (0≤d.From):=by by_cases h:0≤d.From<;>simp[h]<;>omega
   have g2:decide (d.To≤d.From)= !decide (d.From<d.To):=by by_cases h:d.From<d.To<;>simp[h]<;>omega
   have g3:decide (2880<d.To)= !decide (d.To≤2880):=by by_cases h:d.To≤2880<;>simp[h]<;>omega
   simp only[g1,g2,g3];exact rl _ _ _ _ _ _ _
 ·rw[if_pos (by simp; omega)];simp[h]
def EL(m:Q X):Y:=decide (m.length=64)&&m.all fun x=>decide (0≤x)&&decide (x≤240)
def DI(p:X)(m:Q X):Y:=C3 p&&EL m
theorem aH{p:X}{m:Q X}(h:m.length≤maxLen):GI p m=O (DI p m):=by
 unfold GI DI EL C3;rw[Bw,zB,Zg h];by_cases h1:m.length=64
 ·cases(decide (0≤p)&&decide (p≤2880))<;>simp[h1]
 ·have:((m.length:X) !=64)=E:=by simpa using(by omega:¬((m.length:X)=64))
  cases(decide (0≤p)&&decide (p≤2880))<;>simp[h1,this]
theorem Yu{m:Q X}(h:m.length≤maxLen):Gn m=O (EL m):=by
 unfold Gn EL;rw[Zf h];by_cases h1:m.length=64
 ·simp[h1]
 ·have:((m.length:X) !=64)=E:=by simpa using(by omega:¬((m.length:X)=64))
  simp[h1,this]
theorem Z8(p:X):CU p=O (C3 p):=by rw[GT]; rfl
def CD(p:X)(m:Q X)(d e:Xa):Y:=decide (kY .i64 (d.To+kY .i64 (p+m[(8*d.B+e.A).toNat]?.getD 0))≤e.From)
theorem PL{d:Xa}(h:Bh d=E):0≤d.From∧d.From<d.To∧d.To≤2880∧0≤d.A∧d.A<8∧0≤d.B∧d.B<8:=by
 simp only[Bh,zE,decide_eq_true_eq] at h;omega
theorem Ze{m:Q X}(hm:EL m=E){b a:X}(h0:0≤b)(h1:b<8)(h2:0≤a)(h3:a<8):ix m (8*b+a)=O (m[(8*b+a).toNat]?.getD 0):=by
 simp only[EL,zE,decide_eq_true_eq] at hm
 obtain⟨k,hk⟩:∃k:Z,8*b+a=(k:X):=⟨(8*b+a).toNat,by omega⟩;rw[hk,Al,zP,zC (by omega)];rfl
theorem aK{p:X}{m:Q X}{d e:Xa}(hl:m.length≤maxLen)(ht:DI p m=E)(hd:Bh d=E)(he:Bh e=E):Ks p m d e=O (CD p m d e):=by
 obtain⟨_,_,_,_,_,b0,b1⟩:=PL hd;obtain⟨_,_,_,a0,a1,_,_⟩:=PL he;have ht':=ht;simp only[DI,zE] at ht'
 unfold Ks Qi;have c1:(decide (0≤d.B)&&decide (d.B≤7))=E:=by simp; omega
 have c2:(decide (0≤e.A)&&decide (e.A≤7))=E:=by simp; omega
 rw[aH hl,ht,zB,if_pos rfl,Bw,c1,zB,if_pos rfl,Bw,c2,zB];unfold KA;rw[if_neg (by simp),Int.mul_comm d.B 8,Ak (n:=8*d.B) (by omega) (by omega),Ak (n:=8*d.B+e.A) (by omega) (by omega),Ze ht'.2 b0 b1 a0 a1,zB,zB,if_pos rfl,TR,hd,zB,if_pos rfl,TR,he,zB,if_pos rfl];rfl
theorem Yt{p:X}{m:Q X}{d e:Xa}(hl:m.length≤maxLen)(ht:DI p m=E)(hd:Bh d=E)(he:Bh e=E):JV p m d e=O (CD p m d e):=by
 obtain⟨_,_,_,_,_,b0,b1⟩:=PL hd;obtain⟨_,_,_,a0,a1,_,_⟩:=PL he;have ht':=ht;simp only[DI,zE] at ht'
 unfold JV PQ;have c1:(decide (0≤d.B)&&decide (d.B<8))=E:=by simp; omega
 have c2:(decide (0≤e.A)&&decide (e.A<8))=E:=by simp; omega
 have o1:(decide ([d].length≤12)&& [d].all Bh)=E:=by simp[hd]
 have o2:(decide ([e].length≤12)&& [e].all Bh)=E:=by simp[he]
 rw[Z8,ht'.1,zB,if_pos rfl,Yu hl,ht'.2,zB,if_pos rfl,J1,c1,zB,if_pos rfl,J1,c2,zB];unfold HF;rw[if_neg (by simp),Ak (n:=8*d.B) (by omega) (by omega),Ak (n:=8*d.B+e.A) (by omega) (by omega),Ze ht'.2 b0 b1 a0 a1,zB,zB,if_pos rfl,Tf,o1,zB,if_pos rfl,Tf,o2,zB,if_pos rfl];rfl
def B2(p:X)(m:Q X)(l:Q Xa)(i k:Z):Y:=match l[i]?,l[k]? with
 | some d,O e=>CD p m d e || CD p m e d
 | _,_=>G
theorem VJ(p:X)(m:Q X)(l:Q Xa)(i k:Z):B2 p m l i k=B2 p m l k i:=by
 unfold B2;cases l[i]?<;>cases l[k]?<;>simp[Bool.or_comm]
theorem F2{n m b:Z}(h:n+m≤1000000)(hb:b≤100):A3 n m b=E:=by
 unfold A3;have:(n+m)*b≤1000000*100:=yW h hb;simp;omega
def nn(ms:Q Z):Q X:=ms.map fun x:Z=>(x:X)
theorem C4(ms:Q Z):(nn ms).length=ms.length:=by simp[nn]
theorem Di{ms:Q Z}{i:Z}(h:i<ms.length):ix (nn ms) (i:X)=O ((ms[i]:Z):X):=by
 rw[Al,nn,kA,zC h]; rfl
theorem Je(ms:Q Z)(i a:Z):(nn ms).set i (a:X)=nn (ms.set i a):=by simp[nn,List.map_set]
theorem Zj(ms:Q Z)(a:Z):nn ms++ [(a:X)]=nn (ms++ [a]):=by simp[nn]
section
variable {p : X} {m : Q X} {l : Q Xa}
theorem VI{i k:Z}(hi:i<l.length)(hk:k<l.length):B2 p m l i k=(CD p m l[i] l[k] || CD p m l[k] l[i]):=by
 unfold B2;rw[zC hi,zC hk]
def Ca(p:X)(m:Q X)(l:Q Xa):Q (Q Y):=l.map fun d=>l.map fun e=>CD p m d e || CD p m e d
theorem we{i k:Z}(hi:i<l.length)(hk:k<l.length):∃x,ix (Ca p m l) (i:X)=O x∧ix x (k:X)=O (B2 p m l i k):=by
 refine⟨l.map fun e=>CD p m l[i] e || CD p m e l[i],?_,?_⟩
 ·rw[Al,Ca,kA,zC hi]; rfl
 ·rw[Al,kA,zC hk,VI hi hk]; rfl
theorem xP(hl:m.length≤maxLen)(ht:DI p m=E)(hd:∀d∈l,Bh d=E)(hN:l.length≤12):NQ p m l=O (Ca p m l):=by
 have hm:l.length≤maxLen:=by rw[Az]; omega
 unfold NQ;refine EQ (L:=Fy p m l) l (fun d=>l.map fun e=>CD p m d e || CD p m e d) O hm (fun n i acc h ha=> ?_) (fun n acc ha=>by simp[Fy]);rw[Fy,Ai,if_pos (by simpa using h),Ae h,zB];rw[EQ (L:=GG p m l (i:X) l[i] acc (Fy p m l n)) l (fun e=>CD p m l[i] e || CD p m e l[i]) (fun row=>Fy p m l n (kY .i64 ((i:X)+1)) (acc++ [row])) hm (fun n2 k acc2 hk ha2=> ?_) (fun n2 acc2 ha2=> ?_)]
 ·rw[GG,Ai,if_pos (by simpa using hk),Ae hk,zB,aK hl ht (hd _ (zF h)) (hd _ (zF hk)),zB,aK hl ht (hd _ (zF hk)) (hd _ (zF h))];have a1:∀b:Y,A3 acc2.length [b].length 1=E:=fun b=>F2 (by simp; omega) (by omega)
  cases CD p m l[i] l[k] with
  | true=>rw[if_pos rfl,if_pos (a1 E)]; rfl
  | false=>rw[if_neg (by simp),zB,if_pos (a1 _)]; rfl
 ·rw[GG,if_neg (by simp),if_pos (F2 (by simp; omega) (by omega))]
def Hf(p:X)(m:Q X)(l:Q Xa)(i j:Z):Y:=decide (j<l.length)&&(decide (i≠j)&&B2 p m l i j)
theorem vg(hl:m.length≤maxLen)(ht:DI p m=E)(hd:∀d∈l,Bh d=E)(hN:l.length≤12)(K:X→Q X→U (Q X)){i:Z}(hi:i<l.length)(ms:Q Z)(hms:ms.length=l.length) :
  ∀(r k n a:Z),k+r=l.length→r<n→(∀j,a.testBit j=(decide (j<k)&&(decide (i≠j)&&B2 p m l i j)))→
   ∃q,(∀j,q.testBit j=Hf p m l i j)∧DT p m l (i:X) l[i] K n (k:X) (nn (ms.set i a))=K (kY .i64 ((i:X)+1)) (nn (ms.set i q)):=by
 have hm:l.length≤maxLen:=by rw[Az]; omega
 intro r
 induction r with
 | zero=>
  intro k n a hk hn ha;obtain⟨n,rfl⟩:∃n',n=n'+1:=⟨n - 1,by omega⟩;refine⟨a,fun j=> ?_,?_⟩
  ·rw[ha,show k=l.length by omega]; rfl
  ·rw[DT,if_neg (by simp; omega)]
 | succ r ih=>
  intro k n a hk hn ha;obtain⟨n,rfl⟩:∃n',n=n'+1:=⟨n - 1,by omega⟩;have hlt:k<l.length:=by omega
  have a12:a<2 ^ 12:=OK fun j hj=>by
   rw[ha,zE,decide_eq_true_eq] at hj; omega
  have step:∀v:Y,v=(decide (i≠k)&&B2 p m l i k)→∃q,(∀j,q.testBit j=Hf p m l i j)∧HX p m l (i:X) (k:X) l[i] (nn (ms.set i a)) (DT p m l (i:X) l[i] K n) v=K (kY .i64 ((i:X)+1)) (nn (ms.set i q)):=by
   intro v hv;unfold HX;cases v with
   | true=>
    rw[if_pos rfl,Di (by simp; omega),zB,if_neg (by simp),TP (by omega),kE];have h12:2 ^ k<2 ^ 64:=yQ (by omega) (by omega);rw[Tz (yD a12 (by decide)) h12,zP,Je,List.set_set,At hlt hm];refine ih (k+1) n _ (by omega) (by omega) fun j=> ?_
    rw[yM,ha,Jq];by_cases hjk:k=j
    ·subst hjk;have hx:¬i=k∧B2 p m l i k=E:=by simpa using hv.symm
     simp[hx.1,hx.2]
    ·have e:decide (j<k+1)=decide (j<k):=decide_eq_decide.2 (by omega);rw[e];simp[hjk]
   | false=>
    rw[if_neg (by simp),At hlt hm];refine ih (k+1) n a (by omega) (by omega) fun j=> ?_
    rw[ha];by_cases hjk:k=j
    ·subst hjk;rw[← hv];simp
    ·have e:decide (j<k+1)=decide (j<k):=decide_eq_decide.2 (by omega);rw[e]
  rw[DT,Ai,if_pos (by simpa using hlt),Ae hlt,zB];by_cases hik:i=k
  ·subst hik;rw[if_neg (by simp)];exact step G (by simp)
  ·have hne:((i:X) !=(k:X))=E:=by simp; omega
   rw[if_pos hne,Yt hl ht (hd _ (zF hi)) (hd _ (zF hlt)),zB];have hb:=VI (p:=p) (m:=m) hi hlt;cases hf:CD p m l[i] l[k] with
   | true=>
    rw[if_pos rfl];exact step E (by rw[hb,hf]; simp[hik])
   | false=>
    rw[if_neg (by simp),Yt hl ht (hd _ (zF hlt)) (hd _ (zF hi)),zB];exact step _ (by rw[hb,hf]; simp[hik])
theorem sE(hl:m.length≤maxLen)(ht:DI p m=E)(hd:∀d∈l,Bh d=E)(hN:l.length≤12):∃ms:Q Z,ms.length=l.length∧(∀i j:Z,i<l.length→(ms[i]?.getD 0).testBit j=Hf p m l i j)∧Mx p m l=O (nn ms):=by
 have hm:l.length≤maxLen:=by rw[Az]; omega
 have key:∀(r i n:Z) (ms:Q Z),i+r=l.length→r<n→ms.length=l.length→(∀i' j:Z,i'<i→(ms[i']?.getD 0).testBit j=Hf p m l i' j)→(∀i':Z,i≤i'→ms[i']?.getD 0=0)→
   ∃ms':Q Z,ms'.length=l.length∧(∀i j:Z,i<l.length→(ms'[i]?.getD 0).testBit j=Hf p m l i j)∧Fi p m l n (i:X) (nn ms)=O (nn ms'):=by
  intro r
  induction r with
  | zero=>
   intro i n ms hi hn hms h1 h2;obtain⟨n,rfl⟩:∃n',n=n'+1:=⟨n - 1,by omega⟩;exact⟨ms,hms,fun i' j h=>h1 i' j (by omega),by rw[Fi,if_neg (by simp; omega)]⟩
  | succ r ih=>
   intro i n ms hi hn hms h1 h2;obtain⟨n,rfl⟩:∃n',n=n'+1:=⟨n - 1,by omega⟩;have hlt:i<l.length:=by omega
   obtain⟨q,hq,e⟩:=vg hl ht hd hN (Fi p m l n) hlt ms hms l.length 0 bigN 0 (by omega) (BU hm) (fun j=>by simp)
   have e0:ms.set i 0=ms:=by
    have h3:=h2 i (kB _);rw[zC (by omega)] at h3
    have h3:ms[i]'(by omega)=0:=h3;apply List.ext_getElem (by simp)
    intro j hj1 hj2;by_cases hij:i=j
    ·subst hij; simp[h3]
    ·rw[List.getElem_set_ne hij]
   rw[e0] at e
   rw[Fi,Ai,if_pos (by simpa using hlt),Ae hlt,zB];have e:DT p m l (i:X) l[i] (Fi p m l n) bigN 0 (nn ms)=_:=e;rw[e,At hlt hm];refine ih (i+1) n (ms.set i q) (by omega) (by omega) (by simpa using hms) (fun i' j h=> ?_) (fun i' h=> ?_)
   ·by_cases hii:i=i'
    ·subst hii;rw[yG (by omega)];exact hq j
    ·rw[yE hii];exact h1 i' j (by omega)
   ·rw[yE (by omega)];exact h2 i' (by omega)
 unfold Mx;rw[E9 (by omega) (by omega),zB];have hz:zI l.length (0:X)=nn (zI l.length 0):=by simp[nn]
 rw[hz]
 exact key l.length 0 bigN _ (by omega) (BU hm) (by simp) (fun i' j h=>by omega) (fun i' h=>by
  rw[List.getElem?_replicate];split<;>rfl)
end
section
variable {B : Z → Z → Y} {N : Z} {ms : Q Z}
def gW(B:Z→Z→Y)(N:Z)(ms:Q Z):Prop:=ms.length=N∧∀i j:Z,i<N→(ms[i]?.getD 0).testBit j=(decide (j<N)&&(decide (i≠j)&&B i j))
theorem jd:EZ B 0:=fun i j hi=>by simp at hi
theorem jc(hB:∀i j,B i j=B j i){s t:Z}(h1:2 ^ t≤s)(h2:s<2 ^ (t+1)):EZ B s↔EZ B (AD s (2 ^ t))∧∀i,(AD s (2 ^ t)).testBit i=E→B t i=E:=by
 obtain⟨a1,a2,a3,a4⟩:=U6 h1 h2;constructor
 ·intro h;exact⟨fun i j hi hj=>h i j (a3 i hi) (a3 j hj),fun i hi=>h t i a1 (a3 i hi) (by have:=H8 a2 hi; omega)⟩
 ·rintro⟨k1,k2⟩ i j hi hj hne
  rcases a4 i hi with rfl|hi
  ·rcases a4 j hj with rfl|hj
   ·exact absurd zA hne
   ·exact k2 j hj
  ·rcases a4 j hj with rfl|hj
   ·rw[hB]; exact k2 i hi
   ·exact k1 i j hi hj hne
theorem Sb{a b:Z}:AD a b=0↔∀i,a.testBit i=E→b.testBit i=E:=by
 constructor
 ·intro h i hi;have:=ET a b i;rw[h,hi] at this
  cases hb:b.testBit i with
  | true=>rfl
  | false=>rw[hb] at this; simp at this
 ·intro h;apply yP
  intro i;rw[ET,Nat.zero_testBit];cases hi:a.testBit i with
  | false=>rfl
  | true=>rw[h i hi]; rfl
theorem Vq(a b:Z):AD a b≤a:=by
 rcases yC a (AD a b) with h|h
 ·obtain⟨i,h1,h2⟩:=Nat.exists_testBit_ne_of_ne (Nat.ne_of_lt h) |>.elim fun i hi=>(⟨i,hi,⟨⟩⟩:∃i,a.testBit i≠(AD a b).testBit i∧True)
  exfalso
  have:AD a b &&& a=AD a b:=Tw fun i hi=>by
   rw[ET,zE] at hi
   exact hi.1
  have h3:= @Nat.and_le_right (AD a b) a;omega
 ·exact h
def S0(B:Z→Z→Y)(tg:Q Y)(s:Z):Prop:=∀x,x<s→(tg[x]?.getD G=E↔EZ B x)
def Vg(B:Z→Z→Y)(ls:Q Z)(s:Z):Prop:=∀x,x<s→Cc B x (ls[x]?.getD 0)
theorem YQ(hN:N≤12){x n:Z}(hx:x<2 ^ N)(h:Cc B x n):n≤12:=Nat.le_trans (h.2 N (PH hx)) hN
theorem QZ{tg:Q Y}{x:Z}(h:x<tg.length):ix tg (x:X)=O (tg[x]?.getD G):=by
 rw[Al,zC h]; rfl
theorem QY{ls:Q Z}{x:Z}(h:x<ls.length):ix (nn ls) (x:X)=O (((ls[x]?.getD 0:Z)):X):=by
 rw[Di h,zC h]; rfl
theorem ZB(hN:N≤12):2 ^ N≤4096:=by
 have:=yO (show 0<2 by omega) hN;simpa using this
theorem tj(hN:N≤12)(y5:X){s t:Z}(hs:s<2 ^ N)(h1:2 ^ t≤s)(h2:s<2 ^ (t+1)){tg:Q Y}{ls:Q Z}(htl:tg.length=2 ^ N)(hll:ls.length=2 ^ N)(ht:S0 B tg (s+1))(hl:Vg B ls s)(K:X→Q Y→Q X→U X) :
  ∀(n q c:Z),q<n→q &&& AD s (2 ^ t)=q→Eg B s c→c≤100→(∀q',q' &&& AD s (2 ^ t)=q'→q<q'→EZ B (q' ||| 2 ^ t)→c≤1+ls[AD (AD s (2 ^ t)) q']?.getD 0)→
   ∃c',Cc B s c'∧Gm (nn ms) y5 (s:X) (t:X) ((AD s (2 ^ t):Z):X) tg K n (q:X) (nn (ls.set s c))=K (kY .i64 ((s:X)+1)) tg (nn (ls.set s c')):=by
 obtain⟨a1,a2,a3,a4⟩:=U6 h1 h2;have hp:=ZB hN;have h2s:AD s (2 ^ t)<s:=yT a2 h1;generalize hr:AD s (2 ^ t)=r at a2 a3 a4 h2s
 intro n
 induction n with
 | zero=>intro q c hq; omega
 | succ n ih=>
  intro q c hq hsub hc hc1 hall
  have ht12:t<12:=by
   rcases yC t 12 with h|h
   ·exact h
   ·have:=yO (show 0<2 by omega) h;simp at this
    omega
  have hqr:q≤r:=by have:= @Nat.and_le_right q r; omega
  have hor:q ||| 2 ^ t≤s:=by
   have hsb:(q ||| 2 ^ t) &&& s=q ||| 2 ^ t:=Tw fun i hi=>by
    rw[yM,Jq,kU,decide_eq_true_eq] at hi
    rcases hi with h|h
    ·exact a3 i (yh hsub h)
    ·subst h; exact a1
   have:= @Nat.and_le_right (q ||| 2 ^ t) s;omega
  have hsml:∀x:Z,x≤s→x<2 ^ 63:=fun x hx=>yV hx (yT hs (Nat.le_trans hp (by decide)))
  have hand:AD r q<s:=yV (Vq r q) h2s;have hset:s<(ls.set s c).length:=by simp; omega
  have hnext:∀c1:Z,Eg B s c1→c1≤100→(∀q',q' &&& r=q'→q≤q'→EZ B (q' ||| 2 ^ t)→c1≤1+ls[AD r q']?.getD 0)→
    ∃c',Cc B s c'∧Kf (nn ms) y5 (s:X) (t:X) (r:X) (q:X) tg K (Gm (nn ms) y5 (s:X) (t:X) (r:X) tg K n) (nn (ls.set s c1))=K (kY .i64 ((s:X)+1)) tg (nn (ls.set s c')):=by
   intro c1 g1 g2 g3;unfold Kf;by_cases h0:q=0
   ·subst h0;refine⟨c1,⟨g1,fun m hm=> ?_⟩,by rw[if_pos (by simp)]⟩;obtain⟨q',n',e1,e2,e3,e4⟩:=jq a1 a3 hm;have:=(hl (AD r q') (yV (Vq r q') h2s)).2 n' e4;have:=g3 q' e1 (zK _) e2;omega
   ·rw[if_neg (by simpa using h0)]
    have ew:kY .i64 ((q:X) - 1)=((q - 1:Z):X):=by
     rw[show(q:X) - 1=((q - 1:Z):X) by omega];exact Eb (hsml _ (by omega))
    rw[ew,gj (hsml _ (by omega)) (hsml _ (by omega))];have hlt:= @gk q r (by omega);refine ih ((q - 1) &&& r) c1 (by omega) (gl _ _) g1 g2 fun q' e1 e2 e3=> ?_
    refine g3 q' e1 ?_ e3;rcases yC q' q with h|h
    ·have:=uv r r q q' (kB _) hsub e1 h;omega
    ·exact h
  rw[Gm,if_neg (by simp),Rz (by omega),vU (hsml _ (by omega)) (hsml _ (by omega)),QZ (by omega),zB];have hk:=ht (q ||| 2 ^ t) (by omega);cases hb:tg[q ||| 2 ^ t]?.getD G with
  | false=>
   rw[if_neg (by simp)];refine hnext c hc hc1 fun q' e1 e2 e3=> ?_
   rcases yC q q' with h|h
   ·exact hall q' e1 h e3
   ·have:q'=q:=by omega
    subst this;rw[hb] at hk
    exact absurd (hk.2 e3) (by simp)
  | true=>
   rw[if_pos rfl];have hcq:=hk.1 hb
   have e26:ix (nn (ls.set s c)) (s:X)=O (c:X):=by
    rw[Di hset,kE]
   have e27:ix (nn (ls.set s c)) (B8 .andNot .i64 (r:X) (q:X))=O ((ls[AD r q]?.getD 0:Z):X):=by
    rw[Vp (hsml _ (by omega)) (hsml _ (by omega)),QY (by simp; omega),yE (by omega)]
   rw[e26,zB,e27,zB];have hle:=hl (AD r q) hand;have h12:=YQ hN (yD hand hs) hle;generalize hv:ls[AD r q]?.getD 0=v at hle h12
   have ew:kY .i64 ((1:X)+(v:X))=((1+v:Z):X):=by
    rw[show(1:X)+(v:X)=((1+v:Z):X) by omega];exact Eb (by omega)
   have emin:(if kY .i64 ((1:X)+(v:X))<(c:X) then kY .i64 ((1:X)+(v:X)) else(c:X))=((if 1+v<c then 1+v else c:Z):X):=by
    rw[ew];by_cases h:1+v<c
    ·rw[if_pos (by omega),if_pos h]
    ·rw[if_neg (by omega),if_neg h]
   rw[emin,zP,Je,List.set_set];refine hnext _ ?_ (by split<;>omega) fun q' e1 e2 e3=> ?_
   ·split
    ·exact jp a4 hcq hle.1
    ·exact hc
   ·rcases yC q q' with h|h
    ·have:=hall q' e1 h e3;split<;>omega
    ·have:q'=q:=by omega
     subst this;rw[hv];split<;>omega
theorem ti(hB:∀i j,B i j=B j i)(hN:N≤12)(hm:gW B N ms):∃n:Z,Cc B (2 ^ N - 1) n∧n≤12∧Mw (nn ms)=O (n:X):=by
 have hp:=ZB hN;have hp0:0<2 ^ N:=kK (by omega);obtain⟨hml,hmb⟩:=hm
 have key:∀(k s n:Z) (tg:Q Y) (ls:Q Z),s+k=2 ^ N→k<n→1≤s→tg.length=2 ^ N→ls.length=2 ^ N→S0 B tg s→Vg B ls s→
   ∃v:Z,Cc B (2 ^ N - 1) v∧v≤12∧Er (nn ms) ((2 ^ N:Z):X) n (s:X) tg (nn ls)=O (v:X):=by
  intro k
  induction k with
  | zero=>
   intro s n tg ls hs hn hs1 htl hll ht hl;obtain⟨n,rfl⟩:∃n',n=n'+1:=⟨n - 1,by omega⟩;have:=hl (2 ^ N - 1) (by omega);refine⟨_,this,YQ hN (by omega) this,?_⟩
   have ew:kY .i64 (((2 ^ N:Z):X) - 1)=((2 ^ N - 1:Z):X):=by
    rw[show((2 ^ N:Z):X) - 1=((2 ^ N - 1:Z):X) by omega];exact Eb (by omega)
   rw[Er,if_neg (by simp only[Ai,decide_eq_true_eq]; omega),ew,QY (by omega),zB]
  | succ k ih=>
   intro s n tg ls hs hn hs1 htl hll ht hl;obtain⟨n,rfl⟩:∃n',n=n'+1:=⟨n - 1,by omega⟩;obtain⟨t,e1,h1,h2,ht12⟩:=tr hs1 (show s<4096 by omega);obtain⟨a1,a2,a3,a4⟩:=U6 h1 h2;have htN:t<N:=H8 (show s<2 ^ N by omega) a1;have h2s:AD s (2 ^ t)<s:=yT a2 h1
   have hsml:∀x:Z,x≤s→x<2 ^ 63:=fun x hx=>by
    have:(4096:Z)<2 ^ 63:=by decide
    omega
   have ew:kY .i64 (((t+1:Z):X) - 1)=(t:X):=by
    rw[show((t+1:Z):X) - 1=(t:X) by omega];exact Eb (by omega)
   have er:B8 .andNot .i64 (s:X) (Bl .i64 (1:X) (t:X))=((AD s (2 ^ t):Z):X):=by
    rw[Rz (by omega),Vp (hsml _ (kB _)) (hsml _ h1)]
   have hu:IntKind.u64.wrap (s:X)=(s:X):=Ld (by omega);have hct:=jc hB h1 h2
   have rest:∀b:Y,(b=E↔EZ B s)→∃v:Z,Cc B (2 ^ N - 1) v∧v≤12∧
     Ke (nn ms) ((2 ^ N:Z):X) (s:X) (nn ls) (Er (nn ms) ((2 ^ N:Z):X) n) (t:X) ((AD s (2 ^ t):Z):X) (tg.set s b)=O (v:X):=by
    intro b hb
    have ht':S0 B (tg.set s b) (s+1):=fun x hx=>by
     by_cases h:s=x
     ·subst h;rw[yG (by omega)];exact hb
     ·rw[yE h];exact ht x (by omega)
    unfold Ke;rw[QY (by omega),zB,C4,hml,zP,Je]
    obtain⟨c',k1,k2⟩:=tj (ms:=ms) hN ((2 ^ N:Z):X) (show s<2 ^ N by omega) h1 h2 (tg:=tg.set s b) (ls:=ls) (by simpa using htl) hll ht' hl (Er (nn ms) ((2 ^ N:Z):X) n) bigN (AD s (2 ^ t)) N (by rw[BD]; omega) (Nat.and_self _) (PH (by omega)) (by omega) (fun q' g1 g2=>by
     have:= @Nat.and_le_right q' (AD s (2 ^ t));omega)
    rw[k2,At (show s<4096 by omega) (by rw[Az]; omega)];refine ih (s+1) n (tg.set s b) (ls.set s c') (by omega) (by omega) (by omega) (by simpa using htl) (by simpa using hll) ht' fun x hx=> ?_
    by_cases h:s=x
    ·subst h;rw[yG (by omega)];exact k1
    ·rw[yE h];exact hl x (by omega)
   rw[Er,Ai,if_pos (by simp; omega),hu,e1,zB,ew,if_neg (by simp),er,QZ (by omega),zB,zP];have hk:=ht (AD s (2 ^ t)) h2s;cases hb:tg[AD s (2 ^ t)]?.getD G with
   | true=>
    rw[if_pos rfl,QY (by omega),zB,QZ (by omega),zB]
    have hmt:ms[t]?.getD 0<2 ^ 12:=OK fun j hj=>by
     rw[hmb t j htN,zE,decide_eq_true_eq] at hj
     omega
    rw[Ld (n:=AD s (2 ^ t)) (by omega),LB (by omega) (yD hmt (by decide)),iY];refine rest _ ?_;rw[decide_eq_true_eq,Sb,hct];constructor
    ·intro h;refine⟨hk.1 hb,fun i hi=> ?_⟩;have:=h i hi;rw[hmb t i htN] at this
     simp at this
     exact this.2.2
    ·rintro⟨_,h⟩ i hi
     have hit:=H8 a2 hi;rw[hmb t i htN,h i hi];simp;omega
   | false=>
    rw[if_neg (by simp),QZ (by omega),zB];refine rest G ?_;rw[hct];constructor
    ·intro h; cases h
    ·rintro⟨h,_⟩
     have:=hk.2 h;rw[hb] at this
     cases this
 unfold Mw
 have hm1:∀b:Z,b≤1000→BI (Bl .i64 (1:X) ((N:Z):X)) (Bl .i64 (1:X) ((N:Z):X)) b=O (2 ^ N):=fun b hb=>by
  rw[Rz (by omega)]; exact E9 (by omega) hb
 rw[C4,hml,if_neg (by simp),hm1 1 (by omega),zB,hm1 8 (by omega),zB,Rz (by omega)]
 have e0:ix (zI (2 ^ N) G) (0:X)=O G:=by
  have:=Ae (l:=zI (2 ^ N) G) (i:=0) (by simpa using hp0);simpa using this
 have hz:zI (2 ^ N) (0:X)=nn (zI (2 ^ N) 0):=by simp[nn]
 rw[e0,zB,hz]
 obtain⟨v,k1,k2,k3⟩:=key (2 ^ N - 1) 1 bigN ((zI (2 ^ N) G).set 0 E) (zI (2 ^ N) 0) (by omega) (by rw[BD]; omega) (by omega) (by simp) (by simp)
  (fun x hx=>by
   have:x=0:=by omega
   subst this;rw[yG (by simpa using hp0)];exact⟨fun _=>jd,fun _=>rfl⟩)
  (fun x hx=>by
   have:x=0:=by omega
   subst this;rw[List.getElem?_replicate,if_pos hp0];exact Tl)
 exact⟨v,k1,k2,k3⟩
end
theorem gn{g i:Z}(h:g<2 ^ i):AD (g ||| 2 ^ i) (2 ^ i)=g:=by
 apply yP
 intro j;rw[ET,yM,Jq];by_cases hj:i=j
 ·subst hj;rw[Nat.testBit_lt_two_pow h];simp
 ·simp[hj]
theorem xH{α:Type}{l:Q α}{i:Z}{x:α}(h:l[i]?=O x):l.set i x=l:=by
 apply List.ext_getElem?
 intro j;by_cases hij:i=j
 ·subst hij;rw[yG (kL.1 h).1,h]
 ·rw[yE hij]
theorem jr:∀(d fuel:Z) (sm gs:Q Z) (most:X) (who:Q X),who.length+d=sm.length→d<fuel→(∀x∈sm,x<2 ^ 12)→sm.length≤12→(∀g∈gs,0<g∧g<2 ^ who.length)→gs.length≤who.length→
  ∃b r,DS fuel ⟨nn sm,most,nn gs,who⟩=O (b,r)∧r.most=most∧(b=G→r=⟨nn sm,most,nn gs,who⟩):=by
 intro d
 induction d with
 | zero=>
  intro fuel sm gs most who hd hf h1 h2 h3 h4;obtain⟨fuel,rfl⟩:∃n',fuel=n'+1:=⟨fuel - 1,by omega⟩;refine⟨E,⟨nn sm,most,nn gs,who⟩,?_,zA,fun h=>by cases h⟩;rw[DS,Mu,if_pos (by simp[C4]; omega)]
 | succ d ih=>
  intro fuel sm gs most who hd hf h1 h2 h3 h4;obtain⟨fuel,rfl⟩:∃n',fuel=n'+1:=⟨fuel - 1,by omega⟩;rw[DS,Mu,if_neg (by simp[C4]; omega)];have hi12:who.length≤11:=by omega
  have hpw:2 ^ who.length<2 ^ 64:=yQ (by omega) (by omega);have hp0:0<2 ^ who.length:=kK (by omega);have hpd:2 ^ (who.length+1)=2 ^ who.length+2 ^ who.length:=by rw[Nat.pow_succ]; omega
  have hsi:who.length<sm.length:=by omega
  have hsm:sm[who.length]<2 ^ 64:=yD (h1 _ (zF hsi)) (by decide)
  have key:∀(k p n:Z),p+k=gs.length+1→k<n→∃b r,Fh (DS fuel) ⟨nn sm,most,nn gs,who⟩ n (p:X) (nn sm) most (nn gs) who=O (b,r)∧r.most=most∧(b=G→r=⟨nn sm,most,nn gs,who⟩):=by
   intro k
   induction k with
   | zero=>
    intro p n hp hn;obtain⟨n,rfl⟩:∃n',n=n'+1:=⟨n - 1,by omega⟩;refine⟨G,_,?_,zA,fun _=>rfl⟩;rw[Fh,if_neg (by simp[C4]; omega)]
   | succ k ihk=>
    intro p n hp hn;obtain⟨n,rfl⟩:∃n',n=n'+1:=⟨n - 1,by omega⟩;have hpl:p≤gs.length:=by omega
    rw[Fh,if_pos (by simp[C4]; omega)];cases hmost:decide ((p:X)<most) with
    | false=>exact⟨G,_,by rw[if_neg (by simp)],rfl,fun _=>rfl⟩
    | true=>
     rw[if_pos rfl];by_cases hpe:p=gs.length
     ·-- a new person
      rw[if_pos (by simp[C4]; omega),if_pos (F2 (by simp[C4]; omega) (by omega))];have e0:nn gs++ [(0:X)]=nn (gs++ [0]):=Zj gs 0;rw[e0];unfold Kb;dsimp only
      have hpg:p<(gs++ [0]).length:=by simp; omega
      have hg0:(gs++ [0])[p]=0:=by simp[hpe]
      rw[Di hpg,zB,hg0,Di hsi,zB,LB (by decide) hsm];have ez:AD 0 sm[who.length]=0:=Sb.2 fun i hi=>by simp at hi
      rw[ez,if_pos (by simp),if_neg (by simp),if_pos (F2 (by simp; omega) (by omega)),TP (by omega),Tz (by decide) hpw,Nat.zero_or,zP,Je]
      have es:(gs++ [0]).set p (2 ^ who.length)=gs++ [2 ^ who.length]:=by
       rw[List.set_append_right _ _ (by omega)];simp[hpe]
      rw[es]
      obtain⟨b,r,k1,k2,k3⟩:=ih fuel sm (gs++ [2 ^ who.length]) most (who++ [(p:X)]) (by simp; omega) (by omega) h1 h2 (fun g hg=>by
       rw[zO,zY,hpd];rcases zV.1 hg with hg|hg
       ·have:=h3 g hg; omega
       ·rw[zS] at hg; omega) (by simp; omega)
      rw[k1,zB];cases b with
      | true=>exact⟨E,r,by rw[if_pos rfl],k2,fun h=>by cases h⟩
      | false=>
       have:=k3 rfl;subst this;rw[if_neg (by simp)];have hw:((who++ [(p:X)]).length:X)=((who.length+1:Z):X):=by simp
       simp only[zO,zY];rw[show bnd ((who.length+1:Z):X) (who.length:X) 0 (who.length+1)=O (0,who.length) from F6 (by omega),zB];have hpg2:p<(gs++ [2 ^ who.length]).length:=by simp; omega
       have hg2:(gs++ [2 ^ who.length])[p]=2 ^ who.length:=by simp[hpe]
       rw[Di hpg2,zB,hg2,if_neg (by simp),LB hpw hpw,Je];have ez2:AD (2 ^ who.length) (2 ^ who.length)=0:=Sb.2 fun i hi=>hi
       have es2:(gs++ [2 ^ who.length]).set p 0=gs++ [0]:=by
        rw[List.set_append_right _ _ (by omega)];simp[hpe]
       have et:(who++ [(p:X)]).take who.length=who:=by simp
       rw[ez2,es2,et];unfold HT;rw[Di hpg,zB,hg0,if_pos (by simp),C4];have hl1:(gs++ [0]).length=gs.length+1:=by simp
       rw[hl1,show bnd ((gs.length+1:Z):X) (p:X) 0 (gs.length+1)=O (0,p) from F6 (by omega),zB];have et2:(nn (gs++ [0])).take p=nn gs:=by rw[hpe]; simp[nn]
       show ∃b r,O (G,(⟨nn sm,most,(nn (gs++ [0])).take p,who⟩:Xg))=O (b,r)∧_
       rw[et2];exact⟨G,_,zA,zA,fun _=>rfl⟩
     ·-- one that is there
      rw[if_neg (by simp[C4]; omega)];have hpg:p<gs.length:=by omega
      have hgm:=h3 _ (zF hpg)
      have hnext:∃b r,HT (DS fuel) ⟨nn sm,most,nn gs,who⟩ (p:X) (Fh (DS fuel) ⟨nn sm,most,nn gs,who⟩ n) (nn sm) most (nn gs) who=O (b,r)∧r.most=most∧(b=G→r=⟨nn sm,most,nn gs,who⟩):=by
       unfold HT;rw[Di hpg,zB,if_neg (by simp; omega),At hpg (by rw[Az]; omega)];exact ihk (p+1) n (by omega) (by omega)
      unfold Kb;dsimp only
      rw[Di hpg,zB,Di hsi,zB,LB (by omega) hsm];cases hfit:(((AD gs[p] sm[who.length]:Z):X)==0) with
      | false=>rw[if_neg (by simp)]; exact hnext
      | true=>
       rw[if_pos rfl,if_neg (by simp),if_pos (F2 (by simp; omega) (by omega)),TP (by omega),Tz (by omega) hpw,zP,Je];have hor:gs[p] ||| 2 ^ who.length<2 ^ (who.length+1):=yZ (by omega) (by omega)
       have hop:0<gs[p] ||| 2 ^ who.length:=by
        have:= @Nat.left_le_or gs[p] (2 ^ who.length);omega
       have hor64:gs[p] ||| 2 ^ who.length<2 ^ 64:=yZ (by omega) hpw
       obtain⟨b,r,k1,k2,k3⟩:=ih fuel sm (gs.set p (gs[p] ||| 2 ^ who.length)) most (who++ [(p:X)]) (by simp; omega) (by omega) h1 h2 (fun g hg=>by
        rw[zO,zY];rcases List.mem_or_eq_of_mem_set hg with hg|hg
        ·have:=h3 g hg; omega
        ·subst hg; exact⟨hop,hor⟩) (by simp; omega)
       rw[k1,zB];cases b with
       | true=>exact⟨E,r,by rw[if_pos rfl],k2,fun h=>by cases h⟩
       | false=>
        have:=k3 rfl;subst this;rw[if_neg (by simp)];simp only[zO,zY];have hps:p<(gs.set p (gs[p] ||| 2 ^ who.length)).length:=by simp; omega
        rw[show bnd ((who.length+1:Z):X) (who.length:X) 0 (who.length+1)=O (0,who.length) from F6 (by omega),zB,Di hps,zB,kE,if_neg (by simp),LB hor64 hpw,Je,gn hgm.2,List.set_set,xH (zC hpg)];have et:(who++ [(p:X)]).take who.length=who:=by simp
        rw[et];exact hnext
  exact key (gs.length+1) 0 bigN (by omega) (by rw[BD]; omega)
section
variable {p : X} {m : Q X} {l : Q Xa}
def gY(B:Z→Z→Y)(w:Q Z):Prop:=∀(i k:Z) (hi:i<w.length) (hk:k<i),w[i]=w[k]→B i k=E
theorem wz(rec_:(Q (Q Y))→(Q X)→X→U ((Q X) × Y))(a2 v2:X)(K:X→U ((Q X) × Y))(c:Z){w:Q Z}(hw:w.length<l.length)(hN:l.length≤12) :
  ∀(r k n:Z) (v:Y),k+r=w.length→r<n→∃b:Y,(b=E↔v=E∧∀(k':Z) (h:k'<w.length),k≤k'→w[k']=c→B2 p m l w.length k'=E)∧
   Dv rec_ (Ca p m l) (nn w) a2 v2 (c:X) K n v (k:X)=Dv rec_ (Ca p m l) (nn w) a2 v2 (c:X) K 1 b (w.length:X):=by
 intro r
 induction r with
 | zero=>
  intro k n v hk hn;obtain⟨n,rfl⟩:∃n',n=n'+1:=⟨n - 1,by omega⟩;have:k=w.length:=by omega
  subst this;refine⟨v,⟨fun h=>⟨h,fun k' h1 h2=>by omega⟩,fun h=>h.1⟩,?_⟩;simp only[Dv,C4,Ai,Nat.lt_irrefl,decide_false,zD,if_false]
 | succ r ih=>
  intro k n v hk hn;obtain⟨n,rfl⟩:∃n',n=n'+1:=⟨n - 1,by omega⟩;have hlt:k<w.length:=by omega
  rw[Dv,if_pos (by simp[C4]; omega),Di hlt,zB];have hwr:=At hlt (show w.length≤maxLen by rw[Az]; omega);by_cases hc:w[k]=c
  ·obtain⟨x,x1,x2⟩:=we (p:=p) (m:=m) hw (show k<l.length by omega);rw[if_pos (by simp; omega),C4,x1,zB,x2,zB];cases hb:B2 p m l w.length k with
   | true=>
    rw[if_pos rfl,hwr];obtain⟨b,b1,b2⟩:=ih (k+1) n v (by omega) (by omega);refine⟨b,b1.trans ⟨fun⟨g1,g2⟩=>⟨g1,fun k' h1 h2 h3=> ?_⟩,fun⟨g1,g2⟩=>⟨g1,fun k' h1 h2=>g2 k' h1 (by omega)⟩⟩,b2⟩;by_cases hkk:k=k'
    ·subst hkk; exact hb
    ·exact g2 k' h1 (by omega) h3
   | false=>
    rw[if_neg (by simp),hwr];obtain⟨b,b1,b2⟩:=ih (k+1) n G (by omega) (by omega);refine⟨b,b1.trans ⟨fun⟨g1,g2⟩=>(by cases g1),fun⟨g1,g2⟩=> ?_⟩,b2⟩;have:=g2 k hlt (kB _) hc;rw[hb] at this
    cases this
  ·rw[if_neg (by simp; omega),hwr];obtain⟨b,b1,b2⟩:=ih (k+1) n v (by omega) (by omega);refine⟨b,b1.trans ⟨fun⟨g1,g2⟩=>⟨g1,fun k' h1 h2 h3=> ?_⟩,fun⟨g1,g2⟩=>⟨g1,fun k' h1 h2=>g2 k' h1 (by omega)⟩⟩,b2⟩;by_cases hkk:k=k'
   ·subst hkk; exact absurd h3 hc
   ·exact g2 k' h1 (by omega) h3
theorem xA(rec_:(Q (Q Y))→(Q X)→X→U ((Q X) × Y))(a0:Q (Q Y))(a2:X){w:Q Z}(hw:w.length≤12)(hx:∀x∈w,x<12) :
  ∀(r k n v:Z),k+r=w.length→r<n→v≤12→∃u:Z,u≤12∧v≤u∧(∀x∈w.drop k,x<u)∧GH rec_ a0 (nn w) a2 n (v:X) (k:X)=DZ rec_ a0 (nn w) a2 (u:X) bigN 0:=by
 intro r
 induction r with
 | zero=>
  intro k n v hk hn hv;obtain⟨n,rfl⟩:∃n',n=n'+1:=⟨n - 1,by omega⟩;refine⟨v,hv,kB _,fun x h=> ?_,?_⟩
  ·rw[List.drop_eq_nil_of_le (by omega)] at h; cases h
  ·rw[GH,if_neg (by simp[C4]; omega)]
 | succ r ih=>
  intro k n v hk hn hv;obtain⟨n,rfl⟩:∃n',n=n'+1:=⟨n - 1,by omega⟩;have hlt:k<w.length:=by omega
  have hk12:=hx _ (zF hlt);rw[GH,if_pos (by simp[C4]; omega),Di hlt,zB,At hlt (by rw[Az]; omega)];have ew:kY .i64 (((w[k]:Z):X)+1)=((w[k]+1:Z):X):=At (n:=12) hk12 (by rw[Az]; omega)
  have em:(if(v:X)<kY .i64 (((w[k]:Z):X)+1) then kY .i64 (((w[k]:Z):X)+1) else(v:X))=((if v<w[k]+1 then w[k]+1 else v:Z):X):=by
   rw[ew];by_cases h:v<w[k]+1
   ·rw[if_pos (by omega),if_pos h]
   ·rw[if_neg (by omega),if_neg h]
  rw[em];obtain⟨u,u1,u2,u3,u4⟩:=ih (k+1) n (if v<w[k]+1 then w[k]+1 else v) (by omega) (by omega) (by split<;>omega);refine⟨u,u1,by split at u2<;>omega,fun x hx2=> ?_,u4⟩;rw[zW hlt] at hx2
  rcases List.mem_cons.1 hx2 with rfl|hx2
  ·split at u2<;>omega
  ·exact u3 x hx2
theorem ZW(mm:Z)(hmm:mm≤12)(hN:l.length≤12):∀(d fuel:Z) (w:Q Z),w.length+d=l.length→d<fuel→(∀x∈w,x<mm)→gY (B2 p m l) w→
  ∃out ok,Cl fuel (Ca p m l) (nn w) (mm:X)=O (out,ok)∧(ok=E↔CS (B2 p m l) l.length mm w):=by
 have hrl:(Ca p m l).length=l.length:=by simp[Ca]
 intro d
 induction d with
 | zero=>
  intro fuel w hd hf hx hv;obtain⟨fuel,rfl⟩:∃n',fuel=n'+1:=⟨fuel - 1,by omega⟩;refine⟨nn w,E,?_,⟨fun _=>ni (by omega) hx (VJ p m l) hv,fun _=>rfl⟩⟩;rw[Cl,NR,if_pos (by simp[C4,hrl]; omega)]
 | succ d ih=>
  intro fuel w hd hf hx hv;obtain⟨fuel,rfl⟩:∃n',fuel=n'+1:=⟨fuel - 1,by omega⟩;have hw:w.length<l.length:=by omega
  rw[Cl,NR,if_neg (by simp[C4,hrl]; omega)];obtain⟨u,u1,_,u3,u4⟩:=xA (Cl fuel) (Ca p m l) (mm:X) (w:=w) (by omega) (fun x h=>by have:=hx x h; omega) w.length 0 bigN 0 (by omega) (by rw[BD]; omega) (by omega);have u4:GH (Cl fuel) (Ca p m l) (nn w) (mm:X) bigN 0 0=_:=u4;rw[u4]
  have key:∀(k c n:Z),c+k=u+1→k<n→(∀c',c'<c→c'<mm→JB (B2 p m l) w c'→¬CS (B2 p m l) l.length mm (w++ [c']))→
    ∃out ok,DZ (Cl fuel) (Ca p m l) (nn w) (mm:X) (u:X) n (c:X)=O (out,ok)∧(ok=E↔CS (B2 p m l) l.length mm w):=by
   have fin:∀c:Z,(u<c∨mm≤c)→(∀c',c'<c→c'<mm→JB (B2 p m l) w c'→¬CS (B2 p m l) l.length mm (w++ [c']))→¬CS (B2 p m l) l.length mm w:=fun c hc hno h=>by
    obtain⟨c',g1,g2,g3,g4⟩:=nj hw (fun x h=>u3 x (by simpa using h)) h;exact hno c' (by omega) g2 g3 g4
   intro k
   induction k with
   | zero=>
    intro c n hc hn hno;obtain⟨n,rfl⟩:∃n',n=n'+1:=⟨n - 1,by omega⟩;refine⟨[],G,?_,⟨fun h=>(by cases h),fun h=>absurd h (fin c (by omega) hno)⟩⟩;rw[DZ,if_neg (by simp; omega)]
   | succ k ihk=>
    intro c n hc hn hno;obtain⟨n,rfl⟩:∃n',n=n'+1:=⟨n - 1,by omega⟩;rw[DZ,if_pos (by simp; omega)];by_cases hcm:c<mm
    ·rw[if_pos (by simpa using hcm)];obtain⟨b,b1,b2⟩:=wz (p:=p) (m:=m) (Cl fuel) (mm:X) (u:X) (DZ (Cl fuel) (Ca p m l) (nn w) (mm:X) (u:X) n) c hw hN w.length 0 bigN E (by omega) (by rw[BD]; omega);have b2:Dv (Cl fuel) (Ca p m l) (nn w) (mm:X) (u:X) (c:X) (DZ (Cl fuel) (Ca p m l) (nn w) (mm:X) (u:X) n) bigN E 0=_:=b2;have hfit:b=E↔JB (B2 p m l) w c:=b1.trans ⟨fun h k' h1 h2=>h.2 k' h1 (zK _) h2,fun h=>⟨rfl,fun k' h1 _ h2=>h k' h1 h2⟩⟩;have hwr:=At (i:=c) (n:=12) (by omega) (by rw[Az]; omega)
     have hon:(JB (B2 p m l) w c→¬CS (B2 p m l) l.length mm (w++ [c]))→∃out ok,KP (Cl fuel) (Ca p m l) (nn w) (mm:X) (u:X) (c:X) (DZ (Cl fuel) (Ca p m l) (nn w) (mm:X) (u:X) n)=O (out,ok)∧(ok=E↔CS (B2 p m l) l.length mm w):=fun h=>by
      unfold KP;rw[hwr];refine ihk (c+1) n (by omega) (by omega) fun c' h1 h2 h3=> ?_
      by_cases hcc:c'=c
      ·subst hcc; exact h h3
      ·exact hno c' (by omega) h2 h3
     rw[b2,Dv,if_neg (by simp[C4])];cases b with
     | false=>
      rw[if_neg (by simp)];exact hon fun h=>absurd (hfit.2 h) (by simp)
     | true=>
      have hf2:=hfit.1 rfl;rw[if_pos rfl,if_pos (F2 (by simp[C4]; omega) (by omega)),if_pos (F2 (by simp[C4]; omega) (by omega)),Zj]
      obtain⟨out,ok,o1,o2⟩:=ih fuel (w++ [c]) (by simp; omega) (by omega) (fun x h=>by
       rcases zV.1 h with h|h
       ·exact hx x h
       ·rw[zS] at h; omega) (fun i k' hi hk' e=>by
       rcases yC i w.length with h|h
       ·rw[zM h,zM (by omega)] at e
        exact hv i k' h hk' e
       ·have:i=w.length:=by simp at hi; omega
        subst this;rw[zM hk'] at e
        simp at e
        exact hf2 k' hk' e.symm)
      rw[o1,zB];cases ok with
      | true=>exact⟨out,E,by rw[if_pos rfl],⟨fun _=>nh (o2.1 rfl),fun _=>rfl⟩⟩
      | false=>
       rw[if_neg (by simp)];exact hon fun _ h=>absurd (o2.2 h) (by simp)
    ·refine⟨[],G,by rw[if_neg (by simpa using hcm)],⟨fun h=>(by cases h),fun h=>absurd h (fin c (by omega) hno)⟩⟩
  exact key (u+1) 0 bigN (by omega) (by rw[BD]; omega) (fun c' h=>by omega)
def Pu(p:X)(m:Q X)(l:Q Xa):Y:=(decide (l.length≤12)&&l.all Bh)&&DI p m
theorem gV(hl:m.length≤maxLen)(ho:Pu p m l=E):∃(n:Z) (w1 w2:Q X),n≤12∧Cc (B2 p m l) (2 ^ l.length - 1) n∧Ix p m l=O (w1,(n:X),E)∧M6 p m l=O (w2,(n:X),E):=by
 have ho':=ho;simp only[Pu,zE,decide_eq_true_eq] at ho'
 obtain⟨⟨hN,hda⟩,ht⟩:=ho';have hd:∀d∈l,Bh d=E:=fun d h=>yB.1 hda d h
 have hdo:(decide (l.length≤12)&&l.all Bh)=E:=by simp[hN,hda]
 obtain⟨ms,m1,m2,m3⟩:=sE hl ht hd hN;obtain⟨n,n1,n2,n3⟩:=ti (VJ p m l) hN (ms:=ms) ⟨m1,m2⟩
 have hmx:∀x∈ms,x<2 ^ 12:=fun x hx=>by
  obtain⟨i,hi,rfl⟩:=zN hx;refine OK fun j hj=> ?_
  have:=m2 i j (by omega);rw[zC hi] at this
  have this:ms[i].testBit j=Hf p m l i j:=this;rw[this,Hf,zE,decide_eq_true_eq] at hj
  omega
 obtain⟨b,r,c1,c2,_⟩:=jr ms.length bigN ms [] (n:X) [] (by simp) (by rw[BD]; omega) hmx (by omega) (fun g h=>by cases h) (by simp)
 have hsp:∀(k v fu:Z),v+k=n→k<fu→∃w1,Iy l (Ca p m l) fu (v:X)=O (w1,(n:X),E):=by
  have hnN:n≤l.length:=n1.2 _ (PH (by have:=kK (n:=l.length) (show 0<2 by omega); omega));intro k
  induction k with
  | zero=>
   intro v fu hv hfu;obtain⟨fu,rfl⟩:∃n',fu=n'+1:=⟨fu - 1,by omega⟩;have:v=n:=by omega
   subst this;obtain⟨out,ok,s1,s2⟩:=ZW (p:=p) (m:=m) v n2 hN l.length bigN [] (by simp) (by rw[BD]; omega) (fun x h=>by cases h) (fun i k hi=>by simp at hi);have s1:Qp (Ca p m l) [] (v:X)=O (out,ok):=s1;have hok:ok=E:=s2.2 (W4.1 n1.1);subst hok;exact⟨out,by rw[Iy,if_pos (by simp; omega),s1,zB,if_pos zA]⟩
  | succ k ihk=>
   intro v fu hv hfu;obtain⟨fu,rfl⟩:∃n',fu=n'+1:=⟨fu - 1,by omega⟩;obtain⟨out,ok,s1,s2⟩:=ZW (p:=p) (m:=m) v (by omega) hN l.length bigN [] (by simp) (by rw[BD]; omega) (fun x h=>by cases h) (fun i k hi=>by simp at hi);have s1:Qp (Ca p m l) [] (v:X)=O (out,ok):=s1
   have hok:ok=G:=by
    cases ok with
    | false=>rfl
    | true=>
     have:=n1.2 v (W4.2 (s2.1 rfl));omega
   subst hok;obtain⟨w1,e⟩:=ihk (v+1) fu (by omega) (by omega);refine⟨w1,?_⟩;rw[Iy,if_pos (by simp; omega),s1,zB,if_neg (by simp),At (i:=v) (n:=13) (by omega) (by rw[Az]; omega)];exact e
 obtain⟨w1,e1⟩:=hsp n 0 bigN (by omega) (by rw[BD]; omega);refine⟨n,w1,r.who,n2,n1,?_,?_⟩
 ·unfold Ix;rw[xQ,hdo,zB,if_pos rfl,aH hl,ht,zB];unfold Nu;rw[if_neg (by simp),xP hl ht hd hN,zB];exact e1
 ·unfold M6 PZ;have ht':=ht;simp only[DI,zE] at ht'
  rw[Tf,hdo,zB,if_pos rfl,Z8,ht'.1,zB,if_pos rfl,Yu hl,ht'.2,zB,zB,if_pos rfl,m3,zB,n3,zB];have c1:SF ⟨nn ms,(n:X),[],[]⟩=O (b,r):=c1;rw[c1,zB,c2]
end
section
variable {c : X1} {fl : Q X6}
def Ck(c:X1)(p:X3):X × X:=if p.Toward=E then((As c p.Segment).A,(As c p.Segment).B) else((As c p.Segment).B,(As c p.Segment).A)
theorem P8{p:X3}(h:idx p.Segment c.Segments.length=E):Fx c p=O (Ck c p):=by
 unfold Fx Ck;rw[(BH h).1,zB];split<;>rfl
theorem Ys{p:X3}(h:idx p.Segment c.Segments.length=E):K5 p c=O (Ck c p):=by
 unfold K5 Ck;rw[(BH h).1,zB];split<;>rfl
theorem W9{p:X3}(hc:AJ c=E)(h:idx p.Segment c.Segments.length=E):0≤(Ck c p).1∧(Ck c p).1<8∧0≤(Ck c p).2∧(Ck c p).2<8:=by
 have hp:=(ER hc).1;have hx:=(BH h).2;simp only[AJ,zE,decide_eq_true_eq,yB,kJ] at hc
 obtain⟨i,hi,e⟩:=zN hx;have:=hc.2.2.2 i hi;simp only[DG,zC hi,e,idx,zE,decide_eq_true_eq] at this
 unfold Ck;split<;>(simp only; omega)
theorem OZ{p:X3}(hc:AJ c=E)(h:C6 c fl p=E):p.Start<p.End:=by
 simp only[C6,C3,zE,decide_eq_true_eq] at h;obtain⟨h3,h4,h5,h6,h7⟩:=h;obtain⟨_,_,a,b⟩:=(ER hc).2.2 _ (BH h4).2;rw[h7];unfold AB;split
 ·rw[Ak (n:=2*_) (by omega) (by omega),Ak (by omega) (by omega)]; omega
 ·rw[Ak (by omega) (by omega)]; omega
theorem ru{p:X3}(hn:∀x∈c.Points,x.Name.length≤maxLen)(hf:∀x∈fl,x.Name.length≤maxLen)(h1:AJ c=E)(h2:Dy fl=E):Md c fl p=O (C6 c fl p):=by
 unfold Md;rw[FF hn,h1,zB,if_pos rfl,Yn hf,h2,zB,if_pos rfl,sF,zB]
def CA(c:X1)(p q:X3):Xa:=⟨p.Start,q.End,(Ck c p).1,(Ck c q).2⟩
theorem Yr{p q:X3}(h1:idx p.Segment c.Segments.length=E)(h2:idx q.Segment c.Segments.length=E):Kc c p q=O (CA c p q):=by
 unfold Kc;rw[Ys h1,zB,Ys h2,zB];rfl
theorem W6{p q:X3}(hc:AJ c=E)(h1:idx p.Segment c.Segments.length=E)(h2:idx q.Segment c.Segments.length=E)(h3:0≤p.Start)(h4:p.Start<q.End)(h5:q.End≤2880):Bh (CA c p q)=E:=by
 obtain⟨a1,a2,_,_⟩:=W9 hc h1;obtain⟨_,_,b1,b2⟩:=W9 hc h2;unfold Bh CA;simp only[zE,decide_eq_true_eq];exact⟨h3,h4,h5,⟨a1,a2⟩,b1,b2⟩
theorem A0e{p:X3}{s:X6}(hs:ix fl p.Ship=O s)(h1:idx p.Segment c.Segments.length=E)(all:Q X3)(v1:X)(K:X→Q Xa→U (Q Xa × Y)){T:Z}(hT:s.Tugs=(T:X))(hT4:T≤4) :
  ∀(r k n:Z) (acc:Q Xa),k+r=T→r<n→acc.length≤12+k→GK fl (Ck c p) all v1 c p K n (k:X) acc =
   if(decide ((12:X)<((acc++zI r (CA c p p)).length:X))) then O (([]:Q Xa),G) else K (kY .i64 (v1+(1:X))) (acc++zI r (CA c p p)):=by
 intro r
 induction r with
 | zero=>
  intro k n acc hk hn ha;obtain⟨n,rfl⟩:∃n',n=n'+1:=⟨n - 1,by omega⟩;rw[GK,hs,zB,if_neg (by rw[hT]; simp; omega)];simp
 | succ r ih=>
  intro k n acc hk hn ha;obtain⟨n,rfl⟩:∃n',n=n'+1:=⟨n - 1,by omega⟩;rw[GK,hs,zB,if_pos (by rw[hT]; simp; omega),if_pos (F2 (by simp; omega) (by omega)),At (i:=k) (n:=5) (by omega) (by rw[Az]; omega)];have:=ih (k+1) n (acc++ [CA c p p]) (by omega) (by omega) (by simp; omega);refine this.trans ?_;rw[yL];rfl
theorem A0d{p:X3}{s:X6}(h1:idx p.Segment c.Segments.length=E)(all:Q X3)(v1:X)(K:X→Q Xa→U (Q Xa × Y)){T:Z}(hT:s.Tugs=(T:X))(hT4:T≤4) :
  ∀(r k n:Z) (acc:Q Xa),k+r=T→r<n→acc.length≤12+k→Gr fl all v1 s c p K n (k:X) acc =
   if(decide ((12:X)<((acc++zI r (CA c p p)).length:X))) then O (([]:Q Xa),G) else K (kY .i64 (v1+(1:X))) (acc++zI r (CA c p p)):=by
 intro r
 induction r with
 | zero=>
  intro k n acc hk hn ha;obtain⟨n,rfl⟩:∃n',n=n'+1:=⟨n - 1,by omega⟩;rw[Gr,if_neg (by rw[hT]; simp; omega)];simp
 | succ r ih=>
  intro k n acc hk hn ha;obtain⟨n,rfl⟩:∃n',n=n'+1:=⟨n - 1,by omega⟩;rw[Gr,if_pos (by rw[hT]; simp; omega),Yr h1 h1,zB,if_pos (F2 (by simp; omega) (by omega)),At (i:=k) (n:=5) (by omega) (by rw[Az]; omega)];have:=ih (k+1) n (acc++ [CA c p p]) (by omega) (by omega) (by simp; omega);refine this.trans ?_;rw[yL];rfl
theorem Sv{w:Xm}(h:F7 w=E):C3 w.Rest=E∧EL w.Moves=E:=by
 simp only[F7,zE] at h;exact⟨h.2.2.1,by simp only[EL,zE]; exact h.2.2.2⟩
theorem gf{p:X}{m:Q X}{l:Q Xa}(h1:l.length≤12)(h2:∀d∈l,Bh d=E)(h3:C3 p=E)(h4:EL m=E):Pu p m l=E:=by
 simp only[Pu,DI,h3,h4,Bool.and_self,Bool.and_true,zE,decide_eq_true_eq,yB];exact⟨h1,h2⟩
end
theorem PB{n m b:Z}(h:n+m≤3000000000000)(hb:b≤40):A3 n m b=E:=by
 unfold A3;have:(n+m)*b≤3000000000000*40:=yW h hb;simp;omega
def By(l:Q X0):Q (Q X3):=l.map fun o=>o.Passages
theorem xZ{l:Q X0}(hl:l.length≤1048576)(hp:∀o∈l,o.Passages.length≤1048576):Kt l=O (By l):=by
 unfold Kt;refine EQ (L:=In l) l (fun o=>o.Passages) O (by rw[Az]; omega) (fun n i acc h ha=> ?_) (fun n acc ha=>by simp[In]);have:=hp _ (zF h);rw[In,Ai,if_pos (by simpa using h),Ae h,zB,if_pos (PB (by simp; omega) (by omega)),if_pos (PB (by simp; omega) (by omega))]
theorem oN{α R:Type}{L:Z→X→Q α→U R}(cs:Q (Q α))(K:U R)(hl:cs.length≤1048576)(hb:∀x∈cs,x.length≤1048576)
  (hs:∀(n i:Z) (acc:Q α) (h:i<cs.length),acc.length≤i*1048576→L (n+1) (i:X) acc=L n (kY .i64 ((i:X)+1)) (acc++cs[i])) (he:∀n,L (n+1) (cs.length:X) cs.flatten=K):L bigN 0 []=K∧cs.flatten.length≤1099511627776:=by
 have key:∀(k i n:Z),i+k=cs.length→k<n→L n (i:X) (cs.take i).flatten=K:=by
  have hlen:∀i:Z,i≤cs.length→(cs.take i).flatten.length≤i*1048576:=by
   intro i
   induction i with
   | zero=>intro _; simp
   | succ i ih=>
    intro hi;rw[zJ (by omega),kI,zO];have h1:=ih (by omega);have h2:=hb _ (zF (show i<cs.length by omega));have e3: [cs[i]].flatten.length=cs[i].length:=by simp
    rw[e3];omega
  intro k
  induction k with
  | zero=>
   intro i n hi hn;obtain⟨m,rfl⟩:∃m,n=m+1:=⟨n - 1,by omega⟩;have:i=cs.length:=by omega
   subst this;rw[yF,he]
  | succ k ih=>
   intro i n hi hn;obtain⟨m,rfl⟩:∃m,n=m+1:=⟨n - 1,by omega⟩;have hlt:i<cs.length:=by omega
   rw[hs m i _ hlt (hlen i (by omega)),At hlt (by rw[Az]; omega)];have:=ih (i+1) m (by omega) (by omega);rw[zJ hlt,kI] at this
   simpa using this
 have hall:∀(k:Z),k≤cs.length→(cs.take k).flatten.length≤k*1048576:=by
  intro i
  induction i with
  | zero=>intro _; simp
  | succ i ih=>
   intro hi;rw[zJ (by omega),kI,zO];have h1:=ih (by omega);have h2:=hb _ (zF (show i<cs.length by omega));have e3: [cs[i]].flatten.length=cs[i].length:=by simp
   rw[e3];omega
 refine⟨key cs.length 0 bigN (by omega) (by rw[BD]; omega),?_⟩;have:=hall cs.length (kB _);rw[yF] at this
 omega
theorem ut{s:Q I}(h:EF s=E):1≤s.length∧s.length≤8:=by
 simp only[EF,OO,zE,decide_eq_true_eq] at h;omega
def Pe(x p:X):X:=if x<kY .i64 (zZ p 2) then
  kY .i64 (zZ (kY .i64 (kY .i64 (40000*x)*kY .i64 (kY .i64 (zZ p 2) - x))) (kY .i64 (kY .i64 (zZ p 2)*kY .i64 (zZ p 2))))
 else kY .i64 (0 - kY .i64 (zZ (kY .i64 (kY .i64 (40000*kY .i64 (x - kY .i64 (zZ p 2)))*kY .i64 (kY .i64 (zZ p 2) - kY .i64 (x - kY .i64 (zZ p 2))))) (kY .i64 (kY .i64 (zZ p 2)*kY .i64 (zZ p 2)))))
theorem TH{p:X}(h:FS p=E):4≤p∧p≤2880∧kY .i64 (yU p 4)=0:=by
 simp only[FS,zE,decide_eq_true_eq,beq_iff_eq] at h;exact⟨h.1.1,h.1.2,h.2⟩
theorem Wz{p:X}(h1:4≤p)(h2:p≤2880):(kY .i64 (kY .i64 (zZ p 2)*kY .i64 (zZ p 2))==0)=G:=by
 have e:zZ p 2=p / 2:=Int.tdiv_eq_ediv_of_nonneg (by omega);rw[e,Ak (n:=p / 2) (by omega) (by omega)];generalize hq:p / 2=q
 have q1:2≤q:=by omega
 have q2:q≤1440:=by omega
 have m1:2*2≤q*q:=Int.mul_le_mul q1 q1 (by omega) (by omega);have m2:q*q≤1440*1440:=Int.mul_le_mul q2 q2 (by omega) (by omega);rw[Ak (by omega) (by omega)];simp only[beq_eq_false_iff_ne,ne_eq];omega
theorem xY{n p:X}(hp:FS p=E)(hn:0≤n)(hn2:n≤100000):NI n p=O (Pe (yU n p) p):=by
 obtain⟨p1,p2,p3⟩:=TH hp;have hm:yU n p=n % p:=yR hn;have r1:=Int.emod_nonneg n (show p≠0 by omega);have r2:=Int.emod_lt_of_pos n (show 0<p by omega);unfold NI;rw[hm,Ak (n:=n % p) (by omega) (by omega),p3];have k1:¬p<4:=by omega
 have k2:¬2880<p:=by omega
 have k3:(p==0)=G:=by simp; omega
 have k4:¬n % p<0:=by omega
 simp only[k1,k2,k3,k4,decide_false,zD,if_false,bne_self_eq_false];unfold NJ Pe;rw[Wz p1 p2];simp only[zD,if_false,decide_eq_true_eq];split<;>rfl
theorem sA{n p:X}(hp:FS p=E)(hn:0≤n)(hn2:n≤100000):Mn n p=O (Pe (yU n p) p):=by
 obtain⟨p1,p2,p3⟩:=TH hp;have hm:yU n p=n % p:=yR hn;have r1:=Int.emod_nonneg n (show p≠0 by omega);have r2:=Int.emod_lt_of_pos n (show 0<p by omega);have k3:(p==0)=G:=by simp; omega
 have hmm:yU (n % p+p) p=n % p:=by
  rw[yR (by omega),Int.add_emod_right,Int.emod_emod]
 unfold Mn;rw[YK,hp,zB,hm,Ak (n:=n % p) (by omega) (by omega),Ak (n:=n % p+p) (by omega) (by omega),hmm,Ak (n:=n % p) (by omega) (by omega),Wz p1 p2];simp only[k3,zD,if_false,if_true,decide_eq_true_eq];unfold Pe;by_cases hx:n % p<kY .i64 (zZ p 2)
 ·rw[if_pos hx,if_neg (by omega)]
 ·rw[if_neg hx,if_pos (by omega)]
theorem uF{t:Xl}{m:X}(ht:EU t=E)(h0:0≤m)(h1:m≤2880):∃r,KK t m=O r∧PW t m=O r:=by
 simp only[EU,zE,decide_eq_true_eq,yB] at ht
 obtain⟨_,hl,hp⟩:=ht;have hlm:t.Parts.length≤maxLen:=by rw[Az]; omega
 have key:∀(k i n:Z) (v:X),i+k=t.Parts.length→k<n→∃r,II m t n v (i:X)=O r∧HO m t n v (i:X)=O r:=by
  intro k
  induction k with
  | zero=>
   intro i n v hi hn;obtain⟨q,rfl⟩:∃q,n=q+1:=⟨n - 1,by omega⟩;have:i=t.Parts.length:=by omega
   subst this;exact⟨v,by simp[II],by simp[HO]⟩
  | succ k ih=>
   intro i n v hi hn;obtain⟨q,rfl⟩:∃q,n=q+1:=⟨n - 1,by omega⟩;have hlt:i<t.Parts.length:=by omega
   have hx:=hp _ (zF hlt);simp only[H2,zE,decide_eq_true_eq] at hx
   obtain⟨_,hx1,hx2,hx3⟩:=hx;obtain⟨p1,p2,_⟩:=TH hx1;rw[Ak (by omega) (by omega)] at hx3
   have hw:=Ak (n:=m+t.Parts[i].Phase) (by omega) (by omega);obtain⟨r,e1,e2⟩:=ih (i+1) q (kY .i64 (v+kY .i64 (zZ (kY .i64 (t.Parts[i].Amp*Pe (yU (m+t.Parts[i].Phase) t.Parts[i].Period) t.Parts[i].Period)) 10000))) (by omega) (by omega);rw[← At hlt hlm] at e1 e2
   refine⟨r,?_,?_⟩
   ·simp only[II,Al,zC hlt,zB,Ai,hlt,decide_true,if_true,hw,xY hx1 (show 0≤m+t.Parts[i].Phase by omega) (by omega)];exact e1
   ·simp only[HO,Al,zC hlt,zB,Ai,hlt,decide_true,if_true,hw,sA hx1 (show 0≤m+t.Parts[i].Phase by omega) (by omega)];exact e2
 exact key t.Parts.length 0 bigN t.Mean (by omega) (BU hlm)
theorem oA{f:Xd}(h:D9 f=E):EU f.Tide=E∧0<f.Surges.length∧f.Surges.length≤6:=by
 simp only[D9,zE,decide_eq_true_eq] at h;refine⟨h.1,?_,?_⟩<;>omega
theorem yi{f:Xd}{m:X}(h0:0<f.Surges.length)(h6:f.Surges.length≤6):∃(a:Z) (ha:a<f.Surges.length),M1 f m=O (a:X)∧IJ f m=O f.Surges[a]:=by
 have hl:f.Surges.length≤maxLen:=by rw[Az]; omega
 have key:∀(k i n a:Z) (ha:a<f.Surges.length),i+k=f.Surges.length→k<n→∃(a':Z) (ha':a'<f.Surges.length),Fa m f n (a:X) (i:X)=O (a':X)∧
   Fv m f n (i:X) f.Surges[a].From f.Surges[a].Low f.Surges[a].High=O f.Surges[a']:=by
  intro k
  induction k with
  | zero=>
   intro i n a ha hi hn;obtain⟨q,rfl⟩:∃q,n=q+1:=⟨n - 1,by omega⟩;have:i=f.Surges.length:=by omega
   subst this;exact⟨a,ha,by simp[Fa],by simp[Fv]⟩
  | succ k ih=>
   intro i n a ha hi hn;obtain⟨q,rfl⟩:∃q,n=q+1:=⟨n - 1,by omega⟩;have hlt:i<f.Surges.length:=by omega
   by_cases hm:f.Surges[i].From≤m
   ·obtain⟨a',ha',e1,e2⟩:=ih (i+1) q i hlt (by omega) (by omega);rw[← At hlt hl] at e1 e2
    refine⟨a',ha',?_,?_⟩
    ·simp only[Fa,Al,zC hlt,zB,Ai,hlt,decide_true,if_true,hm];exact e1
    ·simp only[Fv,Al,zC hlt,zB,Ai,hlt,decide_true,if_true,hm];exact e2
   ·obtain⟨a',ha',e1,e2⟩:=ih (i+1) q a ha (by omega) (by omega);rw[← At hlt hl] at e1 e2
    refine⟨a',ha',?_,?_⟩
    ·simp only[Fa,Al,zC hlt,zB,Ai,hlt,decide_true,if_true,hm,decide_false,zD,if_false];exact e1
    ·simp only[Fv,Al,zC hlt,zB,Ai,hlt,decide_true,if_true,hm,decide_false,zD,if_false];exact e2
 obtain⟨a,ha,e1,e2⟩:=key f.Surges.length 0 bigN 0 h0 (by omega) (BU hl);have z:((0:Z):X)=0:=rfl;rw[z] at e1 e2
 have e0:ix f.Surges 0=O f.Surges[0]:=Ae h0;refine⟨a,ha,?_,?_⟩
 ·unfold M1;exact e1
 ·unfold IJ;rw[e0,zB];exact e2
def TS(s:X6):X:=if s.Slow=E then kY .i64 (zZ s.Draught 50) else kY .i64 (zZ s.Draught 20)
def Jc(c:X1)(i:X)(s:X6):X:=kY .i64 (kY .i64 (kY .i64 (s.Draught+TS s)+50) - (As c i).Depth)
theorem xR{c:X1}{s:X6}{i:X}(hn:∀x∈c.Points,x.Name.length≤maxLen)(hs:s.Name.length≤maxLen)(h1:AJ c=E)(h2:Cp s=E)(h3:idx i c.Segments.length=E):Nv c i s=O (Jc c i s):=by
 have:=(ER h1).2.1;unfold Nv IN Qj Ql;simp only[DH hn,Ll hs,h1,h2,zB,if_true,CF i (show c.Segments.length≤1000 by omega),h3,(BH h3).1,Jc,TS];cases s.Slow<;>rfl
theorem rp{c:X1}{s:X6}{i:X}(hn:∀x∈c.Points,x.Name.length≤maxLen)(hs:s.Name.length≤maxLen)(h1:AJ c=E)(h2:Cp s=E)(h3:idx i c.Segments.length=E):M7 c i s=O (Jc c i s):=by
 unfold M7 HV PT PU;simp only[FF hn,GS hs,h1,h2,zB,if_true,E5,h3,(BH h3).1,Jc,TS];cases s.Slow<;>rfl
def Pf(l:Q X5)(i:Z):Y:=match l[i]? with
 | some x=>decide (0≤x.From)&&(decide (x.From≤x.To)&&(decide (x.To≤2880)&&(match l[i - 1]? with | some y=>decide (i=0) || !(decide (x.From≤kY .i64 (y.To+1))) | none=>E)))
 | none=>G
def Pg(l:Q X5):Y:=(zL l.length).all (Pf l)
theorem ZC{α:Type}{l:Q α}{i:Z}(h0:0<i)(hi:i<l.length)(hl:l.length≤maxLen):ix l (kY .i64 ((i:X) - 1))=O (l[i - 1]'(by omega)):=by
 rw[Az] at hl
 rw[Ak (by omega) (by omega),show(i:X) - 1=((i - 1:Z):X) by omega,Ae (by omega)]
theorem aJ{l:Q X5}(hl:l.length≤maxLen):KJ l=O (Pg l):=by
 unfold KJ Pg;refine Ly (L:=Fu l) l.length (Pf l) hl (fun n i hi=> ?_) (fun n=>by simp[Fu]);have hp:i - 1<l.length:=by omega
 simp only[Fu,Ai,hi,decide_true,if_true,Ae hi,zB,Bw,Pf,zC hi,zC hp];generalize Fu l n (kY .i64 ((i:X)+1))=K
 by_cases h0:i=0
 ·subst h0;have hz:¬(0:X)<((0:Z):X):=by omega
  simp only[hz,decide_false,zD,if_false,decide_true,Bool.true_or];by_cases a1:0≤l[0].From<;>by_cases a2:l[0].From≤l[0].To<;>by_cases a3:l[0].To≤2880<;>by_cases a4:l[0].From≤2880<;>simp[a1,a2,a3,a4]<;>omega
 ·have hz:(0:X)<(i:X):=by omega
  simp only[hz,decide_true,if_true,ZC (by omega) hi hl,zB,h0,decide_false,Bool.false_or];by_cases a1:0≤l[i].From<;>by_cases a2:l[i].From≤l[i].To<;>by_cases a3:l[i].To≤2880<;>by_cases a4:l[i].From≤2880<;>by_cases a5:l[i].From≤kY .i64 (l[i - 1].To+1)<;>simp[a1,a2,a3,a4,a5]<;>omega
theorem Yq{l:Q X5}(hl:l.length≤maxLen):K7 l=O (Pg l):=by
 unfold K7 Pg;refine Ly (L:=Ff l) l.length (Pf l) hl (fun n i hi=> ?_) (fun n=>by simp[Ff]);have hp:i - 1<l.length:=by omega
 simp only[Ff,Ai,hi,decide_true,if_true,Ae hi,zB,Pf,zC hi,zC hp];generalize Ff l n (kY .i64 ((i:X)+1))=K
 have b1:decide (l[i].From<0)= !decide (0≤l[i].From):=by rw[zR]; simp
 have b2:decide (l[i].To<l[i].From)= !decide (l[i].From≤l[i].To):=by rw[zR]; simp
 have b3:decide (2880<l[i].To)= !decide (l[i].To≤2880):=by rw[zR]; simp
 rw[b1,b2,b3];by_cases h0:i=0
 ·subst h0;have hz:¬(0:X)<((0:Z):X):=by omega
  simp only[hz,decide_false,zD,if_false,decide_true,Bool.true_or];cases decide (0≤l[0].From)<;>cases decide (l[0].From≤l[0].To)<;>cases decide (l[0].To≤2880)<;>rfl
 ·have hz:(0:X)<(i:X):=by omega
  simp only[hz,decide_true,if_true,ZC (by omega) hi hl,zB,h0,decide_false,Bool.false_or];cases decide (0≤l[i].From)<;>cases decide (l[i].From≤l[i].To)<;>cases decide (l[i].To≤2880)<;>cases decide (l[i].From≤kY .i64 (l[i - 1].To+1))<;>rfl
def CY(g:Z→Y)(n:Z):Y:=decide (0<n)&&g (n - 1)
def Ry(v:Q X5)(n:X):Q X5:=v.dropLast++ [⟨(v.getLast?.getD ⟨0,0⟩).From,n⟩]
def AW(g:Z→Y):Z→Q X5
 | 0=> []
 | n+1=>if g n=E then(if CY g n=E then Ry (AW g n) (n:X) else AW g n++ [⟨(n:X),(n:X)⟩]) else AW g n
theorem Zo(g:Z→Y)(n:Z):CY g (n+1)=g n:=by simp[CY]
theorem TO(l:Q X5)(x:X5)(n:X):Ry (l++ [x]) n=l++ [⟨x.From,n⟩]:=by simp[Ry]
theorem RM(g:Z→Y):∀n,(AW g n).length≤n∧(CY g n=E→∃l x,AW g n=l++ [x]∧x.To=(n:X) - 1)∧(CY g n=G→AW g n= []∨∃l x,AW g n=l++ [x]∧x.To<(n:X) - 1)
 | 0=>⟨by simp[AW],by simp[CY],fun _=> .inl rfl⟩
 | n+1=>by
  obtain⟨h1,h2,h3⟩:=RM g n;rw[Zo];by_cases hg:g n=E
  ·by_cases ho:CY g n=E
   ·obtain⟨l,x,e,ht⟩:=h2 ho;have ew:AW g (n+1)=l++ [⟨x.From,(n:X)⟩]:=by simp only[AW,hg,if_true,ho,e,TO]
    refine⟨by rw[ew]; rw[e] at h1; simp at h1 ⊢; omega,fun _=>⟨l,_,ew,by simp only; omega⟩,fun h=>by rw[hg] at h; cases h⟩
   ·have ew:AW g (n+1)=AW g n++ [⟨(n:X),(n:X)⟩]:=by simp only[AW,hg,if_true,ho,if_false]; rfl
    refine⟨by rw[ew]; simp; omega,fun _=>⟨_,_,ew,by simp only; omega⟩,fun h=>by rw[hg] at h; cases h⟩
  ·have ew:AW g (n+1)=AW g n:=by simp[AW,hg]
   rw[ew];refine⟨by omega,fun h=>absurd h hg,fun _=> ?_⟩;cases ho:CY g n with
   | true=>
    obtain⟨l,x,e,ht⟩:=h2 ho;exact .inr ⟨l,x,e,by omega⟩
   | false=>
    rcases h3 ho with e|⟨l,x,e,ht⟩
    ·exact .inl e
    ·exact .inr ⟨l,x,e,by omega⟩
theorem bl{g g':Z→Y}:∀n,(∀j,j<n→g j=g' j)→AW g n=AW g' n
 | 0,_=>rfl
 | n+1,h=>by
  have e1:CY g n=CY g' n:=by
   unfold CY;by_cases h0:0<n
   ·rw[h (n - 1) (by omega)]
   ·simp[h0]
  simp only[AW,h n (by omega),e1,bl n fun j hj=>h j (by omega)]
theorem Rh{l:Q X5}{x:X5}(h:l.length≤100000):ix (l++ [x]) (kY .i64 (((l++ [x]).length:X) - 1))=O x∧Int.toNat (kY .i64 (((l++ [x]).length:X) - 1))=l.length:=by
 have e:kY .i64 (((l++ [x]).length:X) - 1)=((l.length:Z):X):=by
  rw[Ak (by simp<;>omega) (by simp<;>omega)];simp
 rw[e];exact⟨by rw[Ae (by simp)]; simp,by simp⟩
theorem xS{L:Q Y}(hl:L.length≤3000):NM L=O (AW (fun i=>L.getD i G) L.length):=by
 unfold NM
 have key:∀(k i n:Z),i+k=L.length→k<n→Ez L n (i:X) (AW (fun i=>L.getD i G) i)=O (AW (fun i=>L.getD i G) L.length):=by
  intro k
  induction k with
  | zero=>
   intro i n hi hn;obtain⟨m,rfl⟩:∃m,n=m+1:=⟨n - 1,by omega⟩;have:i=L.length:=by omega
   subst this;simp[Ez]
  | succ k ih=>
   intro i n hi hn;obtain⟨m,rfl⟩:∃m,n=m+1:=⟨n - 1,by omega⟩;have hlt:i<L.length:=by omega
   have ih':=ih (i+1) m (by omega) (by omega);have hw:=At hlt (show L.length≤maxLen by rw[Az]; omega);obtain⟨w1,w2,w3⟩:=RM (fun i=>L.getD i G) i;have hgi:L.getD i G=L[i]:=by simp[hlt]
   rw[AW] at ih'
   simp only[hgi] at ih'
   simp only[Ez,Ai,hlt,decide_true,if_true,Ae hlt,zB];have hwm:kY .i64 ((i:X) - 1)=(i:X) - 1:=Ak (by omega) (by omega);generalize hwi:AW (fun i=>L.getD i G) i=v at *
   cases hb:L[i] with
   | false=>
    rw[hb] at ih'
    simp only[zD,if_false] at ih' ⊢
    rw[hw];exact ih'
   | true=>
    rw[hb] at ih'
    simp only[if_true] at ih' ⊢
    cases ho:CY (fun i=>L.getD i G) i with
    | true=>
     rw[ho] at ih'
     obtain⟨l,x,rfl,ht⟩:=w2 ho;obtain⟨q1,q2⟩:=Rh (l:=l) (x:=x) (by simp at w1; omega);have hpos:0<(l++ [x]).length:=by simp
     have hpos':decide ((0:X)<((l++ [x]).length:X))=E:=decide_eq_true (by omega);rw[if_pos hpos',q1];simp only[zB,IK,hwm,ht,beq_self_eq_true,if_true,q1,q2];rw[hw];simp only[if_true,TO] at ih'
     simpa using ih'
    | false=>
     rw[ho] at ih'
     simp only[zD,if_false] at ih'
     have fin:∀w:Q X5,w=v→IK (i:X) L w (Ez L m) G=O (AW (fun i=>L.getD i G) L.length):=by
      rintro w rfl
      simp only[IK,zD,if_false];rw[Od (by simp; omega) (by omega),hw];exact ih'
     rcases w3 ho with rfl|⟨l,x,rfl,ht⟩
     ·exact fin [] rfl
     ·obtain⟨q1,q2⟩:=Rh (l:=l) (x:=x) (by simp at w1; omega);have hpos':decide ((0:X)<((l++ [x]).length:X))=E:=decide_eq_true (by simp<;>omega);have hne:(x.To==(i:X) - 1)=G:=by simp<;>omega
      rw[if_pos hpos',q1];simp only[zB,hwm,hne];exact fin _ zA
 exact key L.length 0 bigN (by omega) (BU (by rw[Az]; omega))
theorem rq{a0:X→U Y}{g:Z→Y}(h:∀i:Z,i≤2880→a0 (i:X)=O (g i)):MD a0=O (AW g 2881):=by
 unfold MD
 have key:∀(k i n:Z),i+k=2881→k<n→Fl a0 n (CY g i) (i:X) (AW g i)=O (AW g 2881):=by
  intro k
  induction k with
  | zero=>
   intro i n hi hn;obtain⟨m,rfl⟩:∃m,n=m+1:=⟨n - 1,by omega⟩;have:i=2881:=by omega
   subst this;simp[Fl]
  | succ k ih=>
   intro i n hi hn;obtain⟨m,rfl⟩:∃m,n=m+1:=⟨n - 1,by omega⟩;have hle:decide ((i:X)≤2880)=E:=decide_eq_true (by omega);have ih':=ih (i+1) m (by omega) (by omega);have hw:kY .i64 ((i:X)+1)=((i+1:Z):X):=At (n:=2881) (by omega) (by rw[Az]; omega);obtain⟨w1,w2,w3⟩:=RM g i;rw[Zo,AW] at ih'
   simp only[Fl,hle,if_true,h i (by omega),zB];generalize hwi:AW g i=v at *
   cases hb:g i with
   | false=>
    rw[hb] at ih'
    simp only[zD,if_false,I3] at ih' ⊢
    rw[hw];exact ih'
   | true=>
    rw[hb] at ih'
    simp only[if_true] at ih' ⊢
    cases ho:CY g i with
    | true=>
     rw[ho] at ih'
     obtain⟨l,x,rfl,ht⟩:=w2 ho;obtain⟨q1,q2⟩:=Rh (l:=l) (x:=x) (by simp at w1; omega);simp only[if_true,Ki,q1,zB,I3,q2];rw[hw];simp only[if_true,TO] at ih'
     simpa using ih'
    | false=>
     rw[ho] at ih'
     simp only[zD,if_false] at ih' ⊢
     rw[Od (by simp; omega) (by omega)];obtain⟨q1,q2⟩:=Rh (l:=v) (x:=⟨(i:X),0⟩) (by omega);simp only[Ki,q1,zB,I3,q2];rw[hw];simpa using ih'
 have:=key 2881 0 bigN (by omega) (BU (by rw[Az]; omega));exact this
def Dg(f:Xd)(m:Z):X:=kY .i64 ((KK f.Tide (m:X)).getD 0+((IJ f (m:X)).getD ⟨0,0,0⟩).Low)
theorem YZ{f:Xd}(hf:D9 f=E){m:Z}(hm:m≤2880):∃r x,KK f.Tide (m:X)=O r∧IJ f (m:X)=O x∧Dg f m=kY .i64 (r+x.Low)∧M0 f (m:X)=O (Dg f m):=by
 obtain⟨ht,h0,h6⟩:=oA hf;obtain⟨r,r1,r2⟩:=uF ht (show(0:X)≤(m:X) by omega) (by omega);obtain⟨a,ha,a1,a2⟩:=yi (m:=(m:X)) h0 h6;refine⟨r,_,r1,a2,by simp[Dg,r1,a2],?_⟩;unfold M0;simp[r2,a1,Ae ha,Dg,r1,a2]
theorem uG{f:Xd}(hf:D9 f=E)(lv:X):NK f lv G=O (AW (fun i=>decide (lv≤Dg f i)) 2881):=by
 unfold NK
 have key:∀(k i n:Z),i+k=2881→k<n→GA lv f n G (i:X) ((zL i).map fun j=>decide (lv≤Dg f j))=O (AW (fun i=>decide (lv≤Dg f i)) 2881):=by
  intro k
  induction k with
  | zero=>
   intro i n hi hn;obtain⟨m,rfl⟩:∃m,n=m+1:=⟨n - 1,by omega⟩;have:i=2881:=by omega
   subst this;have hd:decide (((2881:Z):X)≤2880)=G:=by decide
   simp only[GA,hd,zD,if_false];rw[xS (by simp)];simp only[zB,List.length_map,List.length_range];refine congrArg O (bl 2881 fun j hj=> ?_);show(((zL 2881).map fun j=>decide (lv≤Dg f j)).getD j G)=_
   rw[List.getD_eq_getElem?_getD,kA,List.getElem?_range hj];rfl
  | succ k ih=>
   intro i n hi hn;obtain⟨m,rfl⟩:∃m,n=m+1:=⟨n - 1,by omega⟩;have hle:decide ((i:X)≤2880)=E:=decide_eq_true (by omega);have hw:kY .i64 ((i:X)+1)=((i+1:Z):X):=At (n:=2881) (by omega) (by rw[Az]; omega);obtain⟨r,x,e1,e2,e3,_⟩:=YZ hf (show i≤2880 by omega);simp only[GA,hle,if_true,e2,zB,zD,if_false,NL,e1];rw[Od (by simp; omega) (by omega),hw];have:=ih (i+1) m (by omega) (by omega);rw[List.range_succ,kV] at this
   simpa[e3] using this
 have:=key 2881 0 bigN (by omega) (BU (by rw[Az]; omega));exact this
theorem uQ{f:Xd}(hf:D9 f=E)(lv:X):M8 f lv=O (AW (fun i=>decide (lv≤Dg f i)) 2881):=by
 unfold M8;rw[Oe,hf];simp only[zB,if_true];rw[rq (g:=fun i=>decide (lv≤Dg f i)) fun i hi=> ?_]
 ·rfl
 ·obtain⟨_,_,_,_,_,e⟩:=YZ hf hi;simp[PR,e]
theorem bp(g:Z→Y):∀n,∀w∈AW g n,0≤w.From∧w.From≤w.To∧w.To<(n:X)
 | 0,w,h=>by cases h
 | n+1,w,h=>by
  have ih:=bp g n;simp only[AW] at h;split at h
  ·split at h
   ·unfold Ry at h;rcases zV.1 h with h|h
    ·have:=ih w ((List.dropLast_sublist _).subset h); omega
    ·simp only[zS] at h;subst h;cases e:(AW g n).getLast? with
     | none=>simp only[Option.getD_none]; omega
     | some x=>have:=ih x (List.mem_of_getLast? e); simp only[Option.getD_some]; omega
   ·rcases zV.1 h with h|h
    ·have:=ih w h; omega
    ·simp only[zS] at h;subst h;simp only;omega
  ·have:=ih w h; omega
theorem xJ(a1:X)(a0:Q X5)(hl:a0.length≤100000)(hb:0≤a1)(hb2:a1≤2880)(hW:∀w∈a0,0≤w.From∧w.From≤w.To∧w.To<(2881:X)):∃r,Ft a1 a0 bigN 0 []=O r∧Fe a1 a0 bigN 0 []=O r∧r.length≤a0.length∧∀w∈r,0≤w.From∧w.From≤w.To∧w.To+a1≤2880:=by
 have key:∀(k i n:Z) (acc:Q X5),i+k=a0.length→k<n→acc.length≤i→(∀w∈acc,0≤w.From∧w.From≤w.To∧w.To+a1≤2880)→∃r,Ft a1 a0 n (i:X) acc=O r∧Fe a1 a0 n (i:X) acc=O r∧r.length≤a0.length∧∀w∈r,0≤w.From∧w.From≤w.To∧w.To+a1≤2880:=by
  intro k
  induction k with
  | zero=>
   intro i n acc hi hn ha hq;obtain⟨m,rfl⟩:∃m,n=m+1:=⟨n - 1,by omega⟩;have:i=a0.length:=by omega
   subst this;exact⟨acc,by simp[Ft],by simp[Fe],ha,hq⟩
  | succ k ih=>
   intro i n acc hi hn ha hq;obtain⟨m,rfl⟩:∃m,n=m+1:=⟨n - 1,by omega⟩;have hlt:i<a0.length:=by omega
   simp only[Ft,Fe,Ai,hlt,decide_true,if_true,Ae hlt,zB];rw[At hlt (show a0.length≤maxLen by rw[Az]; omega)];by_cases hc:a1≤kY .i64 (a0[i].To - a0[i].From)
   ·simp only[hc,decide_true,if_true];rw[Od (by simp; omega) (by omega),Od (by simp; omega) (by omega)];refine ih (i+1) m _ (by omega) (by omega) (by simp; omega) fun w hw=> ?_
    have hx:=hW _ (zF hlt);rw[Ak (n:=a0[i].To - a0[i].From) (by omega) (by omega)] at hc
    rcases zV.1 hw with hw|hw
    ·exact hq w hw
    ·simp only[zS] at hw
     subst hw;simp only;rw[Ak (by omega) (by omega)];omega
   ·simp only[hc,decide_false,zD,if_false];exact ih (i+1) m _ (by omega) (by omega) (by omega) hq
 exact key a0.length 0 bigN [] (by omega) (BU (by rw[Az]; omega)) (by simp) (fun w h=>by cases h)
theorem xk{f:Xd}{c:X1}{s:X6}{i:X}(hf:D9 f=E)(hn:∀x∈c.Points,x.Name.length≤maxLen)(hs:s.Name.length≤maxLen)(h1:AJ c=E)(h2:Cp s=E)(h3:idx i c.Segments.length=E) :
  ∃r,NF f c i s=O r∧Mj f c i s=O r∧r.length≤2881∧∀w∈r,0≤w.From∧w.From≤w.To∧w.To+AB (As c i) s≤2880:=by
 have hsg:=(ER h1).2.1;have hW:=(RM (fun j=>decide (Jc c i s≤Dg f j)) 2881).1;have hB:=bp (fun j=>decide (Jc c i s≤Dg f j)) 2881
 have hmb:1≤AB (As c i) s∧AB (As c i) s≤480:=by
  obtain⟨_,_,a,b⟩:=(ER h1).2.2 _ (BH h3).2;unfold AB;split
  ·rw[Ak (n:=2*_) (by omega) (by omega)]; omega
  ·omega
 have hmin:M9 c i s=O (AB (As c i) s):=by
  unfold M9;simp only[FF hn,GS hs,h1,h2,zB,if_true,E5,h3,(BH h3).1,Of]
 have hok1:IN c i s=O E:=by
  unfold IN;simp only[DH hn,Ll hs,h1,h2,zB,if_true,CF i (show c.Segments.length≤1000 by omega),h3]
 have hok2:HV c i s=O E:=by
  unfold HV;simp only[FF hn,GS hs,h1,h2,zB,if_true,E5,h3]
 unfold NF Qn Mj;simp only[aC,Oe,hf,zB,if_true,hok1,hok2,xR hn hs h1 h2 h3,rp hn hs h1 h2 h3,uG hf,uQ hf,aF hn hs h1 h2 h3,hmin];generalize AW (fun j=>decide (Jc c i s≤Dg f j)) 2881=W at hW hB
 have hWm:W.length≤maxLen:=by rw[Az]; omega
 unfold Qk PV;simp only[aJ hWm,Yq hWm,zB,Bw,GT];obtain⟨r,r1,r2,r3,r4⟩:=xJ (AB (As c i) s) W (by omega) (by omega) (by omega) hB;by_cases hw:Pg W=E
 ·by_cases hm:(decide (0≤AB (As c i) s)&&decide (AB (As c i) s≤2880))=E
  ·exact⟨r,by simp only[hw,hm,if_true,r1,zB],by simp only[hw,hm,if_true,r2,zB],by omega,r4⟩
  ·exact⟨[],by simp[hw,hm],by simp[hw,hm],by simp,fun w h=>by cases h⟩
 ·exact⟨[],by simp[hw],by simp[hw],by simp,fun w h=>by cases h⟩
theorem sn{n:Z}(h:0<n):∃q,n=q+1:=⟨n - 1,by omega⟩
theorem Aj{n:Z}(h:n≤1000000000000):n≤maxLen:=by rw[Az]; omega
theorem AT{n k b:Z}(h:n≤100000000)(hk:k≤1000)(hb:b≤1000):A3 n k b=E:=by
 have:(n+k)*b≤100001000*1000:=yW (by omega) hb;simp only[A3,decide_eq_true_eq];omega
theorem Bj(P:Z→Z→Prop){len:Z}(hl:len≤maxLen)(h0:∀n,P (n+1) len)(hs:∀n i,i<len→P n (i+1)→P (n+1) i){i:Z}(hi:i≤len):P bigN i:=by
 have key:∀k i n,i+k=len→k<n→P n i:=by
  intro k
  induction k with
  | zero=>
   intro i n h1 h2;obtain⟨q,rfl⟩:=sn (n:=n) (by omega);obtain rfl:i=len:=by omega
   exact h0 q
  | succ k ih=>
   intro i n h1 h2;obtain⟨q,rfl⟩:=sn (n:=n) (by omega);exact hs q i (by omega) (ih _ _ (by omega) (by omega))
 exact key (len - i) i bigN (by omega) (yV (Nat.sub_le _ _) (BU hl))
theorem F1{α R:Type}{L:Z→X→U R}(l:Q α)(p:α→Y)(x K:U R)(hl:l.length≤maxLen)
  (hs:∀(n i:Z) (h:i<l.length),L (n+1) (i:X)=if p l[i]=E then x else L n (kY .i64 ((i:X)+1))) (he:∀n,L (n+1) (l.length:X)=K):L bigN 0=if l.any p=E then x else K:=by
 have:=Bj (fun n i=>L n (i:X)=if(l.drop i).any p=E then x else K) hl (fun n=>by simpa using he n) (fun n i h ih=>by
  simp only[hs n i h,At h hl,ih,zW h,List.any_cons];cases p l[i]<;>simp) (zK _)
 simpa using this
theorem J7{α:Type}{l:Q α}{x:α}(hl:l.length≤maxLen)(h:l.getLast?=O x):ix l (kY .i64 ((l.length:X) - 1))=O x:=by
 have h0:0<l.length:=by cases l with | nil=>cases h | cons=>simp
 rw[show(l.length:X) - 1=((l.length - 1:Z):X) by omega,Ak (by omega) (by rw[Az] at hl; omega),Al,← zX,h]
theorem IZ{i:X}{n:Z}:idx i n=E↔0≤i∧i<(n:X):=by simp[idx]
theorem C7{c:X1}(h:AJ c=E):c.Points.length≤8∧c.Segments.length≤10∧(∀x∈c.Points,x.Name.length≤maxLen)∧∀x∈c.Segments,idx x.A c.Points.length=E∧idx x.B c.Points.length=E:=by
 simp only[AJ,zE,decide_eq_true_eq,yB,kJ] at h;obtain⟨h1,h2,h3,h4⟩:=h;refine⟨h1,h2,fun x hx=> ?_,fun x hx=> ?_⟩
 ·obtain⟨i,hi,rfl⟩:=zN hx;have:=h3 i hi;simp only[H3,zC hi,zE] at this
  exact Aj (by have:=(ut this.1).2; omega)
 ·obtain⟨i,hi,rfl⟩:=zN hx;have:=h4 i hi;simp only[DG,zC hi,zE,decide_eq_true_eq] at this
  exact⟨this.1,this.2.1⟩
theorem FI{c:X1}{s:X6}{i:X}(hc:AJ c=E)(hi:idx i c.Segments.length=E):1≤AB (As c i) s∧AB (As c i) s≤480:=by
 obtain⟨_,_,a,b⟩:=(ER hc).2.2 _ (BH hi).2;unfold AB;split
 ·rw[Ak (n:=2*_) (by omega) (by omega)]; omega
 ·omega
def Bx(h:X4)(a:Xb):Y:=idx a.Ship h.Fleet.length&&(idx a.From h.Chart.Points.length&&(idx a.To h.Chart.Points.length&&(decide (a.From≠a.To)&&(C3 a.Ready&&(decide (a.Ready≤a.Due)&&decide (a.Due≤2880))))))
theorem Tg(h:X4)(a:Xb):K9 h a=O (Bx h a):=by
 unfold K9 Bx;simp only[E5,zB,GT,Dm,LD,C3,QT];cases idx a.Ship h.Fleet.length<;>cases idx a.From h.Chart.Points.length<;>cases idx a.To h.Chart.Points.length<;>simp[bne_iff_ne]
theorem rn{h:X4}(s:HSmall h)(a:Xb):LV h a=O (AP h&&Bx h a):=by
 unfold LV;rw[Yo s,zB,Tg];cases AP h<;>rfl
theorem EE{h:X4}(hh:AP h=E):D9 h.Forecast=E∧AJ h.Chart=E∧Dy h.Fleet=E∧Ji h.Regime=E∧F7 h.Crew=E:=by
 simpa only[AP,zE] using hh
theorem ZZ{h:X4}(s:HSmall h)(a:Xb):Ko h a=O (AP h&&Bx h a):=by
 unfold Ko;rw[aD s,zB];cases hh:AP h with
 | false=>simp
 | true=>
  obtain⟨_,hc,hf,_,_⟩:=EE hh;have h1:=(O1 hf).1;have h2:=(C7 hc).1;simp only[if_true,CF _ (show h.Fleet.length≤1000 by omega),CF _ (show h.Chart.Points.length≤1000 by omega),zB,Bw,Bx,zQ,LD,C3,QT];cases idx a.Ship h.Fleet.length<;>cases idx a.From h.Chart.Points.length<;>cases idx a.To h.Chart.Points.length<;>simp[bne_iff_ne]
theorem jN(a1:Q Xb)(v4:X)(a0:X4)(x6:Xb)(y10:Q Xb)(y11:X)(K:X→U Y):∀n v,Kr a1 v4 a0 x6 y10 y11 K n v=F9 a1 v4 a0 x6 y10 y11 K n v:=by
 intro n
 induction n with
 | zero=>intro v; rfl
 | succ n ih=>intro v; simp only[Kr,F9,ih,BEq.comm (a:=x6.Ship)]
theorem jM{h:X4}(s:HSmall h)(hh:AP h=E)(cs:Q Xb):∀n v,Kq cs h n v=DO cs h n v:=by
 intro n
 induction n with
 | zero=>intro v; rfl
 | succ n ih=>intro v; simp only[Kq,DO,ZZ s,Tg,hh,zQ,jN,funext ih]
theorem jO{h:X4}(s:HSmall h){cs:Q Xb}:∃b,Fo h cs=O b∧Dr h cs=O b∧(b=E→AP h=E∧cs.length≤6∧∀a∈cs,Bx h a=E):=by
 unfold Fo Dr;rw[aD s,Yo s,zB];cases hh:AP h with
 | false=>exact⟨G,rfl,rfl,fun h=>by cases h⟩
 | true=>
  simp only[if_true,funext (jM s hh cs _),zB];by_cases h6:(6:X)<(cs.length:X)
  ·simp only[h6,decide_true,if_true];exact⟨G,zA,zA,fun h=>by cases h⟩
  ·simp only[h6,decide_false,zD,if_false];have hl:cs.length≤maxLen:=Aj (by omega)
   have:=Bj (fun n i=>∃b,DO cs h n (i:X)=O b∧(b=E→∀j (hj:j<cs.length),i≤j→Bx h cs[j]=E)) hl (fun n=>⟨E,by simp[DO],fun _ j h1 h2=>by omega⟩) (fun n i hi ih=>by
    obtain⟨b,e1,e2⟩:=ih;rw[DO];simp only[Ai,hi,decide_true,if_true,Ae hi,zB,Tg,F6 (Nat.le_of_lt hi),yX,kO];cases hok:Bx h cs[i] with
    | false=>exact⟨G,rfl,fun h=>by cases h⟩
    | true=>
     simp only[if_true]
     have e:=F1 (L:=F9 cs (i:X) h cs[i] (cs.take i) ((cs.take i).length:X) (DO cs h n)) (cs.take i) (fun x=>x.Ship==cs[i].Ship) (O G) (DO cs h n (kY .i64 ((i:X)+1))) (Aj (by simp; omega)) (fun m j hj=>by
      rw[F9];simp only[Ai,hj,decide_true,if_true,Ae hj,zB]) fun m=>by rw[F9,if_neg (by simp)]
     rw[e,At hi hl,e1];split
     ·exact⟨G,zA,fun h=>by cases h⟩
     ·refine⟨b,zA,fun hb j h1 h2=> ?_⟩;by_cases hji:j=i
      ·subst hji; exact hok
      ·exact e2 hb j h1 (by omega)) (zK _)
   obtain⟨b,e1,e2⟩:=this
   exact⟨b,e1,e1,fun hb=>⟨trivial,by omega,fun a ha=>by
    obtain⟨j,hj,rfl⟩:=zN ha;exact e2 hb j hj (zK _)⟩⟩
def BR(x:X2)(a:X):X:=if a=x.A then x.B else if a=x.B then x.A else -1
theorem SC(x:X2)(a:X):K6 x a=O (BR x a):=by
 unfold K6 BR;by_cases h1:a=x.A
 ·rw[if_pos (by simpa using h1),if_pos h1]
 ·rw[if_neg (by simpa using h1),if_neg h1];by_cases h2:a=x.B
  ·rw[if_pos (by simpa using h2),if_pos h2]
  ·rw[if_neg (by simpa using h2),if_neg h2]
theorem TA(x:X2)(a:X):NO x a=O (BR x a):=SC x a
theorem W8{c:X1}(hc:AJ c=E){x:X2}(hx:x∈c.Segments)(a:X):BR x a= -1∨idx (BR x a) c.Points.length=E:=by
 obtain⟨h1,h2⟩:=(C7 hc).2.2.2 x hx;unfold BR;split
 ·exact Or.inr h2
 ·split
  ·exact Or.inr h1
  ·exact Or.inl zA
theorem SQ{l:Q X}(hl:l.length≤maxLen)(a:X):KL l a=O (l.any fun x=>x==a):=by
 have:=F1 (L:=IL a l) l (fun x=>x==a) (O E) (O G) hl (fun n i h=>by
  rw[IL];simp only[Ai,h,decide_true,if_true,Ae h,zB]) fun n=>by simp[IL]
 unfold KL;rw[this];cases l.any fun x=>x==a<;>rfl
def E8(y:X8):Q Y:= [y.i0,y.i1,y.i2,y.i3,y.i4,y.i5,y.i6,y.i7]
theorem ZX(y:X8){n:Z}(hn:n<8):E8 (X8.set y n E)=(E8 y).set n E:=by
 have:n=0∨n=1∨n=2∨n=3∨n=4∨n=5∨n=6∨n=7:=by omega
 rcases this with rfl|rfl|rfl|rfl|rfl|rfl|rfl|rfl<;>rfl
def Met(y:X8)(l:Q X):Prop:=∀x:X,0≤x→x<8→ix (E8 y) x=O (l.any fun z=>z==x)
theorem Met.snoc{y:X8}{l:Q X}(H:Met y l){r:X}(h0:0≤r)(h8:r<8):Met (X8.set y r.toNat E) (l++ [r]):=fun x x0 x8=>by
 obtain⟨n,rfl⟩:∃n:Z,r=(n:X):=⟨r.toNat,by omega⟩;obtain⟨m,rfl⟩:∃m:Z,x=(m:X):=⟨x.toNat,by omega⟩;have hl:(E8 y).length=8:=rfl;have hm:=H m x0 x8;rw[Al] at hm
 rw[zP,ZX y (by omega),Al,List.getElem?_set,hm];by_cases e:n=m
 ·subst e;rw[if_pos rfl,if_pos (by omega)];simp
 ·rw[if_neg e];have:((n:X)==(m:X))=G:=beq_eq_false_iff_ne.2 (by omega);simp[this]
structure RtOk (c:X1) (rt l:Q X):Prop where
 len:l.length=rt.length+1
 pt:∀x∈l,idx x c.Points.length=E
 seg:∀i (h:i<rt.length),idx rt[i] c.Segments.length=E
 stp:∀i (h:i<rt.length),∃x,l[i]?=O x∧l[i+1]?=O (BR (As c rt[i]) x)∧0≤BR (As c rt[i]) x
theorem Zz{c:X1}(hc:AJ c=E){rt:Q X}{a:X}(ha:idx a c.Points.length=E)(hl:rt.length≤10000000) :
  ∃l b,GB c a rt=O (l,b)∧Hx c a rt=O (l,b)∧(b=G→l= [])∧(b=E→RtOk c rt l):=by
 obtain⟨hp8,hs10,_,_⟩:=C7 hc;have ha':=IZ.1 ha;have fail:∃l b,(O (([]:Q X),G):U (Q X × Y))=O (l,b)∧(O (([]:Q X),G):U (Q X × Y))=O (l,b)∧(b=G→l= [])∧(b=E→RtOk c rt l):=⟨[],G,rfl,rfl,fun _=>rfl,fun h=>by cases h⟩
 have main:=Bj (fun n i=>∀v5 v7 l,l.getLast?=O v5→l.length=i+1→Met v7 l→(∀x∈l,idx x c.Points.length=E)→
   (∀j (h:j<rt.length),j<i→idx rt[j] c.Segments.length=E∧∃x,l[j]?=O x∧l[j+1]?=O (BR (As c rt[j]) x)∧0≤BR (As c rt[j]) x)→
   ∃l' b,DY rt c n (i:X) l=O (l',b)∧G8 rt c n v5 (i:X) v7 l=O (l',b)∧(b=G→l'= [])∧(b=E→RtOk c rt l')) (len:=rt.length) (Aj (by omega))
  (fun n v5 v7 l h1 h2 h3 h4 h5=>⟨l,E,by simp[DY],by simp[G8],(fun h=>by cases h),fun _=>⟨h2,h4,fun j h=>(h5 j h h).1,fun j h=>(h5 j h h).2⟩⟩)
  (fun n i hi ih v5 v7 l h1 h2 h3 h4 h5=>by
   rw[DY,G8];simp only[Ai,hi,decide_true,if_true,Ae hi,zB,E5,CF _ (show c.Segments.length≤1000 by omega)];cases hx:idx rt[i] c.Segments.length with
   | false=>exact fail
   | true=>
    simp only[if_true,(BH hx).1,zB,J7 (Aj (by omega)) h1,TA,SC];have he:=W8 hc (BH hx).2 v5;have hr:∃r,BR (As c rt[i]) v5=r:=⟨_,rfl⟩;obtain⟨r,hr⟩:=hr;rw[hr] at he ⊢
    by_cases h0:r<0
    ·simp only[h0,decide_true,if_true,Hy,GC];exact fail
    ·have hri:=he.resolve_left (by omega);have hr':=IZ.1 hri;have hd:(decide (0≤r)&&decide (r<8))=E:=by simp; omega
     have hm:=h3 r hr'.1 (by omega);unfold E8 at hm
     simp only[h0,decide_false,zD,if_false,hd,if_true,SQ (Aj (n:=l.length) (by omega)),zB,hm];cases hb:l.any fun z=>z==r with
     | true=>simp only[Hy,GC,if_true]; exact fail
     | false=>
      simp only[Hy,GC,zD,if_false,hd,if_true];rw[if_pos (AT (by omega) (by simp) (by omega)),if_pos (AT (by omega) (by simp) (by omega)),At hi (Aj (by omega))];refine ih r _ _ (by simp) (by simp; omega) (h3.snoc hr'.1 (by omega)) (fun x hx=> ?_) fun j h1' h2'=> ?_
      ·rcases zV.1 hx with hx|hx
       ·exact h4 x hx
       ·simp only[zS] at hx; exact hx▸hri
      ·by_cases hji:j=i
       ·subst hji;refine⟨hx,v5,?_,?_,by rw[hr]; exact hr'.1⟩
        ·rw[zH (by omega),← h1,zX,h2]; rfl
        ·rw[zT (by omega),h2,hr]; simp
       ·obtain⟨g1,x,g2,g3,g4⟩:=h5 j h1' (by omega);exact⟨g1,x,by rw[zH (by omega)]; exact g2,by rw[zH (by omega)]; exact g3,g4⟩) (zK _)
 have hd:(decide (0≤a)&&decide (a<8))=E:=by simp; omega
 unfold GB Hx;rw[E5,ha,zB];simp only[if_true,hd]
 have m0:Met ⟨G,G,G,G,G,G,G,G⟩ []:=fun x x0 x8=>by
  obtain⟨n,rfl⟩:∃n:Z,x=(n:X):=⟨x.toNat,by omega⟩;have:n=0∨n=1∨n=2∨n=3∨n=4∨n=5∨n=6∨n=7:=by omega
  rcases this with rfl|rfl|rfl|rfl|rfl|rfl|rfl|rfl<;>rfl
 exact main a _ [a] rfl zA (m0.snoc ha'.1 (by omega)) (by simpa using ha) fun j _ h=>by omega
theorem ZN{c:X1}(hc:AJ c=E){rt:Q X}{a:X}(hl:rt.length≤10000000) :
  ∃l b,Ey c a rt=O b∧Fb c a rt=O b∧Fs c a rt=O l∧DP c a rt=O l∧(b=G→l= [])∧(b=E→RtOk c rt l):=by
 have hn:=(C7 hc).2.2.1;have h8:=(C7 hc).1;unfold Fs DP Ey Fb;simp only[DH hn,FF hn,hc,zB,if_true,CF _ (show c.Points.length≤1000 by omega)];cases ha:idx a c.Points.length with
 | false=>
  refine⟨[],G,zA,?_,zA,?_,fun _=>rfl,fun h=>by cases h⟩<;>(unfold Hx; rw[E5,ha]; rfl)
 | true=>
  obtain⟨l,b,e1,e2,e3,e4⟩:=Zz hc ha hl;refine⟨l,b,by simp only[if_true,e1,zB],by simp only[e2,zB],?_,by simp only[e2,zB],e3,e4⟩;simp only[if_true,e1,zB];cases b with
  | false=>rw[e3 rfl]; rfl
  | true=>rfl
theorem qj(l:Q X5)(a:X)(hl:l.length≤100000):∃b,Nq l a=O b∧M3 l a=O b∧(b=E→∃w∈l,w.From≤a∧a≤w.To):=by
 have e1:=F1 (L:=Iw a l) l (fun x=>decide (x.From≤a)&&decide (a≤x.To)) (O E) (O G) (Aj (by omega)) (fun n i h=>by
  rw[Iw];simp only[Ai,h,decide_true,if_true,Ae h,zB,Bw]) fun n=>by simp[Iw]
 have e2:=F1 (L:=HG a l) l (fun x=>decide (x.From≤a)&&decide (a≤x.To)) (O E) (O G) (Aj (by omega)) (fun n i h=>by
  rw[HG];simp only[Ai,h,decide_true,if_true,Ae h,zB,Dm]) fun n=>by simp[HG]
 unfold Nq M3;rw[e1,e2];split
 ·rename_i h
  obtain⟨w,w1,w2⟩:=kP.1 h;simp only[zE,decide_eq_true_eq] at w2
  exact⟨E,zA,zA,fun _=>⟨w,w1,w2⟩⟩
 ·exact⟨G,zA,zA,fun h=>by cases h⟩
theorem uu(l:Q X5)(a:X)(hl:l.length≤100000)(hW:∀w∈l,w.From≤w.To):∃r,Nw l a=O r∧Ma l a=O r∧(r<0∨(a≤r∧∃w∈l,w.From≤r∧r≤w.To)):=by
 have hm:l.length≤maxLen:=Aj (by omega);unfold Nw Ma;rw[aJ hm,Yq hm,zB,zB];split
 ·exact Bj (fun n i=>∃r,Iz a l n (i:X)=O r∧HI a l n (i:X)=O r∧(r<0∨(a≤r∧∃w∈l,w.From≤r∧r≤w.To))) hm (fun n=>⟨-1,by simp[Iz],by simp[HI],Or.inl (by omega)⟩) (fun n i h ih=>by
   rw[Iz,HI];simp only[Ai,h,decide_true,if_true,Ae h,zB,At h hm];split
   ·rename_i hd
    simp only[decide_eq_true_eq] at hd
    have hw:=hW _ (zF h);exact⟨_,zA,zA,Or.inr ⟨by split<;>omega,l[i],zF h,by split<;>omega,by split<;>omega⟩⟩
   ·exact ih) (zK _)
 ·exact⟨-1,zA,zA,Or.inl (by omega)⟩
def wt(c:X1)(x:X):Y:=(c.Points[x.toNat]?.getD ⟨[],G⟩).Wait
structure VoyOk (f:Xd) (c:X1) (s:X6) (rt pts:Q X) (v:Xk):Prop where
 ne:rt≠ []
 r:RtOk c rt pts
 ml:v.minutes.length=rt.length
 ul:v.sure.length=rt.length
 m:∀i (h:i<rt.length),v.minutes[i]?=O (AB (As c rt[i]) s)
 w:∀i (h:i<rt.length),∃x,pts[i]?=O x∧v.waits[i]?=O (wt c x)
 u:∀i (h:i<rt.length),∃l,v.sure[i]?=O l∧l.length≤2881∧∀w∈l,0≤w.From∧w.From≤w.To∧w.To+AB (As c rt[i]) s≤2880
 st:Qo f c s rt=O v.sure
theorem A0t{f:Xd}{c:X1}{s:X6}(hf:D9 f=E)(hc:AJ c=E)(hs:Cp s=E)(hsn:s.Name.length≤maxLen){rt pts:Q X}{a:X}(hl:rt.length≤10000000)(hr:RtOk c rt pts)(h0:rt≠ [])
  (e1:Fb c a rt=O E) (e2:DP c a rt=O pts):∃v,HZ f c s a rt=O (v,E)∧VoyOk f c s rt pts v:=by
 have hn:=(C7 hc).2.2.1;have hz:((rt.length:X)==(0:X))=G:=by cases rt with | nil=>exact absurd rfl h0 | cons=>simp; omega
 have hp:=hr.len;have hlen:(pts.take rt.length).length=rt.length:=by simp; omega
 have hlm:rt.length≤maxLen:=Aj (by omega)
 have hspec:=Bj (fun n i=>∀us,us.length=i→∃vs,GF rt f c s n (i:X) us=O (us++vs)∧∀ws ms,ws.length=i→ms.length=i→
   ∃ws' ms',I1 rt f c s (pts.take rt.length) ((pts.take rt.length).length:X) n (i:X) ws ms us=O (⟨ws++ws',ms++ms',us++vs⟩,E)∧ms'.length=rt.length - i∧vs.length=rt.length - i∧
    (∀j (h:j<rt.length),i≤j→ms'[j - i]?=O (AB (As c rt[j]) s)∧(∃x,pts[j]?=O x∧ws'[j - i]?=O (wt c x))∧∃l,vs[j - i]?=O l∧l.length≤2881∧∀w∈l,0≤w.From∧w.From≤w.To∧w.To+AB (As c rt[j]) s≤2880)) hlm
  (fun n us hu=>⟨[],by simp[GF],fun ws ms hw hm=>⟨[],[],by simp[I1,hlen],by simp,by simp,fun j h h'=>by omega⟩⟩)
  (fun n i h ih us hu=>by
   obtain⟨l,l1,l2,l3,l4⟩:=xk (s:=s) hf hn hsn hc hs (hr.seg i h);have hlt':i<(pts.take rt.length).length:=by omega
   have hpi:i<pts.length:=by omega
   have hpt:=hr.pt pts[i] (zF hpi);have hg:(pts.take rt.length)[i]=pts[i]:=by simp
   obtain⟨vs,v1,v2⟩:=ih (us++ [l]) (by simp; omega);refine⟨l::vs,?_,fun ws ms hw hm=> ?_⟩
   ·rw[GF];simp only[Ai,h,decide_true,if_true,Ae h,zB,l1];rw[if_pos (AT (by omega) (by simp) (by omega)),At h hlm,v1];simp
   ·obtain⟨ws',ms',g1,g2,g2',g3⟩:=v2 (ws++ [wt c pts[i]]) (ms++ [AB (As c rt[i]) s]) (by simp; omega) (by simp; omega);refine⟨wt c pts[i]::ws',AB (As c rt[i]) s::ms',?_,by simp; omega,by simp; omega,fun j hj hij=> ?_⟩
    ·rw[I1];simp only[Ai,hlt',decide_true,if_true,Ae hlt',Ae h,hg,zB,(QX (⟨[],G⟩:X7) hpt).1,(BH (hr.seg i h)).1,Of,l2];rw[if_pos (AT (by omega) (by simp) (by omega)),if_pos (AT (by omega) (by simp) (by omega)),if_pos (AT (by omega) (by simp) (by omega)),At h hlm];refine g1.trans ?_;simp
    ·by_cases hji:j=i
     ·subst hji;simp only[Nat.sub_self,yY];exact⟨trivial,⟨_,zC hpi,zA⟩,l,zA,l3,l4⟩
     ·obtain⟨q,hq⟩:∃q,j - i=q+1:=⟨j - i - 1,by omega⟩;have:=g3 j hj (by omega);rw[show j - (i+1)=q by omega] at this
      rw[hq];simpa using this) (zK _)
 obtain⟨vs,v1,v2⟩:=hspec [] rfl;obtain⟨ws',ms',g1,g2,g3,g4⟩:=v2 [] [] rfl rfl;refine⟨⟨ws',ms',vs⟩,?_,h0,hr,by simpa using g2,by simpa using g3,fun i h=>by simpa using(g4 i h (zK _)).1,fun i h=>by simpa using(g4 i h (zK _)).2.1,fun i h=>by simpa using(g4 i h (zK _)).2.2,show GF rt f c s bigN 0 []=O vs by simpa using v1⟩;unfold HZ;simp only[Oe,GS hsn,hf,hs,e1,e2,zB,if_true,I0,hz,zD,if_false];rw[F6 (by omega),zB];simp only[yX,kO];exact g1
structure Sailed (c:X1) (s:X6) (rt:Q X) (st:X) (l:Q X):Prop where
 len:l.length=rt.length
 hd:l[0]?=O st
 sf:∀i (h:i<rt.length),∃y,l[i]?=O y∧0≤y∧y+AB (As c rt[i]) s≤2880
 up:∀i (h:i+1<rt.length),∃x y,l[i]?=O x∧l[i+1]?=O y∧kY .i64 (x+AB (As c rt[i]) s)≤y
theorem wu{f:Xd}{c:X1}{s:X6}(hc:AJ c=E){rt pts:Q X}{v:Xk}(hl:rt.length≤10000000)(H:VoyOk f c s rt pts v)(st:X) :
  ∃l b,KM c s pts rt v.sure st=O (l,b)∧MB v st=O (l,b)∧(b=E→Sailed c s rt st l):=by
 have h0:0<rt.length:=zU.2 H.ne;have hlm:rt.length≤maxLen:=Aj (by omega);obtain⟨l0,u1,u2,u3⟩:=H.u 0 h0;obtain⟨b,b1,b2,b3⟩:=qj l0 st (by omega);have hx:ix v.sure (0:X)=O l0:=by have:=Al v.sure 0; rw[u1] at this; exact this
 unfold KM MB;simp only[hx,zB,b1,b2];cases b with
 | false=>exact⟨[],G,rfl,rfl,fun h=>by cases h⟩
 | true=>
  simp only[if_true]
  refine Bj (fun n i=>∀l,1≤i→l.length=i→l[0]?=O st→(∀j (h:j<rt.length),j<i→∃y,l[j]?=O y∧0≤y∧y+AB (As c rt[j]) s≤2880)→(∀j (h:j+1<rt.length),j+1<i→∃x y,l[j]?=O x∧l[j+1]?=O y∧kY .i64 (x+AB (As c rt[j]) s)≤y)→
   ∃l' b,EA pts rt v.sure c s n (i:X) l=O (l',b)∧Es v n (i:X) l=O (l',b)∧(b=E→Sailed c s rt st l')) hlm
   (fun n l h1 h2 h3 h5 h4=>⟨l,E,by simp[EA],by simp[Es,H.ul],fun _=>⟨h2,h3,fun j h=>h5 j h h,fun j h=>h4 j h h⟩⟩)
   (fun n i h ih l h1 h2 h3 h5 h4=> ?_) (i:=1) (by omega) [st] (by omega) rfl rfl (fun j hj h=> ?_) (fun j _ h=>by omega)
  case refine_2=>
   obtain rfl:j=0:=by omega
   obtain⟨w,w1,w2,w3⟩:=b3 rfl;have:=u3 w w1;exact⟨st,zA,by omega,by omega⟩
  obtain⟨w,g1,g2,g3⟩:=H.u i h;have hu:i<v.sure.length:=by have:=H.ul; omega
  have ew:kY .i64 ((i:X) - 1)=((i - 1:Z):X):=by
   rw[show(i:X) - 1=((i - 1:Z):X) by omega];exact Ak (by omega) (by omega)
  have hi1:i - 1<rt.length:=by omega
  have hil:i - 1<l.length:=by omega
  obtain⟨x,x1,x2⟩:=H.w i h;have hpt:=H.r.pt x (List.mem_of_getElem? x1);obtain⟨r,r1,r2,r3⟩:=uu w (kY .i64 (l[i - 1]+AB (As c rt[i - 1]) s)) (by omega) (fun x hx=>(g3 x hx).2.1);rw[EA,Es];simp only[Ai,h,hu,decide_true,if_true,ew,Ae hil,Ae hi1,Al,H.m _ hi1,(BH (H.r.seg _ hi1)).1,zB,P9,g1,r1,r2,x1,x2,(QX (⟨[],G⟩:X7) hpt).1];have fail:∃l' b,(O (([]:Q X),G):U (Q X × Y))=O (l',b)∧(O (([]:Q X),G):U (Q X × Y))=O (l',b)∧(b=E→Sailed c s rt st l'):=⟨[],G,rfl,rfl,fun h=>by cases h⟩;by_cases hr0:r<0
  ·simp only[hr0,decide_true,if_true,IP,I2];exact fail
  ·obtain⟨hge,w',w1,w2,w3⟩:=r3.resolve_left hr0;have hwb:=g3 w' w1
   have hne:(r !=kY .i64 (l[i - 1]+AB (As c rt[i - 1]) s))=decide (kY .i64 (l[i - 1]+AB (As c rt[i - 1]) s)<r):=by
    rw[LD];by_cases e:r=kY .i64 (l[i - 1]+AB (As c rt[i - 1]) s)
    ·simp[← e]
    ·have:kY .i64 (l[i - 1]+AB (As c rt[i - 1]) s)<r:=by omega
     simp[e,this]
   have go:∃l' b,EA pts rt v.sure c s n (kY .i64 ((i:X)+1)) (l++ [r])=O (l',b)∧Es v n (kY .i64 ((i:X)+1)) (l++ [r])=O (l',b)∧(b=E→Sailed c s rt st l'):=by
    rw[At h hlm];refine ih (l++ [r]) (by omega) (by simp; omega) (by rw[zH (by omega)]; exact h3) (fun j hj1 hj2=> ?_) fun j hj1 hj2=> ?_
    ·by_cases hji:j=i
     ·subst hji;exact⟨r,by rw[zT (by omega),h2]; simp,by omega,by omega⟩
     ·obtain⟨y,q1,q2,q3⟩:=h5 j hj1 (by omega);exact⟨y,by rw[zH (by omega)]; exact q1,q2,q3⟩
    by_cases hji:j+1=i
    ·subst hji;exact⟨l[j],r,by rw[zH (by omega),zC],by rw[zT (by omega),h2]; simp,by simpa using hge⟩
    ·obtain⟨x,y,q1,q2,q3⟩:=h4 j hj1 (by omega);exact⟨x,y,by rw[zH (by omega)]; exact q1,by rw[zH (by omega)]; exact q2,q3⟩
   have hap:A3 l.length [r].length 8=E:=AT (by omega) (by simp) (by omega);simp only[hr0,decide_false,zD,if_false,hne,IP,I2,hap,if_true];split
   ·change ∃l' b,(if(!wt c x)=E then _ else _)=_∧_
    split
    ·exact fail
    ·exact go
   ·exact go
def Ps(c:X1)(s:X6)(sh:X)(rt pts l:Q X)(i:Z)(ps:Q X3):Prop:=
 ps.length=i∧∀j (h:j<rt.length),j<i→∃x y,pts[j]?=O x∧l[j]?=O y∧0≤y∧y≤2880∧ps[j]?=O ⟨sh,rt[j],(As c rt[j]).A==x,y,kY .i64 (y+AB (As c rt[j]) s)⟩
theorem vh{c:X1}{s:X6}(hs:Cp s=E)(hsn:s.Name.length≤maxLen){rt pts l:Q X}{a sh:X}(hl:rt.length≤10000000)(hr:RtOk c rt pts)(hlen:l.length=rt.length)(hS:∀i (h:i<rt.length),∃y,l[i]?=O y∧0≤y∧y≤2880)
  (e1:Ey c a rt=O E) (e2:Fb c a rt=O E) (e3:Fs c a rt=O pts) (e4:DP c a rt=O pts) :
  ∃ps,Ny c sh s a rt l=O ps∧Me c sh s a rt l=O ps∧Ps c s sh rt pts l rt.length ps:=by
 have hlm:rt.length≤maxLen:=Aj (by omega);have hz:((rt.length:X) !=(l.length:X))=G:=by rw[hlen]; simp
 unfold Ny Me;simp only[e1,e2,e3,e4,Ll hsn,GS hsn,hs,zB,if_true,hz,zD,if_false]
 refine Bj (fun n i=>∀ps,Ps c s sh rt pts l i ps→∃ps',IB sh l rt c s pts n (i:X) ps=O ps'∧HJ sh l rt c s pts n (i:X) ps=O ps'∧Ps c s sh rt pts l rt.length ps') hlm
  (fun n ps hp=>⟨ps,by simp[IB],by simp[HJ],hp⟩) (fun n i h ih ps hp=> ?_) (zK _) [] ⟨rfl,fun j _ h=>by omega⟩
 have hi:i<l.length:=by omega
 have hpi:i<pts.length:=by have:=hr.len; omega
 rw[IB,HJ];simp only[Ai,h,decide_true,if_true,Ae h,Ae hi,Ae hpi,(BH (hr.seg i h)).1,zB,Bw,GT,P9,Of,BEq.comm (a:=pts[i])];split
 ·rename_i hm
  simp only[zE,decide_eq_true_eq] at hm
  have hp1:=hp.1;rw[if_pos (AT (by omega) (by simp) (by omega)),if_pos (AT (by omega) (by simp) (by omega)),At h hlm];refine ih _ ⟨by simp; omega,fun j hj1 hj2=> ?_⟩;by_cases hji:j=i
  ·subst hji;exact⟨pts[j],l[j],zC _,zC _,hm.1,hm.2,by rw[zT (by omega),hp1]; simp⟩
  ·obtain⟨x,y,q1,q2,q3,q4,q5⟩:=hp.2 j hj1 (by omega);exact⟨x,y,q1,q2,q3,q4,by rw[zH (by omega)]; exact q5⟩
 ·rename_i hm
  obtain⟨y,y1,y2,y3⟩:=hS i h;rw[zC hi,zG] at y1
  exact absurd (by simp[y1,y2,y3]) hm
theorem ZM{c:X1}(hc:AJ c=E){rt:Q X}(hl:rt.length≤10000000)(hs:∀i (h:i<rt.length),idx rt[i] c.Segments.length=E):∃r,Gz c rt=O r∧Gg c rt=O r∧0≤r:=by
 have hlm:rt.length≤maxLen:=Aj (by omega);have hn:=(C7 hc).2.2.1;have h10:=(C7 hc).2.1;unfold Gz Gg;simp only[DH hn,FF hn,hc,zB,if_true];refine Bj (fun n i=>∀v:X,0≤v→v≤240*(i:X)→∃r,IF rt c n v (i:X)=O r∧HL rt c n v (i:X)=O r∧0≤r) hlm (fun n v h1 h2=>⟨v,by simp[IF],by simp[HL],h1⟩) (fun n i h ih v h1 h2=> ?_) (zK _) 0 (by omega) (by omega);obtain⟨_,_,a,b⟩:=(ER hc).2.2 _ (BH (hs i h)).2;rw[IF,HL];simp only[Ai,h,decide_true,if_true,Ae h,(BH (hs i h)).1,zB,E5,CF _ (show c.Segments.length≤1000 by omega),hs i h,At h hlm];rw[Ak (by omega) (by omega)];exact ih _ (by omega) (by omega)
theorem hI{c:X1}{s:X6}(hc:AJ c=E)(hs:Cp s=E)(hsn:s.Name.length≤maxLen){rt l:Q X}(hl:rt.length≤10000000)(hsg:∀i (h:i<rt.length),idx rt[i] c.Segments.length=E)(hlen:l.length=rt.length)(h0:rt≠ []) :
  ∃r,Ni c s rt l=O r∧LP c s rt l=O r∧∀y,l[rt.length - 1]?=O y→0≤y→y≤2880→∃x,rt[rt.length - 1]?=O x∧r=kY .i64 (y+AB (As c x) s):=by
 obtain⟨m,m1,m2,m3⟩:=ZM hc hl hsg;have hp:0<rt.length:=zU.2 h0;have hz:((rt.length:X)==(0:X))=G:=beq_eq_false_iff_ne.2 (by omega);have hq:((rt.length:X) !=(l.length:X))=G:=by rw[hlen]; simp
 have ew:kY .i64 ((rt.length:X) - 1)=((rt.length - 1:Z):X):=by
  rw[show(rt.length:X) - 1=((rt.length - 1:Z):X) by omega];exact Ak (by omega) (by omega)
 have h1:rt.length - 1<rt.length:=by omega
 have h2:rt.length - 1<l.length:=by omega
 unfold Ni LP;simp only[m1,m2,zB,show decide (m<0)=G by simp; omega,zD,if_false,Ll hsn,GS hsn,hs,if_true,hq,hz,hlen,ew,Ae h1,Ae h2,Bw,GT,(BH (hsg _ h1)).1,P9,Of,bne_self_eq_false];split
 ·refine⟨_,zA,zA,fun y e _ _=>⟨_,zC h1,?_⟩⟩;rw[zC h2,zG] at e
  rw[e]
 ·rename_i hm
  refine⟨-1,zA,zA,fun y e a b=>absurd ?_ hm⟩;rw[zC h2,zG] at e
  simp only[zE,decide_eq_true_eq,e];exact⟨a,b⟩
structure AtOk (h:X4) (a:Xb) (rt:Q X) (st:X) (o:X0):Prop where
 ha:Bx h a=E
 mo:∃pts l,RtOk h.Chart rt pts∧Sailed h.Chart (AN h.Fleet a.Ship) rt st l∧Ps h.Chart (AN h.Fleet a.Ship) a.Ship rt pts l rt.length o.Passages
def AU(c:X1)(s:X6)(rt:Q X):X:=(rt.map fun k=>AB (As c k) s).sum
theorem jm{h:X4}{s:X6}{rt:Q X}{v:Xk}{f:Xd}{pts:Q X}(hc:AJ h.Chart=E)(hl:rt.length≤10000000)(H:VoyOk f h.Chart s rt pts v)(st r:X)(ps:Q X3){c0:X}(h0:AU h.Chart s rt≤c0)(h1:c0≤100000) :
  GL rt h s st r ps bigN 0 c0=O (⟨st,r,c0 - AU h.Chart s rt,ps⟩,decide (r≤2880))∧Gq v st r ps bigN 0 c0=O (⟨st,r,c0 - AU h.Chart s rt,ps⟩,decide (r≤2880)):=by
 have hlm:rt.length≤maxLen:=Aj (by omega)
 have pos:∀l:Q X,(∀x∈l,idx x h.Chart.Segments.length=E)→0≤AU h.Chart s l:=by
  intro l
  induction l with
  | nil=>intro _; simp[AU]
  | cons a l ih=>
   intro hx;have h1:=ih fun x hm=>hx x (yH _ hm)
   have h2:=(FI (s:=s) hc (hx a (yJ ..))).1;have e:AU h.Chart s (a::l)=AB (As h.Chart a) s+AU h.Chart s l:=by simp[AU]
   omega
 have hsg:∀x∈rt,idx x h.Chart.Segments.length=E:=fun x hx=>by
  obtain⟨i,hi,rfl⟩:=zN hx;exact H.r.seg i hi
 have:=Bj (fun n i=>∀c0,AU h.Chart s (rt.drop i)≤c0→c0≤100000→GL rt h s st r ps n (i:X) c0=O (⟨st,r,c0 - AU h.Chart s (rt.drop i),ps⟩,decide (r≤2880))∧Gq v st r ps n (i:X) c0=O (⟨st,r,c0 - AU h.Chart s (rt.drop i),ps⟩,decide (r≤2880))) hlm (fun n c0 _ _=>by
   have e:AU h.Chart s (rt.drop rt.length)=0:=by simp[AU]
   rw[e,Int.sub_zero];exact⟨by simp[GL],by simp[Gq,H.ml]⟩) (fun n i hi ih c0 g0 g1=>by
  have hm:i<v.minutes.length:=by have:=H.ml; omega
  have e:AU h.Chart s (rt.drop i)=AB (As h.Chart rt[i]) s+AU h.Chart s (rt.drop (i+1)):=by rw[zW hi]; rfl
  have hp:=pos (rt.drop (i+1)) fun x hx=>hsg x (List.mem_of_mem_drop hx)
  obtain⟨m1,m2⟩:=FI (s:=s) hc (H.r.seg i hi);rw[GL,Gq];simp only[Ai,hi,hm,decide_true,if_true,Ae hi,Al,H.m i hi,(BH (H.r.seg i hi)).1,zB,P9,At hi hlm];rw[Ak (n:=c0 - _) (by omega) (by omega)];have:=ih (c0 - AB (As h.Chart rt[i]) s) (by omega) (by omega);rw[show c0 - AB (As h.Chart rt[i]) s - AU h.Chart s (rt.drop (i+1))=c0 - AU h.Chart s (rt.drop i) by omega] at this
  exact this) (zK _) c0 (by simpa using h0) h1
 simpa using this
theorem Sailed.sum{c:X1}{s:X6}{rt l:Q X}{st:X}(hc:AJ c=E)(hsg:∀i (h:i<rt.length),idx rt[i] c.Segments.length=E)(H:Sailed c s rt st l):∀k (hk:k<rt.length),∃y,l[k]?=O y∧st+AU c s (rt.take k)≤y:=by
 intro k
 induction k with
 | zero=>intro hk; exact⟨st,H.hd,by simp[AU]⟩
 | succ k ih=>
  intro hk;obtain⟨y,y1,y2⟩:=ih (by omega);obtain⟨u,v,u1,u2,u3⟩:=H.up k hk;obtain⟨z,z1,z2,z3⟩:=H.sf k (by omega);rw[y1,zG] at u1 z1
  subst u1 z1;have hm:=FI (s:=s) hc (hsg k (by omega));rw[Ak (by omega) (by omega)] at u3
  have e:AU c s (rt.take (k+1))=AU c s (rt.take k)+AB (As c rt[k]) s:=by
   rw[zJ (by omega)];unfold AU;rw[kV,List.sum_append];simp
  exact⟨v,u2,by omega⟩
theorem vT{h:X4}{a:Xb}(ha:Bx h a=E)(hc:AJ h.Chart=E)(hso:Cp (AN h.Fleet a.Ship)=E)(hsn:(AN h.Fleet a.Ship).Name.length≤maxLen){rt pts:Q X}{v:Xk}(hl:rt.length≤10000000)
  (V:VoyOk h.Forecast h.Chart (AN h.Fleet a.Ship) rt pts v) (e1:Ey h.Chart a.From rt=O E) (e2:Fb h.Chart a.From rt=O E) (e3:Fs h.Chart a.From rt=O pts) (e4:DP h.Chart a.From rt=O pts)
  {st:X} (hr:a.Ready≤st) (hd:st≤2880):∃l b,KM h.Chart (AN h.Fleet a.Ship) pts rt v.sure st=O (l,b)∧(b=G→∃o,HW h a v rt st=O (o,G))∧
   (b=E→∃o,NS h a rt l=O (o,E)∧HW h a v rt st=O (o,E)∧AtOk h a rt st o∧o.Arrival≤2880∧0≤o.Cost∧o.Cost≤2880∧∀y,l[rt.length - 1]?=O y→∃x,rt[rt.length - 1]?=O x∧o.Arrival=kY .i64 (y+AB (As h.Chart x) (AN h.Fleet a.Ship))):=by
 obtain⟨l,b,b1,b2,b3⟩:=wu hc hl V st;refine⟨l,b,b1,fun hb=> ?_,fun hb=> ?_⟩
 ·subst hb;exact⟨⟨0,0,0,[]⟩,by simp only[HW,b2,zB,zD,if_false]⟩
 ·subst hb;have S:=b3 rfl;have ha':=ha;simp only[Bx,C3,zE,decide_eq_true_eq] at ha'
  obtain⟨q1,_,_,_,⟨q5,_⟩,_⟩:=ha';obtain⟨s1,s2⟩:=J2 q1
  have hsS:∀i (h':i<rt.length),∃y,l[i]?=O y∧0≤y∧y≤2880:=fun i h'=>by
   obtain⟨y,y1,y2,y3⟩:=S.sf i h';have:=(FI (s:=AN h.Fleet a.Ship) hc (V.r.seg i h')).1;exact⟨y,y1,y2,by omega⟩
  obtain⟨ps,p1,p2,p3⟩:=vh (sh:=a.Ship) hso hsn hl V.r S.len hsS e1 e2 e3 e4;obtain⟨r,r1,r2,r3⟩:=hI hc hso hsn hl V.r.seg S.len V.ne;have hp:=zU.2 V.ne;have hlt:rt.length - 1<rt.length:=by omega
  obtain⟨y,y1,y2,y3⟩:=S.sf _ hlt;have hm:=FI (s:=AN h.Fleet a.Ship) hc (V.r.seg _ hlt);obtain⟨x,x1,x2⟩:=r3 y y1 y2 (by omega);rw[zC hlt,zG] at x1
  rw[← x1,Ak (by omega) (by omega)] at x2
  obtain⟨z,z1,z2⟩:=S.sum hc V.r.seg _ hlt;rw[y1,zG] at z1
  subst z1
  have es:AU h.Chart (AN h.Fleet a.Ship) rt=AU h.Chart (AN h.Fleet a.Ship) (rt.take (rt.length - 1))+AB (As h.Chart rt[rt.length - 1]) (AN h.Fleet a.Ship):=by
   have e:rt=rt.take (rt.length - 1)++ [rt[rt.length - 1]]:=by
    rw[← zJ hlt,show rt.length - 1+1=rt.length by omega,yF]
   have:∀u w:Q X,AU h.Chart (AN h.Fleet a.Ship) (u++w)=AU h.Chart (AN h.Fleet a.Ship) u+AU h.Chart (AN h.Fleet a.Ship) w:=fun u w=>by simp[AU]
   rw[congrArg (AU h.Chart (AN h.Fleet a.Ship)) e,this];simp[AU]
  obtain⟨c1,c2⟩:=jm hc hl V st r ps (c0:=r - a.Ready) (by omega) (by omega);have ew:kY .i64 (r - a.Ready)=r - a.Ready:=Ak (by omega) (by omega);have hx0:ix l (0:X)=O st:=by have:=Al l 0; rw[S.hd] at this; exact this
  have hpos:0≤AU h.Chart (AN h.Fleet a.Ship) rt:=by
   have:∀w:Q X,(∀x∈w,idx x h.Chart.Segments.length=E)→0≤AU h.Chart (AN h.Fleet a.Ship) w:=by
    intro w
    induction w with
    | nil=>intro _; simp[AU]
    | cons u w ih=>
     intro hx;have h1:=ih fun x hm=>hx x (yH _ hm)
     have h2:=(FI (s:=AN h.Fleet a.Ship) hc (hx u (yJ ..))).1;have e:AU h.Chart (AN h.Fleet a.Ship) (u::w)=AB (As h.Chart u) (AN h.Fleet a.Ship)+AU h.Chart (AN h.Fleet a.Ship) w:=by simp[AU]
     omega
   exact this rt fun x hx=>by
    obtain⟨i,hi,rfl⟩:=zN hx;exact V.r.seg i hi
  have hd28:decide (r≤2880)=E:=by simp; omega
  refine⟨⟨st,r,r - a.Ready - AU h.Chart (AN h.Fleet a.Ship) rt,ps⟩,?_,?_,⟨ha,pts,l,V.r,S,p3⟩,by simp only; omega,by simp only; omega,by simp only; omega,fun y' h'=> ?_⟩
  ·simp only[NS,s1,zB,hx0,r1,p1,ew,c1,hd28]
  ·simp only[HW,b2,if_true,s1,zB,r2,p2,ew,c2,hd28]
  ·rw[y1,zG] at h'
   subst h';exact r3 y y1 y2 (by omega)
structure GoodP (c:X1) (fl:Q X6) (l:Q X3):Prop where
 ne:l≠ []
 inn:∀p∈l,C6 c fl p=E
 ship:∃sh,∀p∈l,p.Ship=sh
 link:∀j (h:j+1<l.length),(Ck c l[j+1]).1=(Ck c l[j]).2∧l[j].End≤l[j+1].Start
theorem nE{s:X2}{x:X}(h:0≤BR s x):(if(s.A==x)=E then(s.A,s.B) else(s.B,s.A))=(x,BR s x):=by
 unfold BR at *
 by_cases h1:s.A=x
 ·subst h1; simp
 ·have h1':¬x=s.A:=fun e=>h1 e.symm
  by_cases h2:x=s.B
  ·subst h2; simp[h1,h1']
  ·simp[h1',h2] at h
theorem AtOk.good{h:X4}{a:Xb}{st:X}{o:X0}(hh:AP h=E)(H:AtOk h a (o.Passages.map fun p=>p.Segment) st o):GoodP h.Chart h.Fleet o.Passages:=by
 obtain⟨ha,pts,l,hr,S,hp⟩:=H;obtain⟨_,hc,hfl,_,_⟩:=EE hh;simp only[Bx,zE] at ha
 have hne:o.Passages≠ []:=fun e=>by
  have h1:=S.hd;have h2:=S.len;rw[e] at h2
  cases l with
  | nil=>cases h1
  | cons=>simp at h2
 obtain⟨_,hp⟩:=hp;generalize hps:o.Passages=ps at *
 have hlen:(ps.map fun p=>p.Segment).length=ps.length:=by simp
 have hpos:0<ps.length:=zU.2 hne
 have at_:∀j (hj:j<ps.length),∃x y,pts[j]?=O x∧l[j]?=O y∧0≤y∧y≤2880∧idx ps[j].Segment h.Chart.Segments.length=E∧ps[j]=⟨a.Ship,ps[j].Segment,(As h.Chart ps[j].Segment).A==x,y,y+AB (As h.Chart ps[j].Segment) (AN h.Fleet a.Ship)⟩:=fun j hj=>by
  obtain⟨x,y,q1,q2,q3,q4,q5⟩:=hp j (by omega) (by omega);have hs:=hr.seg j (by omega);simp only[kQ] at hs q5
  obtain⟨m1,m2⟩:=FI (s:=AN h.Fleet a.Ship) hc hs;rw[Ak (by omega) (by omega),zC hj,zG] at q5
  exact⟨x,y,q1,q2,q3,q4,hs,q5⟩
 have up:∀j (hj:j+1<ps.length),ps[j].End≤ps[j+1].Start:=fun j hj=>by
  obtain⟨x,y,_,q2,q3,q4,q5,q6⟩:=at_ j (by omega);obtain⟨x',y',_,r2,_,_,_,r6⟩:=at_ (j+1) hj;obtain⟨u,v,s1,s2,s3⟩:=S.up j (by omega);rw[q2,zG] at s1
  rw[r2,zG] at s2
  subst s1 s2;simp only[kQ] at s3
  obtain⟨m1,m2⟩:=FI (s:=AN h.Fleet a.Ship) hc q5;rw[Ak (by omega) (by omega)] at s3
  rw[q6,r6];exact s3
 refine⟨hne,fun p hpm=> ?_,⟨a.Ship,fun p hpm=> ?_⟩,fun j hj=>⟨?_,up j hj⟩⟩
 ·obtain⟨j,hj,rfl⟩:=zN hpm;obtain⟨x,y,q1,q2,q3,q4,q5,q6⟩:=at_ j hj;obtain⟨m1,m2⟩:=FI (s:=AN h.Fleet a.Ship) hc q5
  have hend:y+AB (As h.Chart ps[j].Segment) (AN h.Fleet a.Ship)≤2880:=by
   obtain⟨z,z1,_,z3⟩:=S.sf j (by omega);rw[q2,zG] at z1
   subst z1;simpa using z3
  rw[q6];simp only[C6,C3,zE,decide_eq_true_eq];exact⟨ha.1,q5,⟨q3,q4⟩,hend,(Ak (by omega) (by omega)).symm⟩
 ·obtain⟨j,hj,rfl⟩:=zN hpm;obtain⟨x,y,q1,q2,q3,q4,q5,q6⟩:=at_ j hj;rw[q6]
 ·have e:∀j (hj:j<ps.length),∃x,pts[j]?=O x∧0≤BR (As h.Chart ps[j].Segment) x∧pts[j+1]?=O (BR (As h.Chart ps[j].Segment) x)∧Ck h.Chart ps[j]=(x,BR (As h.Chart ps[j].Segment) x):=fun j hj=>by
   obtain⟨x,y,q1,q2,q3,q4,q5,q6⟩:=at_ j hj;obtain⟨x',t1,t2,t3⟩:=hr.stp j (by omega);simp only[kQ] at t2 t3
   rw[q1,zG] at t1
   subst t1;refine⟨x,q1,t3,t2,?_⟩;rw[← nE t3];have ht:ps[j].Toward=((As h.Chart ps[j].Segment).A==x):=by rw[q6]
   unfold Ck;rw[ht]
  obtain⟨x,_,_,g3,g4⟩:=e j (by omega);obtain⟨x',k1,_,_,k4⟩:=e (j+1) hj;rw[g3,zG] at k1
  rw[g4,k4,k1]
def Ec(a b g:X):Y:=decide (a - b<g∧b - a<g)
def Ed(p q:X3):Y:=decide (p.Start<q.End∧q.Start<p.End)
def DN(c:X1)(r:Xh)(p q:X3):Y:=
 decide (p.Segment=q.Segment)&&(if p.Ship=q.Ship then Ed p q else if p.Toward=q.Toward then(Ec p.Start q.Start r.Gap || (Ec p.End q.End r.Gap || decide ((p.Start<q.Start∧q.End<p.End)∨(q.Start<p.Start∧p.End<q.End)))) else Ed p q&&(r.NoMeet || !(As c p.Segment).Meet))
theorem VZ(c:X1)(r:Xh)(p q:X3):DN c r p q=DN c r q p:=by
 have n:∀a b g,Ec a b g=Ec b a g:=fun a b g=>by unfold Ec; congr 1; exact propext And.comm
 have v:Ed p q=Ed q p:=by unfold Ed; congr 1; exact propext And.comm
 unfold DN;by_cases e:p.Segment=q.Segment
 ·simp only[e,n q.Start,n q.End,← v,eq_comm (a:=q.Ship),eq_comm (a:=q.Toward),or_comm (a:=q.Start<p.Start∧p.End<q.End)]
 ·have e':¬q.Segment=p.Segment:=fun h=>e h.symm
  simp[e,e']
theorem aN{a b g:X}(a0:0≤a)(a1:a≤2880)(b0:0≤b)(b1:b≤2880):KO a b g=O (Ec a b g):=by
 unfold KO NP Ec;by_cases h:b<a
 ·have h':¬a<b:=by omega
  simp only[h,h',if_true,if_false,show ¬b<0 by omega,decide_false,zD,Ak (n:=a - b) (by omega) (by omega),zG,decide_eq_decide];omega
 ·simp only[h,if_false,show ¬a<0 by omega,decide_false,zD,zG,decide_eq_decide];by_cases h':a<b
  ·simp only[h',if_true,Ak (n:=b - a) (by omega) (by omega)]; omega
  ·simp only[h',if_false,Ak (n:=a - a) (by omega) (by omega)]; omega
theorem Yv{a b g:X}(a0:0≤a)(a1:a≤2880)(b0:0≤b)(b1:b≤2880)(g0:0≤g)(g1:g≤60):Kg a b g=O (Ec a b g):=by
 unfold Kg Ec;rw[EX g0 (by omega)];by_cases h:b<a
 ·have h':¬a<b:=by omega
  simp only[h,h',if_true,if_false,EX (n:=a) (by omega) (by omega),EX (n:=b) (by omega) (by omega),EX (n:=a - b) (by omega) (by omega),zG,decide_eq_decide];omega
 ·by_cases h':a<b
  ·simp only[h,h',if_true,if_false,EX (n:=a) (by omega) (by omega),EX (n:=b) (by omega) (by omega),EX (n:=b - a) (by omega) (by omega),zG,decide_eq_decide];omega
  ·simp only[h,h',if_true,if_false,EX (n:=a) (by omega) (by omega),EX (n:=a - a) (by omega) (by omega),zG,decide_eq_decide];omega
theorem vY{p q:X3}(hp:p.Start<p.End)(hq:q.Start<q.End):KG p q=O (Ed p q)∧K2 p q=O (Ed p q):=by
 have:decide ((if p.Start<q.Start then q.Start else p.Start)<(if q.End<p.End then q.End else p.End))=Ed p q:=by
  unfold Ed;rw[decide_eq_decide];split<;>split<;>omega
 unfold KG K2;rw[this];exact⟨zA,zA⟩
theorem W0{c:X1}{fl:Q X6}{r:Xh}(hc:AJ c=E)(hr:Ji r=E){p q:X3}(hp:C6 c fl p=E)(hq:C6 c fl q=E) :
  (∃n,Nm c r p q=O n∧(n !=0)=DN c r p q)∧∃n,Mp c r p q=O n∧(n !=0)=DN c r p q:=by
 obtain⟨_,p2,p3,p4,p5⟩:=DE hc hp;obtain⟨_,q2,q3,q4,q5⟩:=DE hc hq;have hn:=(C7 hc).2.2.1;have h10:=(C7 hc).2.1;have hr':=hr;simp only[Ji,zE,decide_eq_true_eq] at hr'
 obtain⟨o1,o2⟩:=vY (OZ hc hp) (OZ hc hq);have n1:=aN (a:=p.Start) (b:=q.Start) (g:=r.Gap) (by omega) (by omega) (by omega) (by omega);have n2:=aN (a:=p.End) (b:=q.End) (g:=r.Gap) (by omega) (by omega) (by omega) (by omega);have m1:=Yv (a:=p.Start) (b:=q.Start) (g:=r.Gap) (by omega) (by omega) (by omega) (by omega) hr'.1 hr'.2;have m2:=Yv (a:=p.End) (b:=q.End) (g:=r.Gap) (by omega) (by omega) (by omega) (by omega) hr'.1 hr'.2;have hreg:IE r=O E:=by simp only[IE,Bw,zB]; exact congrArg O hr
 unfold Nm Mp Mq Mr HS Ms DN;simp only[DH hn,hc,hreg,zB,if_true,CF _ (show c.Segments.length≤1000 by omega),p2,E5,o1,o2,n1,n2,m1,m2,(BH p2).1,kX,zD,if_false];by_cases e1:p.Segment=q.Segment
 ·by_cases e2:p.Ship=q.Ship
  ·cases ho:Ed p q<;>simp[e1,e2]
  ·by_cases e3:p.Toward=q.Toward
   ·cases h1:Ec p.Start q.Start r.Gap<;>cases h2:Ec p.End q.End r.Gap<;>simp[e1,e2,e3];by_cases g1:p.Start<q.Start<;>by_cases g2:q.End<p.End<;>by_cases g3:q.Start<p.Start<;>by_cases g4:p.End<q.End<;>simp[g1,g2,g3,g4]<;>omega
   ·cases ho:Ed p q<;>cases hm:r.NoMeet<;>cases hs:(As c p.Segment).Meet<;>simp[e1,e2,e3]<;>simp_all
 ·simp[e1]
def Bf(c:X1)(r:Xh)(a b:Q X3):Y:=a.any fun p=>b.any fun q=>DN c r p q
theorem jZ(c:X1)(r:Xh)(a b:Q X3):Bf c r a b=Bf c r b a:=by
 rw[zR];simp only[Bf,kP];constructor
 ·rintro⟨p,hp,q,hq,h⟩
  exact⟨q,hq,p,hp,by rw[VZ]; exact h⟩
 ·rintro⟨p,hp,q,hq,h⟩
  exact⟨q,hq,p,hp,by rw[VZ]; exact h⟩
theorem Sn{c:X1}{fl:Q X6}{r:Xh}(hc:AJ c=E)(hr:Ji r=E){a b:Q X3}(ha:∀p∈a,C6 c fl p=E)(hb:∀p∈b,C6 c fl p=E)(la:a.length≤maxLen)(lb:b.length≤maxLen) :
  Ew c r a b=O (Bf c r a b)∧Eo c r a b=O (Bf c r a b):=by
 have fin:∀x:Y,(if x=E then O E else O G)=O x:=fun x=>by cases x<;>rfl
 constructor
 ·have:=F1 (L:=Fp b a c r) a (fun p=>b.any fun q=>DN c r p q) (O E) (O G) la (fun n i h=>by
   rw[Fp];simp only[Ai,h,decide_true,if_true,Ae h,zB]
   exact F1 (L:=Iq b a (i:X) c r a[i] (Fp b a c r n)) b (fun q=>DN c r a[i] q) (O E) (Fp b a c r n (kY .i64 ((i:X)+1))) lb (fun m j hj=>by
    obtain⟨x,x1,x2⟩:=(W0 hc hr (ha _ (zF h)) (hb _ (zF hj))).1;rw[Iq];simp only[Ai,hj,decide_true,if_true,Ae hj,zB,x1,x2]) fun m=>by rw[Iq,if_neg (by simp)]) fun n=>by rw[Fp,if_neg (by simp)]
  unfold Ew;rw[this,fin];rfl
 ·have:=F1 (L:=Fg b a c r) a (fun p=>b.any fun q=>DN c r p q) (O E) (O G) la (fun n i h=>by
   rw[Fg];simp only[Ai,h,decide_true,if_true,Ae h,zB]
   exact F1 (L:=HR b a (i:X) c r a[i] (Fg b a c r n)) b (fun q=>DN c r a[i] q) (O E) (Fg b a c r n (kY .i64 ((i:X)+1))) lb (fun m j hj=>by
    obtain⟨x,x1,x2⟩:=(W0 hc hr (ha _ (zF h)) (hb _ (zF hj))).2;rw[HR];simp only[Ai,hj,decide_true,if_true,Ae hj,zB,x1,x2]) fun m=>by rw[HR,if_neg (by simp)]) fun n=>by rw[Fg,if_neg (by simp)]
  unfold Eo;rw[this,fin];rfl
theorem YR{B C:Z→Z→Y}{N M n m:Z}(h:N≤M)(e:∀i j,i<N→j<N→B i j=C i j)(H:Cc B (2 ^ N - 1) n)(K:Cc C (2 ^ M - 1) m):n≤m:=by
 obtain⟨f,f1,f2⟩:=K.1
 have b:∀i,(2 ^ N - 1).testBit i=E→i<N∧(2 ^ M - 1).testBit i=E:=fun i hi=>by
  rw[yN,decide_eq_true_eq] at hi
  exact⟨hi,by rw[yN,decide_eq_true_eq]; omega⟩
 exact H.2 m ⟨f,fun i hi=>f1 i (b i hi).2,fun i j hi hj hne he=>by rw[e i j (b i hi).1 (b j hj).1]; exact f2 i j (b i hi).2 (b j hj).2 hne he⟩
theorem VH{p:X}{m:Q X}{l k:Q Xa}{i j:Z}(hi:i<l.length)(hj:j<l.length):B2 p m l i j=B2 p m (l++k) i j:=by
 unfold B2;rw[zH hi,zH hj]
theorem JK{p:X}{m:Q X}{l:Q Xa}(hm:m.length≤maxLen)(h1:l.length≤12)(h2:∀d∈l,Bh d=E)(h3:C3 p=E)(h4:EL m=E) :
  ∃n:Z,Cc (B2 p m l) (2 ^ l.length - 1) n∧(∃w,Ix p m l=O (w,(n:X),E))∧∀k:X,Gk p m l k=O (decide ((n:X)≤k)):=by
 obtain⟨n,w1,w2,n12,n1,e1,e2⟩:=gV hm (gf h1 h2 h3 h4);refine⟨n,n1,⟨w1,e1⟩,fun k=> ?_⟩;have hn:n≤l.length:=n1.2 _ (PH (by have:=kK (n:=l.length) (show 0<2 by omega); omega));unfold Gk;by_cases hk:(l.length:X)≤k
 ·have:(n:X)≤k:=by omega
  simp[hk,this]
 ·simp[hk,e2]
section
variable {c : X1} {fl : Q X6}
def BL(c:X1)(fl:Q X6)(all:Q X3):Q Xa:=all.flatMap fun p=>zI (AN fl p.Ship).Tugs.toNat (CA c p p)
def H9(l:Q Xa):Q Xa × Y:=if l.length≤12 then(l,E) else([],G)
theorem bN(hn:∀x∈c.Points,x.Name.length≤maxLen)(hf:∀x∈fl,x.Name.length≤maxLen)(hc:AJ c=E)(hfl:Dy fl=E){all:Q X3}(hl:all.length≤maxLen)(hp:∀p∈all,C6 c fl p=E) :
  Qq c fl all=O (H9 (BL c fl all))∧MA c fl all=O (H9 (BL c fl all)):=by
 refine Bj (fun n i=>∀acc:Q Xa,acc.length≤12→Fz fl all c n (i:X) acc=O (H9 (acc++BL c fl (all.drop i)))∧Fj fl all c n (i:X) acc=O (H9 (acc++BL c fl (all.drop i)))) hl
  (fun n acc ha=>by simp[Fz,Fj,BL,H9,ha]) (fun n i h ih acc ha=> ?_) (zK _) [] (by simp)
 have hpi:=hp _ (zF h);obtain⟨f1,f2,f3,f4,f5⟩:=DE hc hpi;obtain⟨s1,s2⟩:=J2 f1;have hso:=(O1 hfl).2 _ s2
 have hT:0≤(AN fl all[i].Ship).Tugs∧(AN fl all[i].Ship).Tugs≤4:=by
  simp only[Cp,zE,decide_eq_true_eq] at hso
  omega
 have hTe:(AN fl all[i].Ship).Tugs=((AN fl all[i].Ship).Tugs.toNat:X):=by omega
 have hd:BL c fl (all.drop i)=zI (AN fl all[i].Ship).Tugs.toNat (CA c all[i] all[i])++BL c fl (all.drop (i+1)):=by
  rw[zW h]; rfl
 rw[Fz,Fj,hd];simp only[Ai,h,decide_true,if_true,Ae h,zB,aG hn hf hc hfl,ru hn hf hc hfl,hpi,P8 f2,s1];generalize (AN fl all[i].Ship).Tugs.toNat=T at *
 have g1:=A0e (c:=c) (p:=all[i]) s1 f2 all (i:X) (Fz fl all c n) hTe (by omega) T 0 bigN acc (by omega) (by rw[BD]; omega) (by omega);have g2:=A0d (c:=c) (fl:=fl) (p:=all[i]) f2 all (i:X) (Fj fl all c n) hTe (by omega) T 0 bigN acc (by omega) (by rw[BD]; omega) (by omega);have g1:GK fl (Ck c all[i]) all (i:X) c all[i] (Fz fl all c n) bigN 0 acc=_:=g1;have g2:Gr fl all (i:X) (AN fl all[i].Ship) c all[i] (Fj fl all c n) bigN 0 acc=_:=g2;rw[g1,g2,← yL,At h hl];generalize acc++zI T (CA c all[i] all[i])=ac2 at ih ⊢
 by_cases h12:(12:X)<(ac2.length:X)
 ·have:¬ac2.length+(BL c fl (all.drop (i+1))).length≤12:=by omega
  simp[h12,H9,this]
 ·simp only[h12,decide_false,zD,if_false];exact ih ac2 (by omega)
theorem U7(hc:AJ c=E){all:Q X3}(hp:∀p∈all,C6 c fl p=E):∀d∈BL c fl all,Bh d=E:=fun d hd=>by
 obtain⟨p,hpm,hd⟩:=List.mem_flatMap.1 hd;rw[(List.mem_replicate.1 hd).2];have:=DE hc (hp p hpm);exact W6 hc this.2.1 this.2.1 this.2.2.1 (OZ hc (hp p hpm)) this.2.2.2.2
def ED(l:Q X3):X3:=l.head?.getD ⟨0,0,G,0,0⟩
def GW(l:Q X3):X3:=l.getLast?.getD ⟨0,0,G,0,0⟩
def BP(c:X1)(pl:Q X0):Q Xa:=pl.map fun o=>CA c (ED o.Passages) (GW o.Passages)
theorem SD{l:Q X3}(h:l≠ []):l.head?=O (ED l)∧l.getLast?=O (GW l):=by
 cases l with
 | nil=>exact absurd rfl h
 | cons a l=>
  refine⟨zA,?_⟩;unfold GW;cases e:(a::l).getLast? with
  | none=>rw[kM] at e; cases e
  | some x=>rfl
theorem GoodP.duty{l:Q X3}(hc:AJ c=E)(H:GoodP c fl l):C6 c fl (ED l)=E∧C6 c fl (GW l)=E∧Bh (CA c (ED l) (GW l))=E:=by
 obtain⟨e1,e2⟩:=SD H.ne;have i1:=H.inn _ (List.mem_of_head? e1);have i2:=H.inn _ (List.mem_of_getLast? e2);have f1:=DE hc i1;have f2:=DE hc i2;have hpos:=zU.2 H.ne
 have hlt:∀j (h:j<l.length),(l[0]'hpos).Start<l[j].End:=by
  intro j
  induction j with
  | zero=>intro h; exact OZ hc (H.inn _ (zF h))
  | succ j ih=>
   intro h;have g1:=ih (by omega);have g2:=(H.link j h).2;have g3:=OZ hc (H.inn _ (zF h));omega
 have s1:l[0]'hpos=ED l:=by rw[kC,zC hpos] at e1; exact kW e1
 have s2:l[l.length - 1]'(by omega)=GW l:=by rw[zX,zC (by omega)] at e2; exact kW e2
 have:=hlt (l.length - 1) (by omega);rw[s1,s2] at this
 exact⟨i1,i2,W6 hc f1.2.1 f2.2.1 f1.2.2.1 this f2.2.2.2.2⟩
theorem vp(hn:∀x∈c.Points,x.Name.length≤maxLen)(hf:∀x∈fl,x.Name.length≤maxLen)(hc:AJ c=E)(hfl:Dy fl=E){l:Q X3}(hl:l.length≤100000000)(H:GoodP c fl l):Nz c fl l=O (CA c (ED l) (GW l),E):=by
 have hlm:l.length≤maxLen:=Aj (by omega);have hpos:=zU.2 H.ne;have h10:=(C7 hc).2.1;obtain⟨e1,e2⟩:=SD H.ne;obtain⟨i1,i2,_⟩:=H.duty hc;have h00:ix l (0:X)=O (ED l):=by have:=Al l 0; rw[← kC,e1] at this; exact this
 obtain⟨sh,hsh⟩:=H.ship
 have chain:Nr c l=O E:=by
  unfold Nr;rw[DH hn,hc,zB,if_pos rfl];refine Bj (fun n i=>Gw l c n (i:X)=O E) hlm (fun n=>by simp[Gw]) (fun n i h ih=> ?_) (zK _);have hs:=(DE hc (H.inn _ (zF h))).2.1;have hq:(l[i].Ship !=(ED l).Ship)=G:=by rw[hsh _ (zF h),hsh _ (List.mem_of_head? e1)]; simp
  rw[Gw];simp only[Ai,h,decide_true,if_true,Ae h,h00,zB,hq,zD,if_false,CF _ (show c.Segments.length≤1000 by omega),hs,At h hlm,ih];cases i with
  | zero=>rfl
  | succ i=>
   have hz:(((i+1:Z):X)==(0:X))=G:=beq_eq_false_iff_ne.2 (by omega)
   have ew:kY .i64 (((i+1:Z):X) - 1)=(i:X):=by
    rw[show((i+1:Z):X) - 1=(i:X) by omega];exact Ak (by omega) (by omega)
   have hi:i<l.length:=by omega
   have hs':=(DE hc (H.inn _ (zF hi))).2.1;obtain⟨k1,k2⟩:=H.link i h;have hx:¬l[i+1].Start<l[i].End:=by omega
   simp only[hz,zD,if_false,P8 hs,ew,Ae hi,zB,P8 hs',k1,bne_self_eq_false,hx,decide_false]
 unfold Nz NA;have hz:((l.length:X)==(0:X))=G:=beq_eq_false_iff_ne.2 (by omega);simp only[hz,zD,if_false,chain,zB,kX];refine Bj (fun n i=>IC fl l c n (i:X)=O (CA c (ED l) (GW l),E)) hlm (fun n=> ?_) (fun n i h ih=> ?_) (zK _)
 ·have s1:=(DE hc i1).2.1;have s2:=(DE hc i2).2.1;rw[IC,if_neg (by simp),J7 hlm e2,zB,h00,zB,P8 s1,zB,P8 s2,zB];rfl
 ·rw[IC];simp only[Ai,h,decide_true,if_true,Ae h,zB,aG hn hf hc hfl,H.inn _ (zF h),At h hlm,ih]
end
def Bz(pl:Q X0):Q X3:=(By pl).flatten
def FitP(h:X4)(pl:Q X0):Prop:=
 (BL h.Chart h.Fleet (Bz pl)).length≤12∧(∃n:Z,Cc (B2 0 h.Crew.Moves (BL h.Chart h.Fleet (Bz pl))) (2 ^ (BL h.Chart h.Fleet (Bz pl)).length - 1) n∧(n:X)≤h.Crew.Tugs)∧
  ∃n:Z,Cc (B2 h.Crew.Rest h.Crew.Moves (BP h.Chart pl)) (2 ^ (BP h.Chart pl).length - 1) n∧(n:X)≤h.Crew.Pilots
theorem YS{B:Z→Z→Y}{S n m:Z}(H:Cc B S n)(K:Cc B S m):n=m:=Nat.le_antisymm (H.2 _ K.1) (K.2 _ H.1)
def DL(h:X4)(pl:Q X0):Prop:=∀o∈pl,GoodP h.Chart h.Fleet o.Passages∧o.Passages.length≤1048576
theorem NZ{h:X4}{pl:Q X0}(H:DL h pl):∀p∈Bz pl,C6 h.Chart h.Fleet p=E:=fun p hp=>by
 obtain⟨l,hl,hp⟩:=List.mem_flatten.1 hp;obtain⟨o,ho,rfl⟩:=kR.1 hl;exact(H o ho).1.inn p hp
theorem TI{h:X4}{pl:Q X0}(hc:AJ h.Chart=E)(H:DL h pl):∀d∈BP h.Chart pl,Bh d=E:=fun d hd=>by
 obtain⟨o,ho,rfl⟩:=kR.1 hd;exact((H o ho).1.duty hc).2.2
theorem FitP.app{h:X4}{pl ql:Q X0}(hh:AP h=E)(s:HSmall h)(H:DL h (pl++ql))(hl:pl.length≤12)(F:FitP h (pl++ql)):FitP h pl:=by
 obtain⟨_,hc,_,_,hw⟩:=EE hh;obtain⟨m1,m2⟩:=Sv hw;have Hp:DL h pl:=fun o ho=>H o (List.mem_append_left _ ho)
 have et:BL h.Chart h.Fleet (Bz (pl++ql))=BL h.Chart h.Fleet (Bz pl)++BL h.Chart h.Fleet (Bz ql):=by simp[Bz,By,BL,List.flatMap_append]
 have ep:BP h.Chart (pl++ql)=BP h.Chart pl++BP h.Chart ql:=by simp[BP]
 obtain⟨f1,⟨n,f2,f3⟩,m,f4,f5⟩:=F;rw[et] at f1 f2
 rw[ep] at f4
 have l1:(BL h.Chart h.Fleet (Bz pl)).length≤12:=by rw[zO] at f1; omega
 obtain⟨n',k1,_,_⟩:=JK (p:=0) s.mv l1 (U7 hc (NZ Hp)) (by decide) m2;obtain⟨m',k2,_,_⟩:=JK (p:=h.Crew.Rest) s.mv (l:=BP h.Chart pl) (by simpa[BP] using hl) (TI hc Hp) m1 m2;have q1:=YR (by simp) (fun i j hi hj=>VH hi hj) k1 f2;have q2:=YR (by simp) (fun i j hi hj=>VH hi hj) k2 f4;exact⟨l1,⟨n',k1,by omega⟩,m',k2,by omega⟩
theorem FitP.iff{h:X4}{pl:Q X0}{n m:Z}(h12:(BL h.Chart h.Fleet (Bz pl)).length≤12)(k1:Cc (B2 0 h.Crew.Moves (BL h.Chart h.Fleet (Bz pl))) (2 ^ (BL h.Chart h.Fleet (Bz pl)).length - 1) n)(k4:Cc (B2 h.Crew.Rest h.Crew.Moves (BP h.Chart pl)) (2 ^ (BP h.Chart pl).length - 1) m) :
  (n:X)≤h.Crew.Tugs∧(m:X)≤h.Crew.Pilots↔FitP h pl:=by
 constructor
 ·rintro⟨a,b⟩
  exact⟨h12,⟨n,k1,a⟩,m,k4,b⟩
 ·rintro⟨_,⟨n',a1,a2⟩,m',b1,b2⟩
  rw[YS k1 a1,YS k4 b1];exact⟨a2,b2⟩
theorem Wq{h:X4}{pl:Q X0}(hl:pl.length≤12)(H:DL h pl):(Bz pl).length≤1000000000000:=by
 have:∀(ql:Q X0),(∀o∈ql,o.Passages.length≤1048576)→(Bz ql).length≤ql.length*1048576:=by
  intro ql
  induction ql with
  | nil=>intro _; simp[Bz,By]
  | cons o ql ih=>
   intro h;have h1:=ih fun x hx=>h x (yH _ hx)
   have h2:=h o (yJ ..);have e:Bz (o::ql)=o.Passages++Bz ql:=rfl;rw[e,zO,kS];omega
 have:=this pl fun o ho=>(H o ho).2
 omega
theorem W5{h:X4}(s:HSmall h)(hh:AP h=E){pl:Q X0}(hl:pl.length≤12)(H:DL h pl):∃b,Dt h pl=O b∧(b=E↔FitP h pl):=by
 obtain⟨_,hc,hfl,_,hw⟩:=EE hh;obtain⟨m1,m2⟩:=Sv hw;have hlm:pl.length≤maxLen:=Aj (by omega)
 have key:=Bj (fun n i=>∀v2 v3,v2.length≤i*1048576→v3.length=i→Gl pl h n (i:X) v2 v3=(MA h.Chart h.Fleet (v2++Bz (pl.drop i))).bind fun r12=>
   if r12.2 then(Gk 0 h.Crew.Moves r12.1 h.Crew.Tugs).bind fun r14=>if r14 then(Gk h.Crew.Rest h.Crew.Moves (v3++BP h.Chart (pl.drop i)) h.Crew.Pilots).bind fun r16=>O r16 else O G else O G) hlm
  (fun n v2 v3 h1 h2=>by rw[Gl,if_neg (by simp)]; simp[Bz,By,BP]) (fun n i hi ih v2 v3 h1 h2=> ?_) (zK _) [] [] (by simp) rfl
 ·have key:Dt h pl=_:=key;rw[key,yX,kG,kG,(bN s.pn s.fn hc hfl (Aj (Wq hl H)) (NZ H)).2,zB];unfold H9;by_cases h12:(BL h.Chart h.Fleet (Bz pl)).length≤12
  ·obtain⟨n,k1,_,k3⟩:=JK (p:=0) s.mv h12 (U7 hc (NZ H)) (by decide) m2;obtain⟨m,k4,_,k6⟩:=JK (p:=h.Crew.Rest) s.mv (l:=BP h.Chart pl) (by simpa[BP] using hl) (TI hc H) m1 m2;simp only[h12,if_true,k3,k6,zB];refine⟨decide ((n:X)≤h.Crew.Tugs)&&decide ((m:X)≤h.Crew.Pilots),by by_cases q:(n:X)≤h.Crew.Tugs<;>simp[q],?_⟩;simp only[zE,decide_eq_true_eq];exact FitP.iff h12 k1 k4
  ·simp only[h12,if_false];exact⟨G,zA,⟨(fun h=>by cases h),fun F=>absurd F.1 h12⟩⟩
 ·obtain⟨g1,g2⟩:=H _ (zF hi);obtain⟨e1,e2⟩:=SD g1.ne;obtain⟨i1,i2,_⟩:=g1.duty hc;have hz:(0:X)<(pl[i].Passages.length:X):=by have:=zU.2 g1.ne; omega
  have h00:ix pl[i].Passages (0:X)=O (ED pl[i].Passages):=by have:=Al pl[i].Passages 0; rw[← kC,e1] at this; exact this
  rw[Gl];simp only[Ai,hi,decide_true,if_true,Ae hi,zB,hz,h00,J7 (Aj (by omega)) e2,Yr (DE hc i1).2.1 (DE hc i2).2.1];rw[if_pos (PB (by omega) (by omega)),if_pos (AT (by omega) (by simp) (by omega)),At hi hlm,ih _ _ (by simp; omega) (by simp; omega)];simp only[zW hi,Bz,By,BP,List.map_cons,List.flatten_cons,yL,List.singleton_append]
theorem xa{h:X4}(s:HSmall h)(hh:AP h=E){pl:Q X0}(hl:pl.length≤12)(H:DL h pl):∃b,Nn h.Crew h.Chart h.Fleet (By pl)=O b∧(b=E↔FitP h pl):=by
 obtain⟨_,hc,hfl,_,hw⟩:=EE hh;obtain⟨m1,m2⟩:=Sv hw;have hlm:pl.length≤maxLen:=Aj (by omega);obtain⟨m,k4,⟨w4,k5⟩,_⟩:=JK (p:=h.Crew.Rest) s.mv (l:=BP h.Chart pl) (by simpa[BP] using hl) (TI hc H) m1 m2
 have pil:NB h.Crew h.Chart h.Fleet (By pl)=O (m:X):=by
  unfold NB;rw[TQ s.mv,hw,zB,if_pos rfl];have hcl:(By pl).length=pl.length:=by simp[By]
  refine Bj (fun n i=>∀v,v.length=i→v++BP h.Chart (pl.drop i)=BP h.Chart pl→Gy h.Fleet (By pl) h.Crew h.Chart n (i:X) v=O (m:X)) hlm (fun n v h1 h2=> ?_) (fun n i hi ih v h1 h2=> ?_) (zK _) [] rfl (by simp)
  ·rw[Gy,if_neg (by rw[hcl]; simp)];have:v=BP h.Chart pl:=by simpa[BP] using h2
   rw[this,k5];rfl
  ·obtain⟨g1,g2⟩:=H _ (zF hi);have hi':i<(By pl).length:=by omega
   have hg:(By pl)[i]=pl[i].Passages:=by simp[By]
   have hz:((pl[i].Passages.length:X)==(0:X))=G:=beq_eq_false_iff_ne.2 (by have:=zU.2 g1.ne; omega);rw[Gy];simp only[Ai,hi',decide_true,if_true,Ae hi',hg,zB,hz,zD,if_false,vp s.pn s.fn hc hfl (by omega) g1];rw[if_pos (AT (by omega) (by simp) (by omega)),At hi hlm];exact ih _ (by simp; omega) (by rw[← h2,zW hi,yL]; rfl)
 have hT:∃t:X,KI h.Crew h.Chart h.Fleet (Bz pl)=O t∧((0≤t∧t≤h.Crew.Tugs)∧(m:X)≤h.Crew.Pilots↔FitP h pl):=by
  unfold KI;rw[(bN s.pn s.fn hc hfl (Aj (Wq hl H)) (NZ H)).1,zB,TQ s.mv,hw,zB,if_pos rfl];unfold H9;by_cases h12:(BL h.Chart h.Fleet (Bz pl)).length≤12
  ·obtain⟨n,k1,⟨w1,k2⟩,_⟩:=JK (p:=0) s.mv h12 (U7 hc (NZ H)) (by decide) m2;simp only[h12,if_true,k2,zB];exact⟨n,rfl,by rw[← FitP.iff h12 k1 k4]; constructor<;>(rintro⟨a,b⟩; exact⟨by omega,b⟩)⟩
  ·simp only[h12,if_false];exact⟨-1,zA,⟨(fun h=>by omega),fun F=>absurd F.1 h12⟩⟩
 obtain⟨t,t1,t2⟩:=hT
 have:=(oN (L:=It h.Fleet (By pl) h.Crew h.Chart) (By pl) (O ((decide (0≤t)&&decide (t≤h.Crew.Tugs))&&decide ((m:X)≤h.Crew.Pilots))) (by simp[By]; omega) (fun x hx=>by
  obtain⟨o,ho,rfl⟩:=kR.1 hx
  exact(H o ho).2) (fun n i acc hi ha=>by
   have:(By pl)[i].length≤1048576:=by
    obtain⟨o,ho,e⟩:=kR.1 (zF hi);rw[← e]; exact(H o ho).2
   have hcl:(By pl).length=pl.length:=by simp[By]
   rw[It];simp only[Ai,hi,decide_true,if_true,Ae hi,zB]
   rw[if_pos (PB (by omega) (by omega))]) fun n=>by
    rw[It,if_neg (by simp)];have t1:KI h.Crew h.Chart h.Fleet (By pl).flatten=O t:=t1;rw[t1,zB,Bw,zB,pil,zB,Bw];cases decide (0≤t)&&decide (t≤h.Crew.Tugs)<;>simp).1
 refine⟨_,this,?_⟩;rw[← t2];simp only[zE,decide_eq_true_eq]
theorem jb{l:Q X0}(h:l.length≤1000):Ep l=O l:=by
 unfold Ep BI;rw[if_pos ⟨by omega,by omega,by omega,by omega⟩];simp only[zB,Int.toNat_zero,List.replicate_zero,kG];rw[if_pos (by simp only[A3,List.length_nil,decide_eq_true_eq]; omega)]
def RY(h:X4)(l:Q X0)(o:X0):Prop:=∀x∈l,Bf h.Chart h.Regime x.Passages o.Passages=G
theorem oK{h:X4}(s:HSmall h)(hh:AP h=E){l:Q X0}{o:X0}(hl:l.length≤11)(H:DL h (l++ [o])):∃b,Mv h l o=O b∧(b=E↔RY h l o∧FitP h (l++ [o])):=by
 obtain⟨_,hc,_,hr,_⟩:=EE hh;obtain⟨b,b1,b2⟩:=W5 s hh (pl:=l++ [o]) (by simp; omega) H;have Ho:=H o (by simp)
 have e:=F1 (L:=HU l h o) l (fun x=>Bf h.Chart h.Regime x.Passages o.Passages) (O G) (O b) (Aj (by omega)) (fun n i hi=>by
  have Hi:=H l[i] (List.mem_append_left _ (zF hi));rw[HU]
  simp only[Ai,hi,decide_true,if_true,Ae hi,zB,(Sn hc hr Hi.1.inn Ho.1.inn (Aj (by omega)) (Aj (by omega))).2]) fun n=>by
   rw[HU,if_neg (by simp),jb (by omega),zB,if_pos (AT (by omega) (by simp) (by omega)),b1];rfl
 have e:Mv h l o=_:=e;rw[e];cases ha:l.any fun x=>Bf h.Chart h.Regime x.Passages o.Passages with
 | true=>
  obtain⟨x,x1,x2⟩:=kP.1 ha;exact⟨G,zA,(fun h=>by cases h),fun K=>by rw[K.1 x x1] at x2; cases x2⟩
 | false=>
  refine⟨b,zA,b2.trans ⟨fun F=>⟨fun x hx=> ?_,F⟩,fun K=>K.2⟩⟩;have:=List.any_eq_false.1 ha x hx;simpa using this
theorem FitP.nil{h:X4}(hh:AP h=E):FitP h []:=by
 have hw:=(EE hh).2.2.2.2;simp only[F7,zE,decide_eq_true_eq] at hw
 exact⟨by simp[BL,Bz,By],⟨0,Tl,hw.1.1⟩,0,Tl,hw.2.1.1⟩
theorem LG{m n:Z}(h:m+n≤140737488355328):Cy m n=E:=by
 unfold Cy;simp only[decide_eq_true_eq];omega
theorem zj{xs:Q Xb}(h:xs.length≤1048576):Ic xs=O xs:=by
 unfold Ic;rw[E9 h (by omega)];have:=Hr (L:=Ie xs) xs id (J8 h) (fun n i acc hi ha=>by simp[Ie,Al,hi,ha,Q8]) (fun n acc=>by simp[Ie]) (zI xs.length ⟨0,0,0,0,0⟩) (by simp);simpa using this
theorem nG{xs:Q Xb}(h:xs.length≤maxLen):MG xs xs=O E:=by
 unfold MG;have:=G1 (L:=I5 xs xs) xs (fun _=>E) h (fun n i hi=>by simp[I5,Al,hi,Q2]) (fun n=>by simp[I5]);simp[this]
theorem uP(P:Z→Z→Prop){len:Z}(h0:∀n,P (n+1) len)(hs:∀n i,i<len→P n (i+1)→P (n+1) i):∀k i n,i+k=len→k<n→P n i:=by
 intro k
 induction k with
 | zero=>
  intro i n h1 h2;obtain⟨q,rfl⟩:=sn (n:=n) (by omega);obtain rfl:i=len:=by omega
  exact h0 q
 | succ k ih=>
  intro i n h1 h2;obtain⟨q,rfl⟩:=sn (n:=n) (by omega);exact hs q i (by omega) (ih _ _ (by omega) (by omega))
theorem VG:∃m,bigN=m+1∧1000000000000<m:=⟨1208925819614629174706175,by rw[BD],by omega⟩
def PE(y:X8):Z:=(E8 y).countP fun b=> !b
theorem jo{l:Q Y}:∀{n:Z},l[n]?=O G→((l.set n E).countP fun b=> !b)+1=l.countP fun b=> !b:=by
 induction l with
 | nil=>intro n h; simp at h
 | cons a l ih=>
  intro n h;cases n with
  | zero=>simp only[yY,zG] at h; subst h; simp
  | succ n=>
   simp only[List.getElem?_cons_succ] at h;have:=ih h;simp only[List.set_cons_succ,List.countP_cons];omega
theorem VT{y:X8}{a:X}(h:ix (E8 y) a=O G):PE (X8.set y (Int.toNat a) E)+1=PE y∧0≤a∧a<8:=by
 have hg:=Ay h;have hl:(E8 y).length=8:=rfl
 have ha:0≤a:=by
  unfold ix at h;split at h
  ·rename_i h1; exact h1
  ·cases h
 have hn:a.toNat<8:=by
  have:=(kL.1 hg).1;omega
 refine⟨?_,ha,by omega⟩;unfold PE;rw[ZX y hn];exact jo hg
theorem LH{l:Q X}(h:l.length≤1000):Bi l=O l:=by
 unfold Bi BI;rw[if_pos ⟨by omega,by omega,by omega,by omega⟩];simp only[zB,Int.toNat_zero,List.replicate_zero,kG];rw[if_pos (by simp only[A3,List.length_nil,decide_eq_true_eq]; omega)]
structure Lead (c:X1) (a:X) (rt l:Q X):Prop where
 r:RtOk c rt l
 hd:l[0]?=O a
 fr:∀i (h:i+1<l.length),((l.take (i+1)).any fun z=>z==l[i+1])=G
theorem Lead.snoc{c:X1}{a:X}{rt l:Q X}(H:Lead c a rt l){x:X}(hx:l.getLast?=O x){i:Z}(hi:i<c.Segments.length)(he:idx (BR c.Segments[i] x) c.Points.length=E)(hf:(l.any fun z=>z==BR c.Segments[i] x)=G) :
  Lead c a (rt++ [(i:X)]) (l++ [BR c.Segments[i] x]):=by
 have hlen:=H.r.len;have hsi:idx (i:X) c.Segments.length=E:=IZ.2 ⟨by omega,by omega⟩;have hsg:As c (i:X)=c.Segments[i]:=by unfold As; rw[zP,zC hi]; rfl
 refine⟨⟨by simp; omega,fun y hy=> ?_,fun j hj=> ?_,fun j hj=> ?_⟩,by rw[zH (by omega)]; exact H.hd,fun j hj=> ?_⟩
 ·rcases zV.1 hy with hy|hy
  ·exact H.r.pt y hy
  ·rw[zS] at hy; subst hy; exact he
 ·by_cases h:j<rt.length
  ·rw[zM h]; exact H.r.seg j h
  ·rw[yI (by omega)]; simpa using hsi
 ·simp only[zO,zY] at hj
  by_cases h:j<rt.length
  ·obtain⟨y,y1,y2,y3⟩:=H.r.stp j h;rw[zM h];exact⟨y,by rw[zH (by omega)]; exact y1,by rw[zH (by omega)]; exact y2,y3⟩
  ·obtain rfl:j=rt.length:=by omega
   rw[yI (by omega)];simp only[Nat.sub_self,List.getElem_singleton,hsg];exact⟨x,by rw[zH (by omega),← hx,zX,hlen]; rfl,by rw[zT (by omega),hlen]; simp,(IZ.1 he).1⟩
 ·simp only[zO,zY] at hj
  by_cases h:j+1<l.length
  ·rw[kH (by omega),zM h];exact H.fr j h
  ·have e:j+1=l.length:=by omega
   rw[yI (by omega)];simp only[e,Nat.sub_self,List.getElem_singleton];rw[kH (by omega),yF];exact hf
theorem Lead.points{c:X1}{a:X}{rt l:Q X}(hc:AJ c=E)(hl:rt.length≤1000000)(H:Lead c a rt l):GB c a rt=O (l,E):=by
 have hlen:=H.r.len;have h10:=(C7 hc).2.1
 have h1:l.take 1= [a]:=by
  have h0:=H.hd;cases l with
  | nil=>cases h0
  | cons x l=>simp only[yY,zG] at h0; subst h0; rfl
 unfold GB;rw[← h1];refine Bj (fun n i=>DY rt c n (i:X) (l.take (i+1))=O (l,E)) (Aj (by omega)) (fun n=> ?_) (fun n i hi ih=> ?_) (zK rt.length)
 ·rw[DY,if_neg (by simp),← hlen,yF]
 ·obtain⟨x,x1,x2,x3⟩:=H.r.stp i hi;have hi1:i+1<l.length:=by omega
  have hlast:(l.take (i+1)).getLast?=O x:=by
   rw[zX,List.length_take,Nat.min_eq_left (by omega),List.getElem?_take_of_lt (by omega)];simpa using x1
  rw[zC hi1,zG] at x2
  have hfr:=H.fr i hi1;rw[x2] at hfr
  have hneg:¬BR (As c rt[i]) x<0:=by omega
  rw[DY];simp only[Ai,hi,decide_true,if_true,Ae hi,zB,CF _ (show c.Segments.length≤1000 by omega),H.r.seg i hi,(BH (H.r.seg i hi)).1,J7 (Aj (n:=(l.take (i+1)).length) (by simp; omega)) hlast,TA,hneg,decide_false,zD,if_false,SQ (Aj (n:=(l.take (i+1)).length) (by simp; omega)),hfr,GC];rw[if_pos (AT (by simp; omega) (by simp) (by omega)),At hi (Aj (by omega)),← x2];rw[show l.take (i+1)++ [l[i+1]]=l.take (i+1+1) by rw[zJ hi1]];exact ih
theorem A2o{c:X1}(hc:AJ c=E){a0:X}:∀(u n:Z) (a b:X) (rt pts:Q X) (y:X8) (out:Q (Q X)),u<n→PE y≤u→ix (E8 y) a=O G→Met (X8.set y a.toNat E) pts→pts.getLast?=O a→Lead c a0 rt pts→rt.length+u≤100→out.length+10 ^ u≤100000000→
  ∃r,Ga n c a b rt y out=O r∧GE n c pts rt b out=O r∧r.length≤out.length+10 ^ u∧∀x∈r,x∈out∨(x.length≤100∧∃p,Lead c a0 x p∧p.getLast?=O b):=by
 obtain⟨_,hs10,_,_⟩:=C7 hc;intro u
 induction u with
 | zero=>
  intro n a b rt pts y out hn hu hi;have:=(VT hi).1;omega
 | succ u ih=>
  intro n a b rt pts y out hn hu hi hm hla hL hr ho;obtain⟨q,rfl⟩:=sn (n:=n) (by omega);obtain⟨hc1,ha0,ha8⟩:=VT hi;have hp:10 ^ (u+1)=10*10 ^ u:=by rw[Nat.pow_succ]; omega
  have hp1:0<10 ^ u:=kK (by omega);have hpl:=hL.r.len;rw[Ga,PO,GE,Qm,J7 (Aj (by omega)) hla,zB];by_cases hab:(a==b)=E
  ·have e:a=b:=by simpa using hab
   rw[if_pos hab,if_pos hab,LH (by omega),zB,if_pos (AT (by omega) (by simp) (by omega)),if_pos (AT (by simp) (by omega) (by omega))];refine⟨_,zA,zA,by simp; omega,fun x hx=> ?_⟩;rcases zV.1 hx with hx|hx
   ·exact Or.inl hx
   ·simp only[zS] at hx; subst hx; exact Or.inr ⟨by omega,pts,hL,e▸hla⟩
  ·rw[if_neg hab,if_neg hab,if_pos (by simp; omega)];generalize hy:X8.set y (Int.toNat a) E=y' at hm
   have hy':(⟨y'.i0,y'.i1,y'.i2,y'.i3,y'.i4,y'.i5,y'.i6,y'.i7⟩:X8)=y':=rfl;rw[hy'];rw[hy] at hc1
   obtain⟨r,e1,e2,e3,e4⟩:=Bj (fun m i=>∀o:Q (Q X),o.length≤out.length+i*10 ^ u→(∀x∈o,x∈out∨(x.length≤100∧∃p,Lead c a0 x p∧p.getLast?=O b))→
     ∃r,G9 (Ga q) a b rt c y' m (i:X) o=O r∧GD (GE q) pts rt b a c m (i:X) o=O r∧r.length≤out.length+c.Segments.length*10 ^ u∧∀x∈r,x∈out∨(x.length≤100∧∃p,Lead c a0 x p∧p.getLast?=O b)) (Aj (n:=c.Segments.length) (by omega))
    (fun m o hl hx=>⟨o,by simp[G9],by simp[GD],hl,hx⟩) (fun m i hlt ihk o hl hx=>by
     have hsucc:(i+1)*10 ^ u=i*10 ^ u+10 ^ u:=Nat.succ_mul i _;have hle:i*10 ^ u≤9*10 ^ u:=Nat.mul_le_mul_right _ (by omega);rw[G9,GD];simp only[Ai,hlt,decide_true,if_true,Ae hlt,zB,SC,TA];have he:=W8 hc (zF hlt) a;have hE:∃e,BR c.Segments[i] a=e:=⟨_,rfl⟩;obtain⟨e,hE⟩:=hE;rw[hE] at he ⊢
     by_cases h0:0≤e
     ·have hei:=he.resolve_left (by omega);have he':=IZ.1 hei;have hp8:=(C7 hc).1;have hd:(decide (0≤e)&&decide (e<8))=E:=by simp; omega
      have hmE:=hm e h0 (by omega);have hmE':=hmE;unfold E8 at hmE'
      simp only[h0,decide_true,if_true,SQ (Aj (n:=pts.length) (by omega)),zB];rw[if_pos (by simp; omega),hmE',zB];cases hb:pts.any fun z=>z==e with
      | true=>
       simp only[Hz,IM,kX,zD,if_false,At hlt (Aj (n:=c.Segments.length) (by omega))];exact ihk o (by omega) hx
      | false=>
       simp only[Hz,IM,Bool.not_false,if_true,At hlt (Aj (n:=c.Segments.length) (by omega))];rw[LH (by omega),zB,if_pos (AT (by omega) (by simp) (by omega)),if_pos (AT (by simp) (by omega) (by omega)),if_pos (AT (by omega) (by simp) (by omega)),if_pos (AT (by simp) (by omega) (by omega)),if_pos (AT (by omega) (by simp) (by omega))];rw[hb] at hmE
       obtain⟨r,e1,e2,e3,e4⟩:=ih q e b (rt++ [(i:X)]) (pts++ [e]) y' o (by omega) (by omega) hmE (hm.snoc h0 (by omega)) (by simp) (by have:=hL.snoc hla hlt (by rw[hE]; exact hei) (by rw[hE]; exact hb); rw[hE] at this; exact this) (by simp; omega) (by omega);rw[e1,e2,zB,zB]
       exact ihk r (by omega) fun x h=>by
        rcases e4 x h with h|h
        ·exact hx x h
        ·exact Or.inr h
     ·simp only[h0,decide_false,zD,if_false,Hz,IM,At hlt (Aj (n:=c.Segments.length) (by omega))];exact ihk o (by omega) hx) (zK _) out (by omega) fun x hx=>Or.inl hx
   have hle:c.Segments.length*10 ^ u≤10*10 ^ u:=Nat.mul_le_mul_right _ hs10;exact⟨r,e1,e2,by omega,e4⟩
theorem ik{c:X1}(hc:AJ c=E){a b:X}(ha:idx a c.Points.length=E)(hb:idx b c.Points.length=E):∃r,ND c a b=O r∧Mg c a b=O r∧r.length≤100000000∧∀x∈r,x.length≤100∧∃p,Lead c a x p∧p.getLast?=O b:=by
 have hp8:=(C7 hc).1;have hn:=(C7 hc).2.2.1;have ha':=IZ.1 ha
 have hi:ix (E8 ⟨G,G,G,G,G,G,G,G⟩) a=O G:=by
  obtain⟨n,rfl⟩:∃n:Z,a=(n:X):=⟨a.toNat,by omega⟩;have:n=0∨n=1∨n=2∨n=3∨n=4∨n=5∨n=6∨n=7:=by omega
  rcases this with rfl|rfl|rfl|rfl|rfl|rfl|rfl|rfl<;>rfl
 have m0:Met ⟨G,G,G,G,G,G,G,G⟩ []:=fun x x0 x8=>by
  obtain⟨n,rfl⟩:∃n:Z,x=(n:X):=⟨x.toNat,by omega⟩;have:n=0∨n=1∨n=2∨n=3∨n=4∨n=5∨n=6∨n=7:=by omega
  rcases this with rfl|rfl|rfl|rfl|rfl|rfl|rfl|rfl<;>rfl
 obtain⟨r,e1,e2,e3,e4⟩:=A2o hc (a0:=a) 8 bigN a b [] [a] ⟨G,G,G,G,G,G,G,G⟩ [] (by rw[BD]; omega) (by decide) hi (m0.snoc ha'.1 (by omega)) rfl ⟨⟨rfl,by simpa using ha,fun i h=>by simp at h,fun i h=>by simp at h⟩,rfl,fun i h=>by simp at h⟩ (by simp) (by simp);refine⟨r,?_,?_,by simpa using e3,fun x hx=>(e4 x hx).resolve_left (by simp)⟩
 ·unfold ND SH;simp only[DH hn,hc,zB,if_true,CF _ (show c.Points.length≤1000 by omega),ha,hb,e2]
 ·unfold Mg SE;simp only[FF hn,hc,zB,if_true,E5,ha,hb,e1]
theorem ij{c:X1}(hc:AJ c=E){a b:X}(ha:idx a c.Points.length=E)(hb:idx b c.Points.length=E):∃rt q,Nk c a b=O (rt,q)∧LR c a b=O (rt,q)∧(q=G→rt= [])∧(q=E→rt.length≤100∧∃p,Lead c a rt p∧p.getLast?=O b):=by
 obtain⟨r,e1,e2,e3,e4⟩:=ik hc ha hb;unfold Nk LR;rw[e1,e2,zB,zB];cases hr0:r with
 | nil=>exact⟨[],G,by obtain⟨m,hm,_⟩:=VG; rw[hm]; rfl,rfl,fun _=>rfl,fun h=>by cases h⟩
 | cons r0 rs=>
  rw[← hr0];have hpos:0<r.length:=by rw[hr0]; simp
  have hz:((r.length:X)==(0:X))=G:=beq_eq_false_iff_ne.2 (by omega);have h00:ix r (0:X)=O r0:=by rw[hr0]; rfl
  have hm0:r0∈r:=by rw[hr0]; simp
  have hlm:r.length≤maxLen:=Aj (by omega);rw[hz,if_neg (by simp),h00,zB]
  have rm:∀x∈r,∃m,Gz c x=O m∧Gg c x=O m:=fun x hx=>by
   obtain⟨h1,p,h2,_⟩:=e4 x hx;obtain⟨m,m1,m2,_⟩:=ZM hc (rt:=x) (by omega) h2.r.seg;exact⟨m,m1,m2⟩
  have key:=uP (fun n i=>∀v∈r,∃rt∈r,Fm r c n v E (i:X)=O (rt,E)∧F8 r c n v (i:X)=O (rt,E)) (len:=r.length)
   (fun n v hv=>⟨v,hv,by simp[Fm],by simp[F8]⟩) (fun n i hi ih v hv=>by
    obtain⟨m1,g1,g2⟩:=rm _ (zF hi);obtain⟨m2,g3,g4⟩:=rm v hv;rw[Fm,F8];simp only[Ai,hi,decide_true,if_true,Ae hi,zB,g1,g2,g3,g4,At hi hlm,Kn];by_cases hlt:m1<m2
    ·simp only[hlt,decide_true,if_true];exact ih _ (zF hi)
    ·simp only[hlt,decide_false,zD,if_false];exact ih v hv)
  obtain⟨m,hm,hm1⟩:=VG;obtain⟨rt,hrt,k1,k2⟩:=key (r.length - 1) 1 m (by omega) (by omega) r0 hm0;obtain⟨m1,g1,g2⟩:=rm r0 hm0;refine⟨rt,E,?_,?_,(fun h=>by cases h),fun _=>e4 rt hrt⟩
  ·rw[hm,Fm];have hd:(decide ((0:X)<(r.length:X)))=E:=by simp; omega
   simp only[hd,if_true,h00,zB,zD,if_false,Kn];exact k1
  ·rw[hm,F8];have hd:(decide ((0:X)<(r.length:X)))=E:=by simp; omega
   simp only[hd,if_true,h00,zB,g2,show ¬m1<m1 by omega,decide_false,zD,if_false];exact k2
def Hd(h:X4)(o:X0):Prop:=(GoodP h.Chart h.Fleet o.Passages∧o.Passages.length≤1048576)∧0≤o.Cost∧o.Cost≤2880
theorem AtOk.optG{h:X4}{a:Xb}{rt:Q X}{st:X}{o:X0}(hh:AP h=E)(hl:rt.length≤100)(H:AtOk h a rt st o)(h1:0≤o.Cost)(h2:o.Cost≤2880):Hd h o:=by
 obtain⟨ha,pts,l,hr,S,hp⟩:=H
 have e:rt=o.Passages.map fun p=>p.Segment:=by
  refine List.ext_getElem (by simp[hp.1]) fun i g1 g2=> ?_
  obtain⟨x,y,_,_,_,_,q⟩:=hp.2 i g1 g1;simp only[List.length_map] at g2
  rw[zC g2,zG] at q
  simp[q]
 have hlen:=hp.1;subst e;exact⟨⟨AtOk.good hh ⟨ha,pts,l,hr,S,hp⟩,by omega⟩,h1,h2⟩
theorem Ty{h:X4}(s:HSmall h)(hh:AP h=E){a:Xb}(ha:Bx h a=E):∃L,KF h a=O L∧D5 h a=O L∧L.length≤8∧∀o∈L,Hd h o:=by
 obtain⟨hf,hc,hfl,_,_⟩:=EE hh;have ha':=ha;simp only[Bx,C3,zE,decide_eq_true_eq] at ha'
 obtain⟨q1,q2,q3,q4,⟨q5,q6⟩,q7,q8⟩:=ha';obtain⟨s1,s2⟩:=J2 q1;have hso:=(O1 hfl).2 _ s2;have hsn:=s.fn _ s2;obtain⟨rt,q,b1,b2,b3,b4⟩:=ij hc q2 q3;have nil_:∃L,O ([]:Q X0)=O L∧O ([]:Q X0)=O L∧L.length≤8∧∀o∈L,Hd h o:=⟨[],rfl,rfl,by simp,fun o h=>by cases h⟩;unfold KF D5;simp only[ZZ s,rn s,hh,ha,Bool.and_self,zB,if_true,b1,b2];cases q with
 | false=>
  rw[b3 rfl];obtain⟨pts,bb,g1,g2,g3,g4,_,_⟩:=ZN hc (rt:= []) (a:=a.From) (by simp)
  have hv:∃v,HQ h a []=O v:=by
   unfold HQ;rw[g4,zB];split
   ·exact⟨_,zA⟩
   ·have hl:pts.length≤1:=by
     have:=g4;obtain⟨p,b',e1,e2,e3,e4⟩:=Zz hc q2 (rt:= []) (by simp);have hn:=(C7 hc).2.2.1;unfold DP at this
     rw[FF hn,hc,zB,if_pos rfl,e2,zB,zG] at this
     subst this;cases b' with
     | false=>rw[e3 rfl]; simp
     | true=>rw[(e4 rfl).len]; simp
    rename_i hne
    have:∃x,pts.getLast?=O x:=by
     cases hp:pts.getLast? with
     | none=>rw[kM] at hp; rw[hp] at hne; simp at hne
     | some x=>exact⟨x,rfl⟩
    obtain⟨x,hx⟩:=this;rw[J7 (Aj (by omega)) hx,zB];unfold Ka;split
    ·exact⟨_,zA⟩
    ·rw[s1,zB]
     have:∃w,HZ h.Forecast h.Chart (AN h.Fleet a.Ship) a.From []=O w:=by
      unfold HZ;simp only[Oe,GS hsn,hf,hso,g2,zB,if_true];split<;>exact⟨_,rfl⟩
     obtain⟨w,hw⟩:=this;rw[hw];exact⟨_,zA⟩
  obtain⟨v,hv⟩:=hv;simp only[hv,zB,zD,if_false];exact nil_
 | true=>
  obtain⟨hl,p,P,hp⟩:=b4 rfl;obtain⟨pts,bb,g1,g2,g3,g4,g5,g6⟩:=ZN hc (rt:=rt) (a:=a.From) (by omega)
  have hpts:bb=E∧pts=p:=by
   have e:=P.points hc (by omega);have hn:=(C7 hc).2.2.1;have h8:=(C7 hc).1;unfold Ey at g1
   simp only[DH hn,hc,zB,if_true,CF _ (show h.Chart.Points.length≤1000 by omega),q2,e,zG] at g1
   subst g1;unfold Fs Ey at g3
   simp only[DH hn,hc,zB,if_true,CF _ (show h.Chart.Points.length≤1000 by omega),q2,e,zG] at g3
   exact⟨zA,g3.symm⟩
  obtain⟨rfl,rfl⟩:=hpts;have hr:=g6 rfl;have hpl:=hr.len
  have h0:rt≠ []:=fun e=>by
   subst e;have hd:=P.hd;rw[zX,hpl] at hp
   rw[show([]:Q X).length+1 - 1=0 from rfl,hd] at hp
   exact q4 (kW hp)
  obtain⟨v,v1,V⟩:=A0t hf hc hso hsn (by omega) hr h0 g2 g4;have hz:((pts.length:X)==(0:X))=G:=beq_eq_false_iff_ne.2 (by omega)
  have hcv:HQ h a rt=O (v,E):=by
   unfold HQ;simp only[g4,zB,hz,zD,if_false,J7 (Aj (by omega)) hp,bne_self_eq_false,Ka,s1,v1]
  simp only[hcv,zB,if_true,s1,V.st,g3]
  have key:∀(k n:Z) (m:X) (acc:Q X0),2880<m+15*(k:X)→k<n→a.Ready≤m→m≤2880+15→acc.length≤8→(∀o∈acc,Hd h o)→
    ∃L,Fq (rt,E) h a (AN h.Fleet a.Ship) v.sure pts n m acc=O L∧Ge (rt,E) h a (v,E) n m acc=O L∧L.length≤8∧∀o∈L,Hd h o:=by
   intro k
   induction k with
   | zero=>
    intro n m acc h1 h2 h3 h4 h5 h6;obtain⟨q,rfl⟩:=sn (n:=n) (by omega);have:¬m≤a.Due:=by omega
    exact⟨acc,by simp[Fq,this],by simp[Ge,this],h5,h6⟩
   | succ k ih=>
    intro n m acc h1 h2 h3 h4 h5 h6;obtain⟨q,rfl⟩:=sn (n:=n) (by omega);rw[Fq,Ge];by_cases hd:m≤a.Due
    ·by_cases h8:(acc.length:X)<8
     ·have hw:kY .i64 (m+15)=m+15:=Ak (by omega) (by omega);obtain⟨l,b,c1,c2,c3⟩:=vT ha hc hso hsn (by omega) V g1 g2 g3 g4 h3 (by omega);simp only[hd,h8,decide_true,if_true,c1,zB];cases b with
      | false=>
       obtain⟨o,o1⟩:=c2 rfl;simp only[o1,zB,zD,if_false,IA,K1,hw];exact ih q _ acc (by omega) (by omega) (by omega) (by omega) h5 h6
      | true=>
       obtain⟨o,o1,o2,o3,_,o4,o5,_⟩:=c3 rfl;simp only[o1,o2,zB,if_true,IA,K1,hw];rw[if_pos (AT (by omega) (by simp) (by omega)),if_pos (AT (by omega) (by simp) (by omega))]
       exact ih q _ _ (by omega) (by omega) (by omega) (by omega) (by simp; omega) fun x hx=>by
        rcases zV.1 hx with hx|hx
        ·exact h6 x hx
        ·rw[zS] at hx; subst hx; exact o3.optG hh hl o4 o5
     ·simp only[hd,h8,decide_true,decide_false,if_true,zD,if_false];exact⟨acc,zA,zA,h5,h6⟩
    ·simp only[hd,decide_false,zD,if_false];exact⟨acc,zA,zA,h5,h6⟩
  exact key 200 bigN a.Ready [] (by omega) (by rw[BD]; omega) (Int.le_refl _) (by omega) (by simp) fun o h=>by cases h
structure CallsGood (h:X4) (cs:Q Xb):Prop where
 ok:∀a∈cs,Bx h a=E
 six:cs.length≤6
def CJ(l:Q X0):X:=(l.map X0.Cost).sum
def RP(l:Q X0):Prop:=∀o∈l,0≤o.Cost∧o.Cost≤2880
theorem TU{l:Q X0}(h:RP l):0≤CJ l∧CJ l≤2880*(l.length:X):=by
 induction l with
 | nil=>simp[CJ]
 | cons x l ih=>
  have:=h x (by simp);have:=ih fun o ho=>h o (by simp[ho])
  simp only[CJ,List.map_cons,List.sum_cons,kS] at *
  omega
theorem RA(l:Q X0)(o:X0):CJ (l++ [o])=CJ l+o.Cost:=by simp[CJ]
theorem jl{l:Q X0}(hl:l.length≤1000)(h:RP l):LX l=O (CJ l):=by
 have key:∀(k i n:Z),i+k=l.length→k<n→HB l n (CJ (l.take i)) (i:X)=O (CJ l):=by
  intro k
  induction k with
  | zero=>
   intro i n hi hn;obtain⟨q,rfl⟩:=sn (n:=n) (by omega);have:i=l.length:=by omega
   subst this;rw[yF];simp[HB]
  | succ k ih=>
   intro i n hi hn;obtain⟨q,rfl⟩:=sn (n:=n) (by omega);have hlt:i<l.length:=by omega
   have b1:=TU (l:=l.take i) fun o ho=>h o (List.mem_of_mem_take ho)
   have b2:=h _ (zF hlt);have b3:((l.take i).length:X)≤1000:=by simp only[List.length_take]; omega
   have e:=ih (i+1) q (by omega) (by omega);rw[zJ hlt,RA] at e
   rw[HB];simp only[Ai,hlt,decide_true,if_true,Ae hlt,zB,At hlt (Aj (by omega))];rw[Ak (by omega) (by omega)];exact e
 exact key l.length 0 bigN (by omega) (BU (Aj (by omega)))
structure Fnd where
 f:Y
 b:Q X
 w:Xj
def wl(a b:Xj):Y:=decide (a.i0<b.i0) || (decide (a.i0=b.i0)&&decide (a.i1<b.i1))
def Rq(A:Fnd)(ch:Q X)(w:Xj):Fnd:=if(A.f&& !wl w A.w)=E then A else⟨E,ch,w⟩
def CB(h:X4)(pl:Q X0):Y:=(Dt h pl).getD G
def C5(h:X4)(pl:Q X0)(o:X0):Y:= !(pl.any fun x=>Bf h.Chart h.Regime x.Passages o.Passages)
def D4(F:X0→X→Fnd→Fnd):Q X0→Z→Fnd→Fnd
 | [],_,A=>A
 | o::l,n,A=>D4 F l (n+1) (F o (n:X) A)
def Bm(h:X4)(wv:Q X0→Xj):Q (Q X0)→Q X0→Q X→Fnd→Fnd
 | [],pl,ch,A=>if CB h pl=E then Rq A ch (wv pl) else A
 | l::ls,pl,ch,A=>D4 (fun o n A=>if C5 h pl o=E then Bm h wv ls (pl++ [o]) (ch++ [n]) A else A) l 0 A
theorem W7{F:X0→X→Fnd→Fnd}{A:Fnd}:∀{l:Q X0} {n:Z},(∀o∈l,∀n,F o n A=A)→D4 F l n A=A:=by
 intro l
 induction l with
 | nil=>intro n _; rfl
 | cons o l ih=>
  intro n H;rw[D4,H o (yJ ..)];exact ih fun x hx=>H x (yH _ hx)
section
variable {h : X4} {cs : Q Xb} {os : Q (Q X0)}
def GoodC(h:X4)(pl:Q X0):Prop:=∀o∈pl,Hd h o
theorem GoodC.pl{pl:Q X0}(H:GoodC h pl):DL h pl:=fun o ho=>(H o ho).1
theorem GoodC.cost{pl:Q X0}(H:GoodC h pl):RP pl:=fun o ho=>(H o ho).2
theorem GoodC.snoc{pl:Q X0}{o:X0}(H:GoodC h pl)(ho:Hd h o):GoodC h (pl++ [o]):=fun x hx=>by
 rcases zV.1 hx with hx|hx
 ·exact H x hx
 ·rw[zS] at hx; subst hx; exact ho
theorem KU(s:HSmall h)(hh:AP h=E){pl:Q X0}(hl:pl.length≤12)(H:DL h pl):Dt h pl=O (CB h pl)∧(CB h pl=E↔FitP h pl):=by
 obtain⟨b,b1,b2⟩:=W5 s hh hl H;have:CB h pl=b:=by unfold CB; rw[b1]; rfl
 rw[this];exact⟨b1,b2⟩
theorem ju(s:HSmall h)(hh:AP h=E){pl:Q X0}(hl:pl.length≤12)(H:DL h pl):Nn h.Crew h.Chart h.Fleet (By pl)=O (CB h pl):=by
 obtain⟨b,b1,b2⟩:=xa s hh hl H;have:b=CB h pl:=by rw[zR,b2,(KU s hh hl H).2]
 rw[b1,this]
theorem xf(s:HSmall h)(hh:AP h=E){wv:Q X0→Xj}:∀(ls:Q (Q X0)) (pl:Q X0) (ch:Q X) (A:Fnd),(∀l∈ls,GoodC h l)→GoodC h pl→pl.length+ls.length≤12→CB h pl=G→Bm h wv ls pl ch A=A:=by
 intro ls
 induction ls with
 | nil=>intro pl ch A _ _ _ hf; rw[Bm,if_neg (by rw[hf]; simp)]
 | cons l ls ih=>
  intro pl ch A hg hp hl hf;simp only[kS] at hl
  rw[Bm];refine W7 fun o ho n=> ?_
  have ho':=hg l (yJ ..) o ho;split
  ·refine ih _ _ _ (fun l hm=>hg l (yH _ hm)) (hp.snoc ho') (by simp; omega) ?_;cases e:CB h (pl++ [o]) with
   | false=>rfl
   | true=>
    have F:=(KU s hh (by simp; omega) (hp.snoc ho').pl).2.1 e;have:=(KU s hh (by omega) hp.pl).2.2 (FitP.app hh s (hp.snoc ho').pl (by omega) F);rw[hf] at this
    cases this
  ·rfl
theorem A21{a b c:Xj}(h1:wl a b=G)(h2:wl b c=G):wl a c=G:=by
 simp only[wl,Bool.or_eq_false_iff,Bool.and_eq_false_iff,decide_eq_false_iff_not] at *
 omega
def El(h:X4)(os:Q (Q X0)):Q (Q (Q (Q Y))):=os.map fun a=>os.map fun b=>a.map fun o=>b.map fun p=>Bf h.Chart h.Regime o.Passages p.Passages
theorem ja(hh:AP h=E)(h6:os.length≤6)(h8:∀l∈os,l.length≤8)(hg:∀l∈os,GoodC h l):NU h os=O (El h os):=by
 obtain⟨_,hc,_,hr,_⟩:=EE hh;unfold NU;refine EQ (L:=D7 os h) os (fun a=>os.map fun b=>a.map fun o=>b.map fun p=>Bf h.Chart h.Regime o.Passages p.Passages) O (Aj (by omega)) (fun n i acc hi ha=> ?_) fun n acc _=>by rw[D7,if_neg (by simp)]
 rw[D7];simp only[Ai,hi,decide_true,if_true,Ae hi,zB];have g1:=h8 _ (zF hi);refine(EQ (L:=E0 os os[i] (i:X) h acc (D7 os h n)) os (fun b=>os[i].map fun o=>b.map fun p=>Bf h.Chart h.Regime o.Passages p.Passages) (fun v=>if A3 acc.length [v].length 24=E then D7 os h n (kY .i64 ((i:X)+1)) (acc++ [v]) else none) (Aj (by omega)) (fun n2 j ac2 hj ha2=> ?_) fun n2 ac2 _=>by rw[E0,if_neg (by simp)]).trans (by rw[if_pos (AT (by omega) (by simp) (by omega))]);rw[E0];simp only[Ai,hj,decide_true,if_true,Ae hj,zB];have g2:=h8 _ (zF hj);refine(EQ (L:=FA os os[i] os[j] (i:X) (j:X) h acc ac2 (E0 os os[i] (i:X) h acc (D7 os h n) n2)) os[i] (fun o=>os[j].map fun p=>Bf h.Chart h.Regime o.Passages p.Passages) (fun v=>if A3 ac2.length [v].length 24=E then E0 os os[i] (i:X) h acc (D7 os h n) n2 (kY .i64 ((j:X)+1)) (ac2++ [v]) else none) (Aj (by omega)) (fun n3 k ac3 hk ha3=> ?_) fun n3 ac3 _=>by rw[FA,if_neg (by simp)]).trans (by rw[if_pos (AT (by omega) (by simp) (by omega))]);rw[FA];simp only[Ai,hk,decide_true,if_true,Ae hk,zB];have o1:=(hg _ (zF hi) _ (zF hk)).1;refine(EQ (L:=IS os os[i] os[j] (i:X) (j:X) (k:X) h os[i][k] acc ac2 ac3 (FA os os[i] os[j] (i:X) (j:X) h acc ac2 (E0 os os[i] (i:X) h acc (D7 os h n) n2) n3)) os[j] (fun p=>Bf h.Chart h.Regime os[i][k].Passages p.Passages) (fun v=>if A3 ac3.length [v].length 24=E then FA os os[i] os[j] (i:X) (j:X) h acc ac2 (E0 os os[i] (i:X) h acc (D7 os h n) n2) n3 (kY .i64 ((k:X)+1)) (ac3++ [v]) else none) (Aj (by omega)) (fun n4 m ac4 hm ha4=> ?_) fun n4 ac4 _=>by rw[IS,if_neg (by simp)]).trans (by rw[if_pos (AT (by omega) (by simp) (by omega))]);have o2:=(hg _ (zF hj) _ (zF hm)).1;rw[IS];simp only[Ai,hm,decide_true,if_true,Ae hm,zB,(Sn hc hr o1.1.inn o2.1.inn (Aj (by omega)) (Aj (by omega))).1];rw[if_pos (AT (by omega) (by simp) (by omega))]
def Chos(os:Q (Q X0))(pl:Q X0)(ch:Q X):Prop:=pl.length=ch.length∧∀i (h:i<pl.length),∃(l:Q X0) (c:Z),os[i]?=O l∧ch[i]?=O (c:X)∧l[c]?=O pl[i]
theorem Chos.snoc{pl:Q X0}{ch:Q X}(H:Chos os pl ch){l:Q X0}(hl:os[pl.length]?=O l){i:Z}(hi:i<l.length):Chos os (pl++ [l[i]]) (ch++ [(i:X)]):=by
 obtain⟨h1,h2⟩:=H;refine⟨by simp; omega,fun j hj=> ?_⟩;simp only[zO,zY] at hj
 by_cases h:j<pl.length
 ·obtain⟨l',c,c1,c2,c3⟩:=h2 j h;exact⟨l',c,c1,by rw[zH (by omega)]; exact c2,by rw[zM h]; exact c3⟩
 ·obtain rfl:j=pl.length:=by omega
  exact⟨l,i,hl,by rw[h1,zT (by omega)]; simp,by rw[yI (by omega),zC hi]; simp⟩
theorem YX(a b:Xj):MC a b=O (wl a b):=by
 unfold MC wl;by_cases h1:a.i0<b.i0
 ·simp[h1]
 ·by_cases h2:a.i0=b.i0
  ·simp[h2]
  ·simp[h1,h2]
theorem Zk{pl:Q X0}{o:X0}:C5 h pl o=E↔RY h pl o:=by
 simp only[C5,RY,Bool.not_eq_true',List.any_eq_false];exact⟨fun H x hx=>by simpa using H x hx,fun H x hx=>by simpa using H x hx⟩
end
theorem jP{m n:Z}(h:m+n≤140737488355328):Cy m n=E:=by
 unfold Cy;rw[decide_eq_true_eq];omega
theorem ifc{α:Type}{m n:Z}(h:m+n≤140737488355328)(x y:α):(if Cy m n=E then x else y)=x:=by rw[if_pos (jP h)]
theorem sC{l:Q (Q I)}{sep:Q I}(hl:l.length≤140737488355328)(hj:(join l sep).length≤140737488355328):JZ l sep=O (join l sep):=by
 simp[JZ,Qv,hl,hj]
end Go.Vi
