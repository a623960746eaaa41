/-
Plain laws. No condition.
-/
import Derived.Test.YtkkaabmffppplaaGreatCNf
import Derived.Test.YtkkaabmffppplaaGreatCVi44
import Derived.KernelRfl
namespace Go.Vi
set_option linter.all false
open Option renaming bind_some → zB, some → O
open List renaming getElem?_eq_getElem → zC, getElem_mem → zF, getElem?_append_left → zH, replicate → zI, take_succ_eq_append_getElem → zJ, range → zL, getElem_append_left → zM, getElem_of_mem → zN, length_append → zO, mem_singleton → zS, getElem?_append_right → zT, length_pos_iff → zU, mem_append → zV, drop_eq_getElem_cons → zW, getLast?_eq_getElem? → zX, length_singleton → zY, all_eq_true → yB, getElem?_set_ne → yE, take_length → yF, getElem?_set_self → yG, mem_cons_of_mem → yH, getElem_append_right → yI, mem_cons_self → yJ, range' → yK, append_assoc → yL, drop_zero → yX, getElem?_cons_zero → yY, getElem?_map → kA, head?_eq_getElem? → kC, map → kD, getElem_set_self → kE, foldr_cons → kF, nil_append → kG, take_append_of_le_length → kH, flatten_append → kI, mem_range → kJ, getElem?_eq_some_iff → kL, getLast?_eq_none_iff → kM, range'_succ → kN, any_eq_true → kP, getElem_map → kQ, mem_map → kR, length_cons → kS, map_append → kV
open Bool renaming false_eq_true → zD, and_eq_true → zE, true_and → zQ, eq_iff_iff → zR, or_eq_true → kU, not_true → kX, true → E, false → G
open Option.some renaming injEq → zG, inj → kW
open Nat renaming zero_le → zK, mod_two_eq_zero_or_one → yA, lt_or_ge → yC, lt_trans → yD, testBit_or → yM, testBit_two_pow_sub_one → yN, pow_le_pow_right → yO, eq_of_testBit_eq → yP, pow_lt_pow_right → yQ, testBit_and → yS, lt_of_lt_of_le → yT, lt_of_le_of_lt → yV, mul_le_mul → yW, or_lt_two_pow → yZ, le_refl → kB, pow_pos → kK, sub_zero → kO, and_div_two → kT
open Int renaming toNat_natCast → zP, tdiv → zZ, tmod_eq_emod_of_nonneg → yR, tmod → yU
open IntKind renaming wrap → kY
open _root_ renaming List → Q, Option → U, Int → X, Bool → Y, Nat → Z, UInt8 → I, rfl → zA
def AJ(a b:Z):Z:=a ^^^ (a &&& b)
theorem Fb(a b i:Z):(AJ a b).testBit i=(a.testBit i&& !b.testBit i):=by
 simp only[AJ,Nat.testBit_xor,yS];cases a.testBit i<;>cases b.testBit i<;>rfl
theorem Kg(n i:Z):(2 ^ n).testBit i=decide (n=i):=Nat.testBit_two_pow
theorem I3{s n i:Z}(h:s<2 ^ n)(hi:s.testBit i=E):i<n:=by
 rcases yC i n with h1|h1
 ·exact h1
 ·have:s<2 ^ i:=yT h (yO (by omega) h1);rw[Nat.testBit_lt_two_pow this] at hi
  cases hi
theorem A44{s i:Z}(hi:s.testBit i=E):i<s:=I3 Nat.lt_two_pow_self hi
theorem bf(p:Z→Y):∀k:Z,∃q:Z,∀i,q.testBit i=(decide (i<k)&&p i)
 | 0=>⟨0,fun i=>by simp⟩
 | k+1=>by
  obtain⟨q,hq⟩:=bf p k;refine⟨q ||| (if p k then 2 ^ k else 0),fun i=> ?_⟩;rw[yM,hq];by_cases hp:p k=E
  ·rw[if_pos hp,Kg];by_cases h:k=i
   ·subst h; simp[hp]
   ·have:decide (i<k+1)=decide (i<k):=by simp; omega
    simp[h,this]
  ·rw[if_neg hp,Nat.zero_testBit];by_cases h:k=i
   ·subst h; simp[hp]
   ·have:decide (i<k+1)=decide (i<k):=by simp; omega
    simp[this]
theorem A4l{q r:Z}(h:q &&& r=q){i:Z}(hi:q.testBit i=E):r.testBit i=E:=by
 have:=congrArg (fun x=>x.testBit i) h;simp only[yS,hi,zQ] at this
 exact this
theorem Vb{q r:Z}(h:∀i,q.testBit i=E→r.testBit i=E):q &&& r=q:=by
 apply yP
 intro i;rw[yS];cases hq:q.testBit i with
 | false=>rfl
 | true=>rw[h i hq]; rfl
theorem A0e:∀(n r p q:Z),r≤n→p &&& r=p→q &&& r=q→q<p→q≤(p - 1) &&& r:=by
 intro n
 induction n with
 | zero=>
  intro r p q hr hp hq hlt;have:r=0:=by omega
  subst this;rw[Nat.and_zero] at hp hq
  omega
 | succ n ih=>
  intro r p q hr hp hq hlt;by_cases h0:r=0
  ·subst h0;rw[Nat.and_zero] at hp hq
   omega
  have hp2:(p / 2) &&& (r / 2)=p / 2:=by rw[← kT,hp]
  have hq2:(q / 2) &&& (r / 2)=q / 2:=by rw[← kT,hq]
  have e2:∀a b:Z,(a &&& b) % 2=(a % 2)*(b % 2):=fun a b=>by
   have h:=yS a b 0;simp only[Nat.testBit_zero] at h;rcases yA a with ha|ha<;>rcases yA b with hb|hb<;>rcases yA (a &&& b) with hc|hc<;>simp_all
  have hpm:=e2 p r;have hqm:=e2 q r;rw[hp] at hpm
  rw[hq] at hqm
  have hd:((p - 1) &&& r) / 2=((p - 1) / 2) &&& (r / 2):=kT;have hm:=e2 (p - 1) r;rcases yA p with h1|h1
  ·
   have i1:=ih (r / 2) (p / 2) (q / 2) (by omega) hp2 hq2 (by omega);have e3:(p - 1) / 2=p / 2 - 1:=by omega
   rw[e3] at hd
   have e4:(p - 1) % 2=1:=by omega
   rw[e4,Nat.one_mul] at hm
   have hqr:q % 2≤r % 2:=by
    rcases yA q with h2|h2
    ·omega
    ·rw[h2,Nat.one_mul] at hqm; omega
   omega
  ·have e3:(p - 1) / 2=p / 2:=by omega
   rw[e3,hp2] at hd
   omega
theorem lm{p r:Z}(h:0<p):(p - 1) &&& r<p:=by
 have:= @Nat.and_le_left (p - 1) r;omega
theorem lp(p r:Z):(p &&& r) &&& r=p &&& r:=by rw[Nat.and_assoc,Nat.and_self]
def EB(B:Z→Z→Y)(S m:Z):Prop:=∃f:Z→Z,(∀i,S.testBit i=E→f i<m)∧∀i j,S.testBit i=E→S.testBit j=E→i≠j→f i=f j→B i j=E
def Fm(B:Z→Z→Y)(S:Z):Prop:=∀i j,S.testBit i=E→S.testBit j=E→i≠j→B i j=E
def Ci(B:Z→Z→Y)(S n:Z):Prop:=EB B S n∧∀m,EB B S m→n≤m
theorem QK{B:Z→Z→Y}{S n:Z}(h:S<2 ^ n):EB B S n:=⟨id,fun i hi=>I3 h hi,fun i j _ _ hne e=>absurd e hne⟩
theorem V2{B:Z→Z→Y}:Ci B 0 0:=⟨⟨id,fun i hi=>by simp at hi,fun i j hi=>by simp at hi⟩,fun m _=>zK m⟩
theorem oC{B:Z→Z→Y}{S t rest q n:Z}(hS:∀i,S.testBit i=E→i=t∨rest.testBit i=E)(hq:Fm B (q ||| 2 ^ t))(h:EB B (AJ rest q) n):EB B S (1+n):=by
 obtain⟨f,f1,f2⟩:=h
 have key:∀i,S.testBit i=E→(i=t∨q.testBit i=E)∨(AJ rest q).testBit i=E:=fun i hi=>by
  rcases hS i hi with h|h
  ·exact .inl (.inl h)
  ·cases hb:q.testBit i with
   | true=>exact .inl (.inr rfl)
   | false=>right; rw[Fb,h,hb]; rfl
 have hin:∀i,(i=t∨q.testBit i=E)→(q ||| 2 ^ t).testBit i=E:=fun i hi=>by
  rw[yM,Kg];rcases hi with h|h
  ·simp[h]
  ·simp[h]
 refine⟨fun i=>if i=t∨q.testBit i=E then n else f i,fun i hi=> ?_,fun i j hi hj hne e=> ?_⟩
 ·by_cases hx:i=t∨q.testBit i=E
  ·simp only[hx,if_true]; omega
  ·simp only[hx,if_false];rcases key i hi with h|h
   ·exact absurd h hx
   ·have:=f1 i h; omega
 ·by_cases hx:i=t∨q.testBit i=E
  ·by_cases hy:j=t∨q.testBit j=E
   ·exact hq i j (hin i hx) (hin j hy) hne
   ·simp only[hx,hy,if_true,if_false] at e
    have:=f1 j ((key j hj).resolve_left hy);omega
  ·by_cases hy:j=t∨q.testBit j=E
   ·simp only[hx,hy,if_true,if_false] at e
    have:=f1 i ((key i hi).resolve_left hx);omega
   ·simp only[hx,hy,if_false] at e
    exact f2 i j ((key i hi).resolve_left hx) ((key j hj).resolve_left hy) hne e
theorem oD{B:Z→Z→Y}{S t rest m:Z}(hS:S.testBit t=E)(hr:∀i,rest.testBit i=E→S.testBit i=E)(h:EB B S m):∃q n,q &&& rest=q∧Fm B (q ||| 2 ^ t)∧n+1=m∧EB B (AJ rest q) n:=by
 obtain⟨f,f1,f2⟩:=h;obtain⟨q,hq⟩:=bf (fun i=>rest.testBit i&&decide (f i=f t)) rest
 have hq2:∀i,q.testBit i=E↔rest.testBit i=E∧f i=f t:=fun i=>by
  rw[hq i];constructor
  ·intro h;simp only[zE,decide_eq_true_eq] at h;exact h.2
  ·intro⟨h1,h2⟩;simp only[zE,decide_eq_true_eq];exact⟨A44 h1,h1,h2⟩
 have hm:=f1 t hS;refine⟨q,m - 1,Vb fun i hi=>((hq2 i).1 hi).1,fun i j hi hj hne=> ?_,by omega,fun i=>if f i=m - 1 then f t else f i,fun i hi=> ?_,fun i j hi hj hne e=> ?_⟩
 ·have side:∀i,(q ||| 2 ^ t).testBit i=E→S.testBit i=E∧f i=f t:=fun i hi=>by
   rw[yM,Kg,kU,decide_eq_true_eq] at hi
   rcases hi with h|h
   ·exact⟨hr i ((hq2 i).1 h).1,((hq2 i).1 h).2⟩
   ·subst h; exact⟨hS,rfl⟩
  obtain⟨i1,i2⟩:=side i hi;obtain⟨j1,j2⟩:=side j hj;exact f2 i j i1 j1 hne (i2.trans j2.symm)
 ·rw[Fb,zE] at hi
  have hne:f i≠f t:=fun e=>by
   have:=(hq2 i).2 ⟨hi.1,e⟩;rw[this] at hi
   simp at hi
  have:=f1 i (hr i hi.1);show(if f i=m - 1 then f t else f i)<m - 1
  split<;>omega
 ·rw[Fb,zE] at hi hj
  have hni:f i≠f t:=fun e=>by
   have:=(hq2 i).2 ⟨hi.1,e⟩;rw[this] at hi
   simp at hi
  have hnj:f j≠f t:=fun e=>by
   have:=(hq2 j).2 ⟨hj.1,e⟩;rw[this] at hj
   simp at hj
  have e2:f i=f j:=by
   have e:(if f i=m - 1 then f t else f i)=(if f j=m - 1 then f t else f j):=e;split at e<;>split at e<;>omega
  exact f2 i j (hr i hi.1) (hr j hj.1) hne e2
def D2(B:Z→Z→Y)(N m:Z)(w:Q Z):Prop:=∃f:Z→Z,(∀(j:Z) (h:j<w.length),f j=w[j])∧(∀j,j<N→f j<m)∧∀i j,i<N→j<N→i≠j→f i=f j→B i j=E
def Ko(B:Z→Z→Y)(w:Q Z)(c:Z):Prop:=∀(k:Z) (h:k<w.length),w[k]=c→B w.length k=E
theorem rz{B:Z→Z→Y}{N m:Z}{w:Q Z}{c:Z}(h:D2 B N m (w++ [c])):D2 B N m w:=by
 obtain⟨f,f1,f2⟩:=h;exact⟨f,fun j hj=>by rw[f1 j (by simp; omega),zM hj],f2⟩
theorem sB{B:Z→Z→Y}{N m u:Z}{w:Q Z}(hw:w.length<N)(hu:∀x∈w,x<u)(h:D2 B N m w):∃c,c≤u∧c<m∧Ko B w c∧D2 B N m (w++ [c]):=by
 obtain⟨f,f1,f2,f3⟩:=h
 have done:∀f:Z→Z,(∀(j:Z) (h:j<w.length),f j=w[j])→(∀j,j<N→f j<m)→(∀i j,i<N→j<N→i≠j→f i=f j→B i j=E)→f w.length≤u→∃c,c≤u∧c<m∧Ko B w c∧D2 B N m (w++ [c]):=by
  intro f f1 f2 f3 hle;refine⟨f w.length,hle,f2 _ hw,fun k hk e=>f3 _ _ hw (by omega) (by omega) ((e.symm.trans (f1 k hk).symm)),f,fun j hj=> ?_,f2,f3⟩;rcases yC j w.length with h|h
  ·rw[zM h]; exact f1 j h
  ·have:j=w.length:=by simp at hj; omega
   subst this;simp
 by_cases hc:f w.length≤u
 ·exact done f f1 f2 f3 hc
 ·have hm:=f2 _ hw;refine done (fun x=>if f x=f w.length then u else if f x=u then f w.length else f x) (fun j hj=> ?_) (fun j hj=> ?_) (fun i j hi hj hne e=>f3 i j hi hj hne ?_) (by simp)
  ·have e1:=f1 j hj;have e2:=hu _ (zF hj);show(if f j=f w.length then u else if f j=u then f w.length else f j)=w[j]
   rw[if_neg (by omega),if_neg (by omega),e1]
  ·have:=f2 j hj;show(if f j=f w.length then u else if f j=u then f w.length else f j)<m
   split
   ·omega
   ·split<;>omega
  ·have e:(if f i=f w.length then u else if f i=u then f w.length else f i)=(if f j=f w.length then u else if f j=u then f w.length else f j):=e;split at e<;>split at e<;>(try split at e)<;>(try split at e)<;>omega
theorem sA{B:Z→Z→Y}{N m:Z}{w:Q Z}(hl:w.length=N)(hm:∀x∈w,x<m)(hB:∀i j,B i j=B j i)(hv:∀(i k:Z) (hi:i<w.length) (hk:k<i),w[i]=w[k]→B i k=E):D2 B N m w:=by
 subst hl;have e:∀(j:Z) (h:j<w.length),w[j]?.getD 0=w[j]:=fun j h=>by rw[zC h]; rfl
 refine⟨fun j=>w[j]?.getD 0,fun j hj=>e j hj,fun j hj=> ?_,fun i j hi hj hne h=> ?_⟩
 ·show w[j]?.getD 0<m
  rw[e j hj]; exact hm _ (zF hj)
 ·have h:w[i]?.getD 0=w[j]?.getD 0:=h;rw[e i hi,e j hj] at h;rcases yC j i with hlt|hge
  ·exact hv i j hi hlt h
  ·rw[hB]; exact hv j i hj (by omega) h.symm
theorem Yk{B:Z→Z→Y}{N m:Z}:EB B (2 ^ N - 1) m↔D2 B N m []:=by
 have ht:∀i,(2 ^ N - 1).testBit i=decide (i<N):=fun i=>yN N i
 constructor
 ·rintro⟨f,f1,f2⟩
  exact⟨f,fun j h=>by simp at h,fun j hj=>f1 j (by rw[ht]; simpa using hj),fun i j hi hj hne e=>f2 i j (by rw[ht]; simpa using hi) (by rw[ht]; simpa using hj) hne e⟩
 ·rintro⟨f,_,f1,f2⟩
  exact⟨f,fun j hj=>f1 j (by rw[ht] at hj; simpa using hj),fun i j hi hj hne e=>f2 i j (by rw[ht] at hi; simpa using hi) (by rw[ht] at hj; simpa using hj) hne e⟩
theorem By(n lo hi:X):Az n lo hi=O (decide (lo≤n)&&decide (n≤hi)):=by
 unfold Az;by_cases h:lo≤n<;>simp[h]
theorem DC(n lo hi:X):BT n lo hi=O (decide (lo≤n)&&decide (n≤hi)):=by
 unfold BT;by_cases h:lo≤n<;>simp[h]
theorem Es{n bytes:Z}(h:n≤1048576)(hb:bytes≤1000):BM (n:X) (n:X) bytes=O n:=by
 unfold BM
 have:(n:X)*(bytes:X)≤140737488355328:=by
  have:n*bytes≤1048576*1000:=yW h hb;have e:((n*bytes:Z):X)=(n:X)*(bytes:X):=by simp
  omega
 rw[if_pos ⟨by omega,by omega,this,by omega⟩];simp
theorem F1{n:Z}(h:n≤1048576):n≤maxLen:=by rw[AA]; omega
theorem A5b{xs:Q X}(h:xs.length≤1048576):Od xs=O xs:=by
 unfold Od;rw[Es h (by omega)];have:=GH (L:=Jc xs) xs id (F1 h) (fun n i acc hi ha=>by simp[Jc,Ak,hi,ha]) (fun n acc=>by simp[Jc]) (zI xs.length 0) (by simp);simpa using this
theorem rW{xs ys:Q X}(h:xs.length≤maxLen):NM xs ys=O (decide (xs=ys)):=by
 unfold NM;by_cases hl:xs.length=ys.length
 ·have:=GI (L:=IV xs ys) xs ys h hl (fun n i h1 h2=>by simp[IV,Ak,h1,h2]) (fun n=>by simp[IV]);simp[hl,this]
 ·have:¬(xs.length:X)=ys.length:=by omega
  have:xs≠ys:=fun e=>hl (by rw[e])
  simp_all
theorem Gg{α:Type}{row:α→Q D}{xs:Q α}(h:(D.sl (kD row xs)).Ok):xs.length≤maxLen:=by simpa using h.sl.1
theorem HE(n:X):D7 n=O (decide (0≤n)&&decide (n≤2880)):=by simp[D7,DC]
theorem YK{len:Z}(p:Z→Y)(K:U Y):∀(k i:Z),(yK i k).foldr (fun i r=>if p i=E then r else O G) K=if(yK i k).all p=E then K else O G
 | 0,i=>by simp
 | k+1,i=>by
  rw[kN,kF,YK (len:=len) p K k (i+1),List.all_cons];cases p i<;>rfl
theorem YL{len:Z}(p:Z→Y)(K:U Y):∀(k i:Z),(yK i k).foldr (fun i r=>if p i=E then O G else r) K=if(yK i k).any p=E then O G else K
 | 0,i=>by simp
 | k+1,i=>by
  rw[kN,kF,YL (len:=len) p K k (i+1),List.any_cons];cases p i<;>rfl
theorem GC{L:Z→X→U Y}(len:Z)(p:Z→Y)(K:U Y)(hl:len≤maxLen)
  (hs:∀(n i:Z),i<len→L (n+1) (i:X)=if p i=E then L n (kY .i64 ((i:X)+1)) else O G) (he:∀n,L (n+1) (len:X)=K):L bigN 0=if(zL len).all p=E then K else O G:=by
 have:=Kb L len hl (fun i r=>if p i=E then r else O G) K hs he len 0 bigN (by omega) (Bm hl);rw[YK (len:=len),← List.range_eq_range'] at this
 exact this
theorem XJ{L:Z→X→U Y}(len:Z)(p:Z→Y)(K:U Y)(hl:len≤maxLen)
  (hs:∀(n i:Z),i<len→L (n+1) (i:X)=if p i=E then O G else L n (kY .i64 ((i:X)+1))) (he:∀n,L (n+1) (len:X)=K):L bigN 0=if(zL len).any p=E then O G else K:=by
 have:=Kb L len hl (fun i r=>if p i=E then O G else r) K hs he len 0 bigN (by omega) (Bm hl);rw[YL (len:=len),← List.range_eq_range'] at this
 exact this
def K5(s:Q I)(i:Z):Y:=match s[i]? with
 | some b=>(decide (97≤(b.toNat:X))&&decide ((b.toNat:X)≤122)) || (!(decide (i=0))&&(decide (48≤(b.toNat:X))&&decide ((b.toNat:X)≤57)))
 | none=>G
def PS(s:Q I):Y:=decide (1≤(s.length:X))&&decide ((s.length:X)≤8)
def EX(s:Q I):Y:=PS s&&(zL s.length).all (K5 s)
theorem cC(c:X)(K:U Y)(z':Y)(z:X)(i:Z)(hz:z=(i:X)) :
  (if decide (97≤c)=E then(if decide (c≤122)=E then K else if(z==0)=E then O G else if decide (c<48)=E then O G else if decide (57<c)=E then O G else K)
   else if G=E then K else if(z==0)=E then O G else if decide (c<48)=E then O G else if decide (57<c)=E then O G else K) =
  if((decide (97≤c)&&decide (c≤122)) || (!(decide (i=0))&&(decide (48≤c)&&decide (c≤57))))=E then K else O G:=by
 subst hz;have e0:(((i:Z):X)==0)=decide (i=0):=by rw[zR]; simp
 have e1:decide (c<48)= !decide (48≤c):=by rw[zR]; simp
 have e2:decide (57<c)= !decide (c≤57):=by rw[zR]; simp
 rw[e0,e1,e2];cases decide (i=0)<;>cases decide (97≤c)<;>cases decide (c≤122)<;>cases decide (48≤c)<;>cases decide (c≤57)<;>rfl
theorem dF{s:Q I}(h:s.length≤maxLen):LH s=O (EX s):=by
 unfold LH;rw[GC (L:=Hb s) s.length (K5 s) (O (PS s)) h (fun n i hi=> ?_) (fun n=>by simp[Hb,By,PS])]
 ·unfold EX;cases(zL s.length).all (K5 s)<;>simp
 ·simp only[Hb,OB,OC,Ak,K5,zC hi,zB,Ae,hi,decide_true,if_true];exact cC _ _ E (i:X) i zA
theorem ah{s:Q I}(h:s.length≤maxLen):KU s=O (EX s):=by
 unfold KU;rw[DC];rw[GC (L:=GQ s) s.length (K5 s) (O E) h (fun n i hi=> ?_) (fun n=>by simp[GQ])]
 ·unfold EX PS;simp only[zB];cases(zL s.length).all (K5 s)<;>cases(decide (1≤(s.length:X))&&decide ((s.length:X)≤8))<;>simp
 ·simp only[GQ,N6,N7,Ak,K5,zC hi,zB,Ae,hi,decide_true,if_true];exact cC _ _ E (i:X) i zA
theorem Pb{R:Type}(p:Z→Y)(f:Z→R)(z:R):∀(k i:Z),(yK i k).foldr (fun i r=>if p i=E then O (f i) else r) (O z)=O ((yK i k).foldr (fun i r=>if p i=E then f i else r) z)
 | 0,i=>by simp
 | k+1,i=>by
  rw[kN,kF,Pb p f z k (i+1),kF];cases p i<;>simp
def Q0(xs:Q X8)(s:Q I)(i:Z):Y:=match xs[i]? with
 | some x=>decide (x.Name=s)
 | none=>G
def Q1(xs:Q X8)(s:Q I):X:=(yK 0 xs.length).foldr (fun i r=>if Q0 xs s i=E then(i:X) else r) (-1)
theorem A3i{c:X3}{s:Q I}(h:c.Points.length≤maxLen):OM c s=O (Q1 c.Points s):=by
 unfold OM;exact(Kb (JD s c) c.Points.length h (fun i r=>if Q0 c.Points s i=E then O (i:X) else r) (O (-1)) (fun n i hi=>by simp[JD,Ak,hi,Q0]) (fun n=>by simp[JD]) c.Points.length 0 bigN (by omega) (Bm h)).trans (Pb _ _ _ _ _)
theorem vt{c:X3}{s:Q I}(h:c.Points.length≤maxLen):Nh c s=O (Q1 c.Points s):=by
 unfold Nh;exact(Kb (Iy s c) c.Points.length h (fun i r=>if Q0 c.Points s i=E then O (i:X) else r) (O (-1)) (fun n i hi=>by simp[Iy,Ak,hi,Q0]) (fun n=>by simp[Iy]) c.Points.length 0 bigN (by omega) (Bm h)).trans (Pb _ _ _ _ _)
def jn(y:X2)(a b:X):Y:=(decide (y.A=a)&&decide (y.B=b)) || (decide (y.A=b)&&decide (y.B=a))
theorem A3p(y:X2)(a b:X):OZ y a b=O (jn y a b):=by
 unfold OZ jn;by_cases h1:y.A=a<;>by_cases h2:y.B=b<;>by_cases h3:y.A=b<;>by_cases h4:y.B=a<;>simp_all
theorem wC(y:X2)(a b:X):Nj y a b=O (jn y a b):=by
 unfold Nj jn;by_cases h1:y.A=a<;>by_cases h2:y.B=b<;>by_cases h3:y.A=b<;>by_cases h4:y.B=a<;>simp_all
theorem A4q{xs:Q X}{l:X}(h0:0≤l)(h1:l≤1048576)(hx:xs.length≤maxLen):∃r,O3 xs l=O r∧(0≤r→r≤l∧xs.length≤1048576):=by
 unfold O3;rw[AA] at hx
 rw[Aj (by omega) (by omega)];by_cases h:l - (xs.length:X)<0
 ·exact⟨-1,by simp[h],by omega⟩
 ·exact⟨l - xs.length,by simp[h],by omega⟩
theorem JY(i n:X):Bv i n=O (decide (0≤i)&&decide (i<n)):=by
 unfold Bv;by_cases h:0≤i<;>simp[h]
def idx(i:X)(n:Z):Y:=decide (0≤i)&&decide (i<(n:X))
theorem UL(i:X){n:Z}(h:n≤1000):(decide (0≤i)&&decide (i≤kY .i64 ((n:X) - 1)))=idx i n:=by
 rw[Aj (by omega) (by omega)];unfold idx;congr 1
 rw[zR];simp;omega
def DU(c:X3)(i:Z):Y:=match c.Segments[i]? with
 | some x=>idx x.A c.Points.length&&(idx x.B c.Points.length&&(!(decide (x.A=x.B))&&((decide (0≤x.Depth)&&decide (x.Depth≤3000))&&((decide (1≤x.Minutes)&&decide (x.Minutes≤240))&& !((zL i).any fun j=>match c.Segments[j]? with | some y=>jn y x.A x.B | none=>G)))))
 | none=>G
def HT(c:X3)(i:Z):Y:=match c.Points[i]? with
 | some x=>EX x.Name&&decide (Q1 c.Points x.Name=(i:X))
 | none=>G
def AH(c:X3):Y:=decide (c.Points.length≤8)&&(decide (c.Segments.length≤10)&&((zL c.Points.length).all (HT c)&&(zL c.Segments.length).all (DU c)))
theorem E7{n i:Z}(h:i≤n):bnd (n:X) (i:X) (0:X) n=O (0,i):=by
 unfold bnd;rw[if_pos ⟨by omega,by omega,by omega,by omega⟩];simp
theorem dx{α:Type}{l:Q α}{i j:Z}(hj:j<i):(l.take i)[j]?=l[j]?:=by simp[List.getElem?_take,hj]
theorem DB{c:X3}(hn:∀x∈c.Points,x.Name.length≤maxLen):D8 c=O (AH c):=by
 unfold D8 AH;by_cases h1:c.Points.length≤8
 ·have h1':¬(8:X)<c.Points.length:=by omega
  by_cases h2:c.Segments.length≤10
  ·have h2':¬(10:X)<c.Segments.length:=by omega
   have hp:c.Points.length≤maxLen:=by rw[AA]; omega
   have hs:c.Segments.length≤maxLen:=by rw[AA]; omega
   have inner:EP c bigN 0=O ((zL c.Segments.length).all (DU c)):=by
    rw[GC (L:=EP c) c.Segments.length (DU c) (O E) hs (fun n i hi=> ?_) (fun n=>by simp[EP])]
    ·cases(zL c.Segments.length).all (DU c)<;>rfl
    ·simp only[EP,Ak,zC hi,zB,Ae,hi,decide_true,if_true,By,UL _ (show c.Points.length≤1000 by omega),E7 (Nat.le_of_lt hi),DU,yX,kO];have hl:(c.Segments.take i).length=i:=by simp; omega
     rw[hl]
     rw[XJ (L:=Jo c i c.Segments[i] (c.Segments.take i) (i:X) (EP c n)) i (fun j=>match c.Segments[j]? with | some y=>jn y c.Segments[i].A c.Segments[i].B | none=>G)
      (EP c n (kY .i64 ((i:X)+1))) (by omega) (fun m j hj=>by
       have hj2:j<c.Segments.length:=by omega
       simp only[Jo,Ak,dx hj,zC hj2,zB,Ae,hj,decide_true,if_true,A3p]) (fun m=>by simp[Jo])]
     have e:(c.Segments[i].A==c.Segments[i].B)=decide (c.Segments[i].A=c.Segments[i].B):=rfl;rw[e]
     cases idx c.Segments[i].A c.Points.length<;>cases idx c.Segments[i].B c.Points.length<;>cases decide (c.Segments[i].A=c.Segments[i].B)<;>cases(decide (0≤c.Segments[i].Depth)&&decide (c.Segments[i].Depth≤3000)) <;>
      cases(decide (1≤c.Segments[i].Minutes)&&decide (c.Segments[i].Minutes≤240))<;>cases((zL i).any fun j=>match c.Segments[j]? with | some y=>jn y c.Segments[i].A c.Segments[i].B | none=>G)<;>rfl
   rw[GC (L:=Jn c) c.Points.length (HT c) _ hp (fun n i hi=> ?_) (fun n=>by simp only[Jn,Int.lt_irrefl,decide_false,zD,if_false]; exact inner)]
   ·simp only[h1,h2,h1',h2',decide_true,decide_false,zQ,zD,if_false];cases(zL c.Points.length).all (HT c)<;>rfl
   ·simp only[Jn,Ak,zC hi,zB,Ae,hi,decide_true,if_true,dF (hn _ (zF hi)),A3i hp,HT];by_cases e:Q1 c.Points c.Points[i].Name=(i:X)<;>cases EX c.Points[i].Name<;>simp[e]
  ·have h2':(10:X)<c.Segments.length:=by omega
   simp[h1,h1',h2,h2']
 ·have h1':(8:X)<c.Points.length:=by omega
  simp[h1,h1']
theorem EW{c:X3}(hn:∀x∈c.Points,x.Name.length≤maxLen):Dn c=O (AH c):=by
 unfold Dn AH;by_cases h1:c.Points.length≤8
 ·have h1':¬(8:X)<c.Points.length:=by omega
  by_cases h2:c.Segments.length≤10
  ·have h2':¬(10:X)<c.Segments.length:=by omega
   have hp:c.Points.length≤maxLen:=by rw[AA]; omega
   have hs:c.Segments.length≤maxLen:=by rw[AA]; omega
   have inner:EH c bigN 0=O ((zL c.Segments.length).all (DU c)):=by
    rw[GC (L:=EH c) c.Segments.length (DU c) (O E) hs (fun n i hi=> ?_) (fun n=>by simp[EH])]
    ·cases(zL c.Segments.length).all (DU c)<;>rfl
    ·simp only[EH,Ak,zC hi,zB,Ae,hi,decide_true,if_true,DC,JY,show ∀(a:X) (n:Z),(decide (0≤a)&&decide (a<(n:X)))=idx a n from fun _ _=>rfl,E7 (Nat.le_of_lt hi),DU,yX,kO];have hl:(c.Segments.take i).length=i:=by simp; omega
     rw[hl]
     rw[XJ (L:=Ij c i c.Segments[i] (c.Segments.take i) (i:X) (EH c n)) i (fun j=>match c.Segments[j]? with | some y=>jn y c.Segments[i].A c.Segments[i].B | none=>G)
      (EH c n (kY .i64 ((i:X)+1))) (by omega) (fun m j hj=>by
       have hj2:j<c.Segments.length:=by omega
       simp only[Ij,Ak,dx hj,zC hj2,zB,Ae,hj,decide_true,if_true,wC]) (fun m=>by simp[Ij])]
     have e:(c.Segments[i].A==c.Segments[i].B)=decide (c.Segments[i].A=c.Segments[i].B):=rfl;rw[e]
     cases idx c.Segments[i].A c.Points.length<;>cases idx c.Segments[i].B c.Points.length<;>cases decide (c.Segments[i].A=c.Segments[i].B)<;>cases(decide (0≤c.Segments[i].Depth)&&decide (c.Segments[i].Depth≤3000)) <;>
      cases(decide (1≤c.Segments[i].Minutes)&&decide (c.Segments[i].Minutes≤240))<;>cases((zL i).any fun j=>match c.Segments[j]? with | some y=>jn y c.Segments[i].A c.Segments[i].B | none=>G)<;>rfl
   rw[GC (L:=Ii c) c.Points.length (HT c) _ hp (fun n i hi=> ?_) (fun n=>by simp only[Ii,Int.lt_irrefl,decide_false,zD,if_false]; exact inner)]
   ·simp only[h1,h2,h1',h2',decide_true,decide_false,zQ,zD,if_false];cases(zL c.Points.length).all (HT c)<;>rfl
   ·simp only[Ii,Ak,zC hi,zB,Ae,hi,decide_true,if_true,ah (hn _ (zF hi)),vt hp,HT];by_cases e:Q1 c.Points c.Points[i].Name=(i:X)<;>cases EX c.Points[i].Name<;>simp[e]
  ·have h2':(10:X)<c.Segments.length:=by omega
   simp[h1,h1',h2,h2']
 ·have h1':(8:X)<c.Points.length:=by omega
  simp[h1,h1']
theorem A5d{xs:Q X8}(h:xs.length≤1048576):Of xs=O xs:=by
 unfold Of;rw[Es h (by omega)];have:=GH (L:=Je xs) xs id (F1 h) (fun n i acc hi ha=>by simp[Je,Ak,hi,ha,Re]) (fun n acc=>by simp[Je]) (zI xs.length ⟨[],G⟩) (by simp);simpa using this
theorem A5e{xs:Q X2}(h:xs.length≤1048576):Og xs=O xs:=by
 unfold Og;rw[Es h (by omega)];have:=GH (L:=Jf xs) xs id (F1 h) (fun n i acc hi ha=>by simp[Jf,Ak,hi,ha,Rg]) (fun n acc=>by simp[Jf]) (zI xs.length ⟨0,0,0,0,G⟩) (by simp);simpa using this
theorem A47{c:X3}(h1:c.Points.length≤1048576)(h2:c.Segments.length≤1048576):Ob c=O c:=by
 simp[Ob,A5d h1,A5e h2]
theorem rf(x y:X8):NS x y=O (decide (x=y)):=by
 unfold NS;cases x; cases y;simp only[X8.mk.injEq];repeat' split
 all_goals simp_all
theorem re{xs ys:Q X8}(h:xs.length≤maxLen):NT xs ys=O (decide (xs=ys)):=by
 unfold NT;by_cases hl:xs.length=ys.length
 ·have:=GI (L:=IZ xs ys) xs ys h hl (fun n i h1 h2=>by simp[IZ,Ak,h1,h2,rf]) (fun n=>by simp[IZ]);simp[hl,this]
 ·have:¬(xs.length:X)=ys.length:=by omega
  have:xs≠ys:=fun e=>hl (by rw[e])
  simp_all
theorem rh(x y:X2):NU x y=O (decide (x=y)):=by
 unfold NU;cases x; cases y;simp only[X2.mk.injEq];repeat' split
 all_goals simp_all
theorem rg{xs ys:Q X2}(h:xs.length≤maxLen):NV xs ys=O (decide (xs=ys)):=by
 unfold NV;by_cases hl:xs.length=ys.length
 ·have:=GI (L:=J0 xs ys) xs ys h hl (fun n i h1 h2=>by simp[J0,Ak,h1,h2,rh]) (fun n=>by simp[J0]);simp[hl,this]
 ·have:¬(xs.length:X)=ys.length:=by omega
  have:xs≠ys:=fun e=>hl (by rw[e])
  simp_all
theorem rM{c:X3}(h1:c.Points.length≤maxLen)(h2:c.Segments.length≤maxLen):NI c c=O E:=by
 simp[NI,re h1,rg h2]
theorem A4t{x:X8}{l:X}(h0:0≤l)(h1:l≤1048576)(hx:x.Name.length≤maxLen):∃r,O5 x l=O r∧(0≤r→r≤l):=by
 unfold O5;rw[AA] at hx
 rw[Aj (by omega) (by omega)];by_cases h:l - (x.Name.length:X)<0
 ·exact⟨-1,by simp[h],by omega⟩
 ·exact⟨l - x.Name.length,by simp[h],by omega⟩
theorem A4s{xs:Q X8}{l:X}(h0:0≤l)(h1:l≤1048576)(hx:xs.length≤maxLen)(hn:∀x∈xs,x.Name.length≤maxLen):∃r,O6 xs l=O r∧(0≤r→r≤l∧xs.length≤1048576):=by
 unfold O6;have hx':=hx;rw[AA] at hx'
 rw[Aj (by omega) (by omega)];by_cases h:l - (xs.length:X)<0
 ·exact⟨-1,by simp[h],by omega⟩
 ·have key:∀(k i n:Z) (v:X),i+k=xs.length→k<n→0≤v→v≤l→∃r,H4 xs n v (i:X)=O r∧(0≤r→r≤l):=by
   intro k
   induction k with
   | zero=>
    intro i n v hi hn2 hv hv2;obtain⟨m,rfl⟩:∃m,n=m+1:=⟨n - 1,by omega⟩;have:i=xs.length:=by omega
    subst this;exact⟨v,by simp[H4],fun _=>hv2⟩
   | succ k ih=>
    intro i n v hi hn2 hv hv2;obtain⟨m,rfl⟩:∃m,n=m+1:=⟨n - 1,by omega⟩;have hlt:i<xs.length:=by omega
    obtain⟨r,e,hr⟩:=A4t (x:=xs[i]) hv (by omega) (hn _ (zF hlt));by_cases hr0:r<0
    ·exact⟨-1,by simp[H4,Ak,hlt,e,hr0],by omega⟩
    ·obtain⟨r2,e2,h2⟩:=ih (i+1) m r (by omega) (by omega) (by omega) (by have:=hr (by omega); omega);refine⟨r2,?_,h2⟩;rw[← An hlt hx] at e2
     simp only[H4,Ak,zC hlt,zB,Ae,hlt,decide_true,if_true,e,hr0,decide_false,zD,if_false];exact e2
  obtain⟨r,e,hr⟩:=key xs.length 0 bigN (l - xs.length) (by omega) (Bm hx) (by omega) (by omega);refine⟨r,?_,fun h=>⟨hr h,by omega⟩⟩;simp only[h,decide_false,zD,if_false];exact e
theorem A4u{xs:Q X2}{l:X}(h0:0≤l)(h1:l≤1048576)(hx:xs.length≤maxLen):∃r,O7 xs l=O r∧(0≤r→r≤l∧xs.length≤1048576):=by
 unfold O7;rw[AA] at hx
 rw[Aj (by omega) (by omega)];by_cases h:l - (xs.length:X)<0
 ·exact⟨-1,by simp[h],by omega⟩
 ·exact⟨l - xs.length,by simp[h],by omega⟩
theorem A4n{c:X3}{l:X}(h0:0≤l)(h1:l≤1048576)(hp:c.Points.length≤maxLen)(hs:c.Segments.length≤maxLen)(hn:∀x∈c.Points,x.Name.length≤maxLen) :
  ∃r,O1 c l=O r∧(0≤r→r≤l∧c.Points.length≤1048576∧c.Segments.length≤1048576):=by
 unfold O1;obtain⟨r,e,h⟩:=A4s h0 h1 hp hn;by_cases hr:r<0
 ·exact⟨-1,by simp[e,hr],by omega⟩
 ·obtain⟨k1,k2⟩:=h (by omega);obtain⟨r',e',h'⟩:=A4u (xs:=c.Segments) (l:=r) (by omega) (by omega) hs;by_cases hr':r'<0
  ·exact⟨-1,by simp[e,hr,e',hr'],by omega⟩
  ·obtain⟨k3,k4⟩:=h' (by omega);exact⟨r',by simp[e,hr,e',hr'],fun _=>⟨by omega,k2,k4⟩⟩
def Cz(s:X4):Y:=EX s.Name&&((decide (10≤s.Length)&&decide (s.Length≤400))&&((decide (100≤s.Draught)&&decide (s.Draught≤2000))&&((decide (0≤s.Line)&&decide (s.Line≤3))&&(decide (0≤s.Tugs)&&decide (s.Tugs≤4)))))
theorem ab(a b:Y):(if a=E then O b else O G)=O (a&&b):=by cases a<;>rfl
theorem Mr{s:X4}(h:s.Name.length≤maxLen):Eh s=O (Cz s):=by
 simp only[Eh,dF h,By,zB,ab,Cz]
theorem HC{s:X4}(h:s.Name.length≤maxLen):EJ s=O (Cz s):=by
 have e:(decide (0≤s.Line)&&decide (s.Line<4))=(decide (0≤s.Line)&&decide (s.Line≤3)):=by
  congr 1
  rw[zR]; simp; omega
 simp only[EJ,ah h,DC,JY,zB,ab,Cz,e]
def Q6(xs:Q X4)(s:Q I)(i:Z):Y:=match xs[i]? with
 | some x=>decide (x.Name=s)
 | none=>G
def Q7(xs:Q X4)(s:Q I):X:=(yK 0 xs.length).foldr (fun i r=>if Q6 xs s i=E then(i:X) else r) (-1)
theorem A3j{xs:Q X4}{s:Q I}(h:xs.length≤maxLen):OO xs s=O (Q7 xs s):=by
 unfold OO;exact(Kb (JG s xs) xs.length h (fun i r=>if Q6 xs s i=E then O (i:X) else r) (O (-1)) (fun n i hi=>by simp[JG,Ak,hi,Q6]) (fun n=>by simp[JG]) xs.length 0 bigN (by omega) (Bm h)).trans (Pb _ _ _ _ _)
theorem vu{xs:Q X4}{s:Q I}(h:xs.length≤maxLen):Nk xs s=O (Q7 xs s):=by
 unfold Nk;exact(Kb (IA s xs) xs.length h (fun i r=>if Q6 xs s i=E then O (i:X) else r) (O (-1)) (fun n i hi=>by simp[IA,Ak,hi,Q6]) (fun n=>by simp[IA]) xs.length 0 bigN (by omega) (Bm h)).trans (Pb _ _ _ _ _)
def LV(xs:Q X4)(i:Z):Y:=match xs[i]? with
 | some x=>Cz x&&decide (Q7 xs x.Name=(i:X))
 | none=>G
def DK(xs:Q X4):Y:=decide (xs.length≤6)&&(zL xs.length).all (LV xs)
theorem MM(a b:X):(a !=b)= !decide (a=b):=rfl
theorem dC{xs:Q X4}(hn:∀x∈xs,x.Name.length≤maxLen):LC xs=O (DK xs):=by
 unfold LC DK;by_cases h:xs.length≤6
 ·have h':¬(6:X)<xs.length:=by omega
  have hm:xs.length≤maxLen:=by rw[AA]; omega
  simp only[h,h',decide_true,decide_false,zD,if_false,zQ];refine MI (L:=Jv xs) xs.length (LV xs) hm (fun n i hi=> ?_) (fun n=>by simp[Jv]);simp only[Jv,Ae,hi,decide_true,if_true,Af hi,zB,Mr (hn _ (zF hi)),A3j hm,LV,zC hi,MM];cases Cz xs[i]<;>by_cases e:Q7 xs xs[i].Name=(i:X)<;>simp[e]
 ·have h':(6:X)<xs.length:=by omega
  simp[h,h']
theorem ae{xs:Q X4}(hn:∀x∈xs,x.Name.length≤maxLen):KQ xs=O (DK xs):=by
 unfold KQ DK;by_cases h:xs.length≤6
 ·have h':¬(6:X)<xs.length:=by omega
  have hm:xs.length≤maxLen:=by rw[AA]; omega
  simp only[h,h',decide_true,decide_false,zD,if_false,zQ];refine MI (L:=It xs) xs.length (LV xs) hm (fun n i hi=> ?_) (fun n=>by simp[It]);simp only[It,Ae,hi,decide_true,if_true,Af hi,zB,HC (hn _ (zF hi)),vu hm,LV,zC hi,MM];cases Cz xs[i]<;>by_cases e:Q7 xs xs[i].Name=(i:X)<;>simp[e]
 ·have h':(6:X)<xs.length:=by omega
  simp[h,h']
theorem Pa{xs:Q X4}(h:DK xs=E):xs.length≤6∧∀x∈xs,Cz x=E:=by
 simp only[DK,zE,decide_eq_true_eq,yB,kJ] at h;refine⟨h.1,fun x hx=> ?_⟩;obtain⟨i,hi,rfl⟩:=zN hx;have:=h.2 i hi;simp only[LV,zC hi,zE] at this
 exact this.1
def AI(x:X2)(s:X4):X:=if s.Slow=E then kY .i64 (2*x.Minutes) else x.Minutes
theorem Qa(x:X2)(s:X4):G3 x s=O (AI x s):=by unfold G3 AI; split<;>rfl
theorem Pr(x:X2)(s:X4):FA s x=O (AI x s):=by unfold FA AI; split<;>rfl
def Av(c:X3)(i:X):X2:=c.Segments[i.toNat]?.getD ⟨0,0,0,0,G⟩
def AR(l:Q X4)(i:X):X4:=l[i.toNat]?.getD ⟨[],0,0,0,0,G⟩
theorem S9{α:Type}{l:Q α}{i:X}(d:α)(h:idx i l.length=E):ix l i=O (l[i.toNat]?.getD d)∧l[i.toNat]?.getD d∈l:=by
 simp only[idx,zE,decide_eq_true_eq] at h;obtain⟨k,rfl⟩:∃k:Z,i=(k:X):=⟨i.toNat,by omega⟩;have hk:k<l.length:=by omega
 have e:l[((k:Z):X).toNat]?.getD d=l[k]:=by simp[hk]
 rw[Af hk,e];exact⟨zA,zF hk⟩
theorem BL{c:X3}{i:X}(h:idx i c.Segments.length=E):ix c.Segments i=O (Av c i)∧Av c i∈c.Segments:=S9 _ h
theorem JZ{l:Q X4}{i:X}(h:idx i l.length=E):ix l i=O (AR l i)∧AR l i∈l:=S9 _ h
theorem CK(i:X){n:Z}(h:n≤1000):Az i 0 (kY .i64 ((n:X) - 1))=O (idx i n):=by rw[By,UL i h]
theorem En(i:X)(n:Z):Bv i (n:X)=O (idx i n):=JY i n
theorem A5f{xs:Q X4}(h:xs.length≤1048576):Oh xs=O xs:=by
 unfold Oh;rw[Es h (by omega)];have:=GH (L:=Jg xs) xs id (F1 h) (fun n i acc hi ha=>by simp[Jg,Ak,hi,ha,Rh]) (fun n acc=>by simp[Jg]) (zI xs.length ⟨[],0,0,0,0,G⟩) (by simp);simpa using this
theorem rj(x y:X4):NW x y=O (decide (x=y)):=by
 unfold NW;cases x; cases y;simp only[X4.mk.injEq];repeat' split
 all_goals simp_all
theorem ri{xs ys:Q X4}(h:xs.length≤maxLen):NX xs ys=O (decide (xs=ys)):=by
 unfold NX;by_cases hl:xs.length=ys.length
 ·have:=GI (L:=J1 xs ys) xs ys h hl (fun n i h1 h2=>by simp[J1,Ak,h1,h2,rj]) (fun n=>by simp[J1]);simp[hl,this]
 ·have:¬(xs.length:X)=ys.length:=by omega
  have:xs≠ys:=fun e=>hl (by rw[e])
  simp_all
theorem A4w{x:X4}{l:X}(h0:0≤l)(h1:l≤1048576)(hx:x.Name.length≤maxLen):∃r,O8 x l=O r∧(0≤r→r≤l):=by
 unfold O8;rw[AA] at hx
 rw[Aj (by omega) (by omega)];by_cases h:l - (x.Name.length:X)<0
 ·exact⟨-1,by simp[h],by omega⟩
 ·exact⟨l - x.Name.length,by simp[h],by omega⟩
theorem A4v{xs:Q X4}{l:X}(h0:0≤l)(h1:l≤1048576)(hx:xs.length≤maxLen)(hn:∀x∈xs,x.Name.length≤maxLen):∃r,O9 xs l=O r∧(0≤r→r≤l∧xs.length≤1048576):=by
 unfold O9;have hx':=hx;rw[AA] at hx'
 rw[Aj (by omega) (by omega)];by_cases h:l - (xs.length:X)<0
 ·exact⟨-1,by simp[h],by omega⟩
 ·have key:∀(k i n:Z) (v:X),i+k=xs.length→k<n→0≤v→v≤l→∃r,H5 xs n v (i:X)=O r∧(0≤r→r≤l):=by
   intro k
   induction k with
   | zero=>
    intro i n v hi hn2 hv hv2;obtain⟨m,rfl⟩:∃m,n=m+1:=⟨n - 1,by omega⟩;have:i=xs.length:=by omega
    subst this;exact⟨v,by simp[H5],fun _=>hv2⟩
   | succ k ih=>
    intro i n v hi hn2 hv hv2;obtain⟨m,rfl⟩:∃m,n=m+1:=⟨n - 1,by omega⟩;have hlt:i<xs.length:=by omega
    obtain⟨r,e,hr⟩:=A4w (x:=xs[i]) hv (by omega) (hn _ (zF hlt));by_cases hr0:r<0
    ·exact⟨-1,by simp[H5,Ak,hlt,e,hr0],by omega⟩
    ·obtain⟨r2,e2,h2⟩:=ih (i+1) m r (by omega) (by omega) (by omega) (by have:=hr (by omega); omega);refine⟨r2,?_,h2⟩;rw[← An hlt hx] at e2
     simp only[H5,Ak,zC hlt,zB,Ae,hlt,decide_true,if_true,e,hr0,decide_false,zD,if_false];exact e2
  obtain⟨r,e,hr⟩:=key xs.length 0 bigN (l - xs.length) (by omega) (Bm hx) (by omega) (by omega);refine⟨r,?_,fun h=>⟨hr h,by omega⟩⟩;simp only[h,decide_false,zD,if_false];exact e
theorem A25{xs:Q X4}(ok:(D.sl (kD X4.row xs)).Ok):xs.length≤maxLen∧∀x∈xs,x.Name.length≤maxLen:=
 ⟨Gg ok,fun x hx=>(ok.sl.2 (X4.row x) (List.mem_map_of_mem hx) (.str x.Name) (by simp[X4.row_eq])).str⟩
def Gq(p:X):Y:=(decide (4≤p)&&decide (p≤2880))&&(kY .i64 (yU p 4)==0)
def HS(x:Xd):Y:=(decide (0≤x.Amp)&&decide (x.Amp≤1000))&&(Gq x.Period&&(decide (0≤x.Phase)&&decide (x.Phase≤kY .i64 (x.Period - 1))))
def Fc(t:Xn):Y:=(decide (-1000≤t.Mean)&&decide (t.Mean≤1000))&&(decide (t.Parts.length≤4)&&t.Parts.all HS)
theorem A3h(x:Xd):OH x=O (HS x):=by
 simp only[OH,By,zB,HS,Gq];cases(decide (0≤x.Amp)&&decide (x.Amp≤1000))<;>cases(decide (4≤x.Period)&&decide (x.Period≤2880))<;>cases(kY .i64 (yU x.Period 4)==0)<;>rfl
theorem bK(p:X):L6 p=O (Gq p):=by
 simp only[L6,DC,zB,Gq];cases(decide (4≤p)&&decide (p≤2880))<;>rfl
theorem vq(x:Xd):Nd x=O (HS x):=by
 simp only[Nd,DC,bK,zB,HS];cases(decide (0≤x.Amp)&&decide (x.Amp≤1000))<;>cases Gq x.Period<;>rfl
theorem A3l(t:Xn):OR t=O (Fc t):=by
 simp only[OR,By,zB,Fc];cases(decide (-1000≤t.Mean)&&decide (t.Mean≤1000)) with
 | false=>rfl
 | true=>
  by_cases h1:t.Parts.length≤4
  ·have h1':¬(4:X)<t.Parts.length:=by omega
   rw[E5 (L:=JI t) t.Parts HS (by rw[AA]; omega) (fun n i hi=>by simp only[JI,Ak,zC hi,zB,Ae,hi,decide_true,if_true,A3h]) (fun n=>by simp[JI])];simp[h1,h1']
  ·have h1':(4:X)<t.Parts.length:=by omega
   simp[h1,h1']
theorem vz(t:Xn):Np t=O (Fc t):=by
 simp only[Np,DC,zB,Fc];cases(decide (-1000≤t.Mean)&&decide (t.Mean≤1000)) with
 | false=>rfl
 | true=>
  by_cases h1:t.Parts.length≤4
  ·have h1':¬(4:X)<t.Parts.length:=by omega
   rw[E5 (L:=IB t) t.Parts HS (by rw[AA]; omega) (fun n i hi=>by simp only[IB,Ak,zC hi,zB,Ae,hi,decide_true,if_true,vq]) (fun n=>by simp[IB])];simp[h1,h1']
  ·have h1':(4:X)<t.Parts.length:=by omega
   simp[h1,h1']
def Gu(x:Xa):Y:=(decide (0≤x.From)&&decide (x.From≤2880))&&((decide (-500≤x.Low)&&decide (x.Low≤500))&&(decide (x.Low≤x.High)&&decide (x.High≤500)))
theorem A3k(x:Xa):OQ x=O (Gu x):=by
 simp only[OQ,By,zB,Gu];cases(decide (0≤x.From)&&decide (x.From≤2880))<;>cases(decide (-500≤x.Low)&&decide (x.Low≤500))<;>rfl
theorem vw(x:Xa):Nn x=O (Gu x):=by
 simp only[Nn,HE,zB,Gu];cases(decide (0≤x.From)&&decide (x.From≤2880))
 ·rfl
 ·by_cases a1: -500≤x.Low<;>by_cases a2:x.Low≤x.High<;>by_cases a3:x.High≤500<;>by_cases a4:x.Low≤500<;>simp[a1,a2,a3,a4]
  omega
def Kf(l:Q Xa)(i:Z):Y:=match l[i]? with
 | some x=>Gu x&&(match i with | 0=>E | j+1=>match l[j]? with | some y=> !(decide (x.From≤y.From)) | none=>G)
 | none=>G
def VC(l:Q Xa):Y:=match l[0]? with
 | some x=>decide (x.From=0)
 | none=>G
def Dq(f:Xe):Y:=Fc f.Tide&&((decide (1≤(f.Surges.length:X))&&decide ((f.Surges.length:X)≤6))&&(VC f.Surges&&(zL f.Surges.length).all (Kf f.Surges)))
theorem fH(j:Z)(h:j≤1000):kY .i64 (((j+1:Z):X) - 1)=(j:X):=by
 rw[Aj (by omega) (by omega)];omega
theorem dD(f:Xe):LD f=O (Dq f):=by
 simp only[LD,A3l,By,zB,Dq];cases Fc f.Tide with
 | false=>rfl
 | true=>
  cases hb:(decide (1≤(f.Surges.length:X))&&decide ((f.Surges.length:X)≤6)) with
  | false=>rfl
  | true=>
   simp only[zE,decide_eq_true_eq] at hb
   have h0:0<f.Surges.length:=by omega
   have hl:f.Surges.length≤maxLen:=by rw[AA]; omega
   rw[GC (L:=H8 f) f.Surges.length (Kf f.Surges) (O E) hl (fun n i hi=> ?_) (fun n=>by simp[H8])]
   ·have e0:ix f.Surges 0=O f.Surges[0]:=Af h0;simp only[e0,zB,VC,zC h0,zQ,if_true];by_cases e:f.Surges[0].From=0<;>cases(zL f.Surges.length).all (Kf f.Surges)<;>simp[e]
   ·simp only[H8,Ak,zC hi,zB,Ae,hi,decide_true,if_true,A3k,Kf];cases i with
    | zero=>cases Gu f.Surges[0]<;>simp
    | succ j=>
     have hj:j<f.Surges.length:=by omega
     rw[fH j (by omega)];simp only[Ak,zC hj,zB];have hp:(0:X)<((j+1:Z):X):=by omega
     cases Gu f.Surges[j+1]<;>cases decide (f.Surges[j+1].From≤f.Surges[j].From)<;>simp
theorem Pq(f:Xe):GO f=O (Dq f):=by
 simp only[GO,vz,DC,zB,Dq];cases Fc f.Tide with
 | false=>rfl
 | true=>
  cases hb:(decide (1≤(f.Surges.length:X))&&decide ((f.Surges.length:X)≤6)) with
  | false=>rfl
  | true=>
   simp only[zE,decide_eq_true_eq] at hb
   have h0:0<f.Surges.length:=by omega
   have hl:f.Surges.length≤maxLen:=by rw[AA]; omega
   rw[GC (L:=GP f) f.Surges.length (Kf f.Surges) (O E) hl (fun n i hi=> ?_) (fun n=>by simp[GP])]
   ·have e0:ix f.Surges 0=O f.Surges[0]:=Af h0;simp only[e0,zB,VC,zC h0,zQ,if_true];by_cases e:f.Surges[0].From=0<;>cases(zL f.Surges.length).all (Kf f.Surges)<;>simp[e]
   ·simp only[GP,Ak,zC hi,zB,Ae,hi,decide_true,if_true,vw,Kf];cases i with
    | zero=>cases Gu f.Surges[0]<;>simp
    | succ j=>
     have hj:j<f.Surges.length:=by omega
     rw[fH j (by omega)];simp only[Ak,zC hj,zB];have hp:(0:X)<((j+1:Z):X):=by omega
     cases Gu f.Surges[j+1]<;>cases decide (f.Surges[j+1].From≤f.Surges[j].From)<;>simp
def Ca(m:X):Y:=decide (0≤m)&&decide (m≤2880)
theorem A5c{xs:Q Xd}(h:xs.length≤1048576):Oe xs=O xs:=by
 unfold Oe;rw[Es h (by omega)];have:=GH (L:=Jd xs) xs id (F1 h) (fun n i acc hi ha=>by simp[Jd,Ak,hi,ha,Rd]) (fun n acc=>by simp[Jd]) (zI xs.length ⟨0,0,0⟩) (by simp);simpa using this
theorem A5g{xs:Q Xa}(h:xs.length≤1048576):Oi xs=O xs:=by
 unfold Oi;rw[Es h (by omega)];have:=GH (L:=Jh xs) xs id (F1 h) (fun n i acc hi ha=>by simp[Jh,Ak,hi,ha,Ri]) (fun n acc=>by simp[Jh]) (zI xs.length ⟨0,0,0⟩) (by simp);simpa using this
theorem A5a{f:Xe}(h1:f.Tide.Parts.length≤1048576)(h2:f.Surges.length≤1048576):Oc f=O f:=by
 simp[Oc,Rj,A5c h1,A5g h2]
theorem ra(x y:Xd):NO x y=O (decide (x=y)):=by
 unfold NO;cases x; cases y;simp only[Xd.mk.injEq];repeat' split
 all_goals simp_all
theorem rZ{xs ys:Q Xd}(h:xs.length≤maxLen):NP xs ys=O (decide (xs=ys)):=by
 unfold NP;by_cases hl:xs.length=ys.length
 ·have:=GI (L:=IX xs ys) xs ys h hl (fun n i h1 h2=>by simp[IX,Ak,h1,h2,ra]) (fun n=>by simp[IX]);simp[hl,this]
 ·have:¬(xs.length:X)=ys.length:=by omega
  have:xs≠ys:=fun e=>hl (by rw[e])
  simp_all
theorem rl(x y:Xa):NY x y=O (decide (x=y)):=by
 unfold NY;cases x; cases y;simp only[Xa.mk.injEq];repeat' split
 all_goals simp_all
theorem rk{xs ys:Q Xa}(h:xs.length≤maxLen):NZ xs ys=O (decide (xs=ys)):=by
 unfold NZ;by_cases hl:xs.length=ys.length
 ·have:=GI (L:=J2 xs ys) xs ys h hl (fun n i h1 h2=>by simp[J2,Ak,h1,h2,rl]) (fun n=>by simp[J2]);simp[hl,this]
 ·have:¬(xs.length:X)=ys.length:=by omega
  have:xs≠ys:=fun e=>hl (by rw[e])
  simp_all
theorem rP{f:Xe}(h1:f.Tide.Parts.length≤maxLen)(h2:f.Surges.length≤maxLen):NK f f=O E:=by
 simp[NK,R7,rZ h1,rk h2]
theorem A4r{xs:Q Xd}{l:X}(h0:0≤l)(h1:l≤1048576)(hx:xs.length≤maxLen):∃r,O4 xs l=O r∧(0≤r→r≤l∧xs.length≤1048576):=by
 unfold O4;rw[AA] at hx
 rw[Aj (by omega) (by omega)];by_cases h:l - (xs.length:X)<0
 ·exact⟨-1,by simp[h],by omega⟩
 ·exact⟨l - xs.length,by simp[h],by omega⟩
theorem A4x{xs:Q Xa}{l:X}(h0:0≤l)(h1:l≤1048576)(hx:xs.length≤maxLen):∃r,Oa xs l=O r∧(0≤r→r≤l∧xs.length≤1048576):=by
 unfold Oa;rw[AA] at hx
 rw[Aj (by omega) (by omega)];by_cases h:l - (xs.length:X)<0
 ·exact⟨-1,by simp[h],by omega⟩
 ·exact⟨l - xs.length,by simp[h],by omega⟩
theorem A4o{f:Xe}{l:X}(h0:0≤l)(h1:l≤1048576)(hp:f.Tide.Parts.length≤maxLen)(hs:f.Surges.length≤maxLen) :
  ∃r,O2 f l=O r∧(0≤r→r≤l∧f.Tide.Parts.length≤1048576∧f.Surges.length≤1048576):=by
 unfold O2 R9;obtain⟨r,e,h⟩:=A4r h0 h1 hp;by_cases hr:r<0
 ·exact⟨-1,by simp[e,hr],by omega⟩
 ·obtain⟨k1,k2⟩:=h (by omega);obtain⟨r',e',h'⟩:=A4x (xs:=f.Surges) (l:=r) (by omega) (by omega) hs;by_cases hr':r'<0
  ·exact⟨-1,by simp[e,hr,e',hr'],by omega⟩
  ·obtain⟨k3,k4⟩:=h' (by omega);exact⟨r',by simp[e,hr,e',hr'],fun _=>⟨by omega,k2,k4⟩⟩
def Fv(w:Xo):Y:=(decide (0≤w.Tugs)&&decide (w.Tugs≤12))&&((decide (0≤w.Pilots)&&decide (w.Pilots≤12))&&(Ca w.Rest&&(decide (w.Moves.length=64)&&w.Moves.all fun x=>decide (0≤x)&&decide (x≤240))))
theorem S6(a b:Y):(if a=E then O b else O G)=O (a&&b):=by cases a<;>rfl
theorem bu{l:Q X}(h:l.length≤maxLen):Hr l bigN 0=O (l.all fun x=>decide (0≤x)&&decide (x≤240)):=
 E5 (L:=Hr l) l _ h (fun n i hi=>by simp[Hr,Ak,hi,By]) (fun n=>by simp[Hr])
theorem bt{l:Q X}(h:l.length≤maxLen):GZ l bigN 0=O (l.all fun x=>decide (0≤x)&&decide (x≤240)):=
 E5 (L:=GZ l) l _ h (fun n i hi=>by simp[GZ,Ak,hi,DC]) (fun n=>by simp[GZ])
theorem Vx{w:Xo}(h:w.Moves.length≤maxLen):Js w=O (Fv w):=by
 simp only[Js,Hq,By,zB,bu h,Fv,Ca];by_cases e:w.Moves.length=64
 ·have e':((w.Moves.length:X) !=64)=G:=by simp; omega
  simp only[e,e',zD,if_false,decide_true,zQ];cases(decide (0≤w.Tugs)&&decide (w.Tugs≤12))<;>cases(decide (0≤w.Pilots)&&decide (w.Pilots≤12))<;>cases(decide (0≤w.Rest)&&decide (w.Rest≤2880))<;>rfl
 ·have e':((w.Moves.length:X) !=64)=E:=by simp; omega
  simp only[e,e',if_true,decide_false,Bool.false_and,Bool.and_false];cases(decide (0≤w.Tugs)&&decide (w.Tugs≤12))<;>cases(decide (0≤w.Pilots)&&decide (w.Pilots≤12))<;>cases(decide (0≤w.Rest)&&decide (w.Rest≤2880))<;>rfl
theorem vl{w:Xo}(h:w.Moves.length≤maxLen):N1 w=O (Fv w):=by
 simp only[N1,GY,DC,HE,zB,bt h,Fv,Ca];by_cases e:w.Moves.length=64
 ·have e':((w.Moves.length:X) !=64)=G:=by simp; omega
  simp only[e,e',zD,if_false,decide_true,zQ,zB];cases(decide (0≤w.Tugs)&&decide (w.Tugs≤12))<;>cases(decide (0≤w.Pilots)&&decide (w.Pilots≤12))<;>cases(decide (0≤w.Rest)&&decide (w.Rest≤2880))<;>rfl
 ·have e':((w.Moves.length:X) !=64)=E:=by simp; omega
  simp only[e,e',if_true,decide_false,Bool.false_and,Bool.and_false,zB];cases(decide (0≤w.Tugs)&&decide (w.Tugs≤12))<;>cases(decide (0≤w.Pilots)&&decide (w.Pilots≤12))<;>cases(decide (0≤w.Rest)&&decide (w.Rest≤2880))<;>rfl
def Kc(r:Xj):Y:=decide (0≤r.Gap)&&decide (r.Gap≤60)
def Bh(h:X6):Y:=Dq h.Forecast&&(AH h.Chart&&(DK h.Fleet&&(Kc h.Regime&&Fv h.Crew)))
structure HSmall (h:X6):Prop where
 pn:∀x∈h.Chart.Points,x.Name.length≤maxLen
 fn:∀x∈h.Fleet,x.Name.length≤maxLen
 mv:h.Crew.Moves.length≤maxLen
theorem dE{h:X6}(s:HSmall h):LG h=O (Bh h):=by
 simp only[LG,JE,dD,DB s.pn,dC s.fn,Vx s.mv,By,zB,S6,Bh,Kc]
theorem af{h:X6}(s:HSmall h):KR h=O (Bh h):=by
 simp only[KR,QT,Pq,EW s.pn,ae s.fn,vl s.mv,DC,zB,S6,Bh,Kc]
theorem F9{c:X3}(h:AH c=E):c.Points.length≤8∧c.Segments.length≤10∧∀x∈c.Segments,0≤x.Depth∧x.Depth≤3000∧1≤x.Minutes∧x.Minutes≤240:=by
 simp only[AH,zE,decide_eq_true_eq,yB,kJ] at h;obtain⟨h1,h2,h3,h4⟩:=h;refine⟨h1,h2,fun x hx=> ?_⟩;obtain⟨i,hi,rfl⟩:=zN hx;have:=h4 i hi;simp only[DU,zC hi,zE,decide_eq_true_eq] at this
 omega
def Cc(c:X3)(fl:Q X4)(p:X1):Y:=idx p.Ship fl.length&&(idx p.Segment c.Segments.length&&(Ca p.Start&&(decide (p.End≤2880)&&decide (p.End=kY .i64 (p.Start+AI (Av c p.Segment) (AR fl p.Ship))))))
theorem dG{c:X3}{s:X4}{i:X}(hn:∀x∈c.Points,x.Name.length≤maxLen)(hs:s.Name.length≤maxLen)(h1:AH c=E)(h2:Cz s=E)(h3:idx i c.Segments.length=E):LI c i s=O (AI (Av c i) s):=by
 have:=(F9 h1).2.1;unfold LI;simp only[DB hn,Mr hs,h1,h2,zB,if_true,CK i (show c.Segments.length≤1000 by omega),h3,(BL h3).1,Qa]
theorem dH{c:X3}{fl:Q X4}{p:X1}(hn:∀x∈c.Points,x.Name.length≤maxLen)(hf:∀x∈fl,x.Name.length≤maxLen)(h1:AH c=E)(h2:DK fl=E):LK c fl p=O (Cc c fl p):=by
 unfold LK;simp only[DB hn,dC hf,zB,h1,h2];have s1:=(F9 h1).2.1;have s2:=(Pa h2).1;simp only[if_true,CK p.Ship (show fl.length≤1000 by omega),CK p.Segment (show c.Segments.length≤1000 by omega),zB,By,Cc,Ca];cases h3:idx p.Ship fl.length with
 | false=>simp
 | true=>
  cases h4:idx p.Segment c.Segments.length with
  | false=>simp
  | true=>
   cases h5:decide (0≤p.Start)&&decide (p.Start≤2880) with
   | false=>simp
   | true=>
    have hsh:=(Pa h2).2 _ (JZ h3).2;simp only[if_true,zQ,(JZ h3).1,zB,dG hn (hf _ (JZ h3).2) h1 hsh h4];by_cases e:p.End=kY .i64 (p.Start+AI (Av c p.Segment) (AR fl p.Ship))<;>simp[e]
theorem wE{c:X3}{fl:Q X4}{p:X1}:NB c fl p=O (Cc c fl p):=by
 unfold NB;simp only[En,zB,HE,Cc,Ca];cases h3:idx p.Ship fl.length with
 | false=>simp
 | true=>
  cases h4:idx p.Segment c.Segments.length with
  | false=>simp
  | true=>
   cases h5:decide (0≤p.Start)&&decide (p.Start≤2880) with
   | false=>simp
   | true=>
    simp only[if_true,zQ,(JZ h3).1,(BL h4).1,zB,Pr];have e0:decide (2880<p.End)= !decide (p.End≤2880):=by rw[zR]; simp
    rw[e0];cases decide (p.End≤2880)<;>simp;rfl
theorem DQ{c:X3}{fl:Q X4}{p:X1}(hc:AH c=E)(h:Cc c fl p=E):idx p.Ship fl.length=E∧idx p.Segment c.Segments.length=E∧0≤p.Start∧p.Start≤p.End∧p.End≤2880:=by
 simp only[Cc,Ca,zE,decide_eq_true_eq] at h;obtain⟨h3,h4,h5,h6,h7⟩:=h;refine⟨h3,h4,h5.1,?_,h6⟩;obtain⟨_,_,a,b⟩:=(F9 hc).2.2 _ (BL h4).2;rw[h7];unfold AI;split
 ·rw[Aj (n:=2*_) (by omega) (by omega),Aj (by omega) (by omega)]; omega
 ·rw[Aj (by omega) (by omega)]; omega
theorem A4p{a:X6}{l:X}(h0:0≤l)(h1:l≤1048576)(q1:a.Forecast.Tide.Parts.length≤maxLen)(q2:a.Forecast.Surges.length≤maxLen)(q3:a.Chart.Points.length≤maxLen)(q4:a.Chart.Segments.length≤maxLen)(q5:a.Fleet.length≤maxLen)(s:HSmall a) :
  ∃r,J9 a l=O r∧(0≤r→r≤l∧a.Forecast.Tide.Parts.length≤1048576∧a.Forecast.Surges.length≤1048576∧a.Chart.Points.length≤1048576∧a.Chart.Segments.length≤1048576∧a.Fleet.length≤1048576∧a.Crew.Moves.length≤1048576):=by
 unfold J9 R8;obtain⟨r1,e1,k1⟩:=A4o (f:=a.Forecast) h0 h1 q1 q2;by_cases c1:r1<0
 ·exact⟨-1,by simp[e1,c1],by omega⟩
 obtain⟨b1,b2,b3⟩:=k1 (by omega);obtain⟨r2,e2,k2⟩:=A4n (c:=a.Chart) (l:=r1) (by omega) (by omega) q3 q4 s.pn;by_cases c2:r2<0
 ·exact⟨-1,by simp[e1,c1,e2,c2],by omega⟩
 obtain⟨b4,b5,b6⟩:=k2 (by omega);obtain⟨r3,e3,k3⟩:=A4v (xs:=a.Fleet) (l:=r2) (by omega) (by omega) q5 s.fn;by_cases c3:r3<0
 ·exact⟨-1,by simp[e1,c1,e2,c2,e3,c3],by omega⟩
 obtain⟨b7,b8⟩:=k3 (by omega);obtain⟨r4,e4,k4⟩:=A4q (xs:=a.Crew.Moves) (l:=r3) (by omega) (by omega) s.mv;by_cases c4:r4<0
 ·exact⟨-1,by simp[e1,c1,e2,c2,e3,c3,e4,c4],by omega⟩
 obtain⟨b9,b10⟩:=k4 (by omega);exact⟨r4,by simp[e1,c1,e2,c2,e3,c3,e4,c4],fun _=>⟨by omega,b2,b3,b5,b6,b8,b10⟩⟩
theorem eB{a:X6}(q1:a.Forecast.Tide.Parts.length≤1048576)(q2:a.Forecast.Surges.length≤1048576)(q3:a.Chart.Points.length≤1048576)(q4:a.Chart.Segments.length≤1048576)(q5:a.Fleet.length≤1048576)(q6:a.Crew.Moves.length≤1048576):EO a=O a:=by
 simp[EO,Rf,Rc,A5a q1 q2,A47 q3 q4,A5f q5,A5b q6]
theorem rV{a:X6}(q1:a.Forecast.Tide.Parts.length≤maxLen)(q2:a.Forecast.Surges.length≤maxLen)(q3:a.Chart.Points.length≤maxLen)(q4:a.Chart.Segments.length≤maxLen)(q5:a.Fleet.length≤maxLen)(q6:a.Crew.Moves.length≤maxLen):NL a a=O E:=by
 simp[NL,R6,R5,rP q1 q2,rM q3 q4,ri q5,rW q6]
theorem uv{a:X6}(ok:∀d∈X6.row a,d.Ok):a.Forecast.Tide.Parts.length≤maxLen∧a.Forecast.Surges.length≤maxLen∧a.Chart.Points.length≤maxLen∧a.Chart.Segments.length≤maxLen∧a.Fleet.length≤maxLen∧HSmall a:=by
 have h1:=ok (D.sl (kD Xd.row a.Forecast.Tide.Parts)) (by simp[X6.row_eq]);have h2:=ok (D.sl (kD Xa.row a.Forecast.Surges)) (by simp[X6.row_eq]);have h3:=ok (D.sl (kD X8.row a.Chart.Points)) (by simp[X6.row_eq]);have h4:=ok (D.sl (kD X2.row a.Chart.Segments)) (by simp[X6.row_eq]);have h5:=ok (D.sl (kD X4.row a.Fleet)) (by simp[X6.row_eq]);have h6:=ok (D.sl (kD rI a.Crew.Moves)) (by simp[X6.row_eq]);refine⟨Gg h1,Gg h2,Gg h3,Gg h4,Gg h5,⟨fun x hx=> ?_,(A25 h5).2,Gg h6⟩⟩;exact(h3.sl.2 (X8.row x) (List.mem_map_of_mem hx) (.str x.Name) (by simp[X8.row_eq])).str
theorem lz{m n b:Z}(h:m+n≤2000000)(hb:b≤1000):Ad m n b=E:=by
 unfold Ad;rw[decide_eq_true_eq];have:(m+n)*b≤2000000*1000:=yW h hb;omega
theorem Pp{α:Type}{m n b:Z}(h:m+n≤2000000)(hb:b≤1000)(x y:α):(if Ad m n b=E then x else y)=x:=by rw[if_pos (lz h hb)]
theorem Ff{n:X}(h0:0≤n)(h1:n<18446744073709551616):IntKind.u64.wrap n=n:=by
 simp only[IntKind.wrap,IntKind.bits,IntKind.signed];have:n % 18446744073709551616=n:=Int.emod_eq_of_lt h0 h1;simp[this]
theorem Eu{n:Z}(h:n<2 ^ 63):kY .i64 (n:X)=n:=Aj (by omega) (by omega)
theorem Mi{n:Z}(h:n<2 ^ 64):IntKind.u64.wrap (n:X)=n:=Ff (by omega) (by omega)
theorem PO{s n:Z}(h:∀i,s.testBit i=E→i<n):s<2 ^ n:=Nat.lt_pow_two_of_testBit s fun i hi=>by
 cases hb:s.testBit i with
 | false=>rfl
 | true=>have:=h i hb; omega
theorem XH{a b n:Z}(h:a<2 ^ n):AJ a b<2 ^ n:=PO fun i hi=>by
 rw[Fb,zE] at hi
 exact I3 h hi.1
theorem HQ{w n:Z}(h:n<2 ^ w):(BitVec.ofInt w (n:X)).toNat=n:=by
 rw[BitVec.ofInt_natCast,BitVec.toNat_ofNat,Nat.mod_eq_of_lt h]
theorem Y1{w a b:Z}(ha:a<2 ^ w)(hb:b<2 ^ w):(BitVec.ofInt w (a:X) &&& ~~~ BitVec.ofInt w (b:X)).toNat=AJ a b:=by
 rw[BitVec.toNat_and,BitVec.toNat_not,HQ ha,HQ hb];apply yP
 intro i;rw[show 2 ^ w - 1 - b=2 ^ w - (b+1) by omega,yS,Nat.testBit_two_pow_sub_succ hb,Fb];cases hi:a.testBit i with
 | false=>rfl
 | true=>simp[I3 ha hi]
theorem lk{a b:Z}(ha:a<2 ^ 63)(hb:b<2 ^ 63):Bk .and .i64 (a:X) (b:X)=((a &&& b:Z):X):=by
 show kY .i64 ((BitVec.ofInt 64 (a:X) &&& BitVec.ofInt 64 (b:X)).toNat:X)=_
 rw[BitVec.toNat_and,HQ (yD ha (by decide)),HQ (yD hb (by decide)),Eu (Nat.and_lt_two_pow a hb)]
theorem A05{a b:Z}(ha:a<2 ^ 63)(hb:b<2 ^ 63):Bk .or .i64 (a:X) (b:X)=((a ||| b:Z):X):=by
 show kY .i64 ((BitVec.ofInt 64 (a:X) ||| BitVec.ofInt 64 (b:X)).toNat:X)=_
 rw[BitVec.toNat_or,HQ (yD ha (by decide)),HQ (yD hb (by decide)),Eu (yZ ha hb)]
theorem XF{a b:Z}(ha:a<2 ^ 63)(hb:b<2 ^ 63):Bk .andNot .i64 (a:X) (b:X)=((AJ a b:Z):X):=by
 show kY .i64 ((BitVec.ofInt 64 (a:X) &&& ~~~ BitVec.ofInt 64 (b:X)).toNat:X)=_
 rw[Y1 (yD ha (by decide)) (yD hb (by decide)),Eu (XH ha)]
theorem Vf{a b:Z}(ha:a<2 ^ 64)(hb:b<2 ^ 64):Bk .or .u64 (a:X) (b:X)=((a ||| b:Z):X):=by
 show IntKind.u64.wrap ((BitVec.ofInt 64 (a:X) ||| BitVec.ofInt 64 (b:X)).toNat:X)=_
 rw[BitVec.toNat_or,HQ ha,HQ hb,Mi (yZ ha hb)]
theorem MJ{a b:Z}(ha:a<2 ^ 64)(hb:b<2 ^ 64):Bk .andNot .u64 (a:X) (b:X)=((AJ a b:Z):X):=by
 show IntKind.u64.wrap ((BitVec.ofInt 64 (a:X) &&& ~~~ BitVec.ofInt 64 (b:X)).toNat:X)=_
 rw[Y1 ha hb,Mi (XH ha)]
theorem SK{n:Z}(h:n≤20):Bs .i64 (1:X) (n:X)=((2 ^ n:Z):X):=by
 have hp:2 ^ n<2 ^ 63:=yQ (by omega) (by omega);unfold Bs;rw[zP,show min n IntKind.i64.bits=n by simp[IntKind.bits]; omega,Int.one_mul];have:((2:X) ^ n)=((2 ^ n:Z):X):=by simp
 rw[this,Eu hp]
theorem Vw{n:Z}(h:n≤20):Bs .u64 (1:X) (n:X)=((2 ^ n:Z):X):=by
 have hp:2 ^ n<2 ^ 64:=yQ (by omega) (by omega);unfold Bs;rw[zP,show min n IntKind.u64.bits=n by simp[IntKind.bits]; omega,Int.one_mul];have:((2:X) ^ n)=((2 ^ n:Z):X):=by simp
 rw[this,Mi hp]
theorem mg(n:Z):((n:X)==(0:X))=decide (n=0):=by
 rw[zR];simp
def bU:Q I:= [0,1,2,2,3,3,3,3,4,4,4,4,4,4,4,4,5,5,5,5,5,5,5,5,5,5,5,5,5,5,5,5,6,6,6,6,6,6,6,6,6,6,6,6,6,6,6,6,6,6,6,6,6,6,6,6,6,6,6,6,6,6,6,6,7,7,7,7,7,7,7,7,7,7,7,7,7,7,7,7,7,7,7,7,7,7,7,7,7,7,7,7,7,7,7,7,7,7,7,7,7,7,7,7,7,7,7,7,7,7,7,7,7,7,7,7,7,7,7,7,7,7,7,7,7,7,7,7,8,8,8,8,8,8,8,8,8,8,8,8,8,8,8,8,8,8,8,8,8,8,8,8,8,8,8,8,8,8,8,8,8,8,8,8,8,8,8,8,8,8,8,8,8,8,8,8,8,8,8,8,8,8,8,8,8,8,8,8,8,8,8,8,8,8,8,8,8,8,8,8,8,8,8,8,8,8,8,8,8,8,8,8,8,8,8,8,8,8,8,8,8,8,8,8,8,8,8,8,8,8,8,8,8,8,8,8,8,8,8,8,8,8,8,8,8,8,8,8,8,8,8,8,8,8,8,8]
theorem xr(v8 v9:X):Lt v8 v9=(ix bU (IntKind.u8.wrap v8)).bind fun b10=>O (kY .i64 (v9+(kY .i64 (b10.toNat:X)))):=rfl
def bT(x:Z):Y:=match bU[x]? with
 | some b=>decide (b.toNat≤8)&&(decide (x<2 ^ b.toNat)&&(x==0 || (decide (1≤b.toNat)&&decide (2 ^ (b.toNat - 1)≤x))))
 | none=>G
theorem xu:(zL 256).all bT=E:=by kernel_rfl
theorem bS{x:Z}(hx:x<256)(n:X):∃l:Z,Lt (x:X) n=O (kY .i64 (n+(l:X)))∧l≤8∧x<2 ^ l∧(0<x→1≤l∧2 ^ (l - 1)≤x):=by
 have h:=yB.1 xu x (by simpa using hx);unfold bT at h;split at h
 ·rename_i b hb
  simp only[zE,decide_eq_true_eq,kU,beq_iff_eq] at h
  have hw:IntKind.u8.wrap (x:X)=(x:X):=by
   simp only[IntKind.wrap,IntKind.bits,IntKind.signed];have:(x:X) % 256=x:=Int.emod_eq_of_lt (by omega) (by omega);simp[this]
  refine⟨b.toNat,?_,h.1,h.2.1,fun h0=> ?_⟩
  ·rw[xr,hw,Ak,hb,zB,Eu (n:=b.toNat) (by omega)]
  ·rcases h.2.2 with h3|h3
   ·omega
   ·exact h3
 ·cases h
theorem xz{s:Z}(h1:1≤s)(h2:s<4096):∃t:Z,Ls (s:X)=O ((t+1:Z):X)∧2 ^ t≤s∧s<2 ^ (t+1)∧t<12:=by
 have key:∃l:Z,Ls (s:X)=O ((l:Z):X)∧1≤l∧2 ^ (l - 1)≤s∧s<2 ^ l:=by
  unfold Ls Rk;rw[if_neg (by simp; omega)];unfold Oj;rw[if_neg (by simp; omega)];unfold Ol;by_cases hs:s<256
  ·rw[if_neg (by simp; omega)];obtain⟨l,e,l8,a1,a2⟩:=bS hs 0;obtain⟨a3,a4⟩:=a2 h1;refine⟨l,?_,a3,a4,a1⟩;rw[e,zB,Int.zero_add,Eu (by omega)]
  ·rw[if_pos (by simp; omega)]
   have e8:CA .u64 (s:X) 8=((s / 256:Z):X):=by
    unfold CA;rw[show min 8 IntKind.u64.bits=8 by rfl,Int.fdiv_eq_ediv_of_nonneg _ (by decide)];have:((s:X) / 2 ^ 8)=((s / 256:Z):X):=by simp
    rw[this,Mi (by omega)]
   have e9:kY .i64 ((0:X)+8)=((8:Z):X):=by rw[Aj (by omega) (by omega)]; rfl
   rw[e8,e9];obtain⟨l,e,l8,a1,a2⟩:=bS (x:=s / 256) (by omega) ((8:Z):X);obtain⟨a3,a4⟩:=a2 (by omega);refine⟨8+l,?_,by omega,?_,?_⟩
   ·have:((8:Z):X)+(l:X)=((8+l:Z):X):=by omega
    rw[e,zB,this,Eu (by omega)]
   ·rw[show 8+l - 1=(l - 1)+8 by omega,Nat.pow_add];omega
   ·rw[Nat.add_comm,Nat.pow_add];omega
 obtain⟨l,e,a1,a2,a3⟩:=key;obtain⟨t,rfl⟩:∃t,l=t+1:=⟨l - 1,by omega⟩;refine⟨t,e,by simpa using a2,a3,?_⟩;rcases yC t 12 with h|h
 ·exact h
 ·have:=yO (show 0<2 by omega) h;simp at a2
  omega
theorem VO{s t:Z}(h1:2 ^ t≤s)(h2:s<2 ^ (t+1)):s.testBit t=E∧AJ s (2 ^ t)<2 ^ t∧(∀i,(AJ s (2 ^ t)).testBit i=E→s.testBit i=E)∧(∀i,s.testBit i=E→i=t∨(AJ s (2 ^ t)).testBit i=E):=by
 have hb:∀i,(AJ s (2 ^ t)).testBit i=(s.testBit i&& !decide (t=i)):=fun i=>by rw[Fb,Kg]
 refine⟨Nat.testBit_of_two_pow_le_and_two_pow_add_one_gt h1 h2,PO fun i hi=> ?_,fun i hi=> ?_,fun i hi=> ?_⟩
 ·rw[hb,zE] at hi
  have:=I3 h2 hi.1;have h3:t≠i:=by simpa using hi.2
  omega
 ·rw[hb,zE] at hi
  exact hi.1
 ·by_cases h:i=t
  ·exact .inl h
  ·right
   rw[hb,hi];simpa using fun e:t=i=>h e.symm
theorem Gr{α β R:Type}{L:Z→X→Q β→U R}(xs:Q α)(g:α→β)(K:Q β→U R)(hl:xs.length≤maxLen)
  (hs:∀(n i:Z) (acc:Q β) (h:i<xs.length),acc.length=i→L (n+1) (i:X) acc=L n (kY .i64 ((i:X)+1)) (acc++ [g xs[i]])) (he:∀n acc,acc.length=xs.length→L (n+1) (xs.length:X) acc=K acc):L bigN 0 []=K (xs.map g):=by
 have key:∀(k i n:Z) (acc:Q β),i+k=xs.length→k<n→acc=(xs.take i).map g→L n (i:X) acc=K (xs.map g):=by
  intro k
  induction k with
  | zero=>
   intro i n acc hi hn ha;obtain⟨m,rfl⟩:∃m,n=m+1:=⟨n - 1,by omega⟩;have:i=xs.length:=by omega
   subst this;rw[yF] at ha
   rw[he m acc (by rw[ha]; simp),ha]
  | succ k ih=>
   intro i n acc hi hn ha;obtain⟨m,rfl⟩:∃m,n=m+1:=⟨n - 1,by omega⟩;have hlt:i<xs.length:=by omega
   rw[hs m i acc hlt (by rw[ha]; simp; omega),An hlt hl];refine ih (i+1) m _ (by omega) (by omega) ?_;rw[zJ hlt,kV,ha];rfl
 exact key xs.length 0 bigN [] (by omega) (Bm hl) (by simp)
def Bq(d:Xb):Y:=decide (0≤d.From)&&(decide (d.From<d.To)&&(decide (d.To≤2880)&&((decide (0≤d.A)&&decide (d.A<8))&&(decide (0≤d.B)&&decide (d.B<8)))))
theorem Vy(d:Xb):JQ d=O (Bq d):=by
 unfold JQ Bq;have e7:∀x:X,decide (x≤7)=decide (x<8):=fun x=>decide_eq_decide.2 (by omega)
 simp only[By,zB,e7];by_cases h2:d.From<d.To
 ·by_cases h3:d.To≤2880
  ·have h8:d.From≤2880:=by omega
   simp only[h2,h3,h8,decide_true,if_true,Bool.and_true,zQ];cases decide (0≤d.From)<;>cases(decide (0≤d.A)&&decide (d.A<8))<;>rfl
  ·simp[h2,h3]
 ·simp[h2]
theorem A3d{l:Q Xb}:Oy l=O (decide (l.length≤12)&&l.all Bq):=by
 unfold Oy;by_cases h:l.length≤12
 ·rw[if_neg (by simp; omega),E5 (L:=Ju l) l Bq (by rw[AA]; omega) (fun n i hi=>by simp[Ju,Ak,hi,Vy]) (fun n=>by simp[Ju])];simp[h]
 ·rw[if_pos (by simp; omega)];simp[h]
theorem vk{R:Type}(a b c d e:Y)(x y:R):(if(!a)=E then y else if(!b)=E then y else if(!c)=E then y else if d=E then(if e=E then x else y) else y)=if(a&&(b&&(c&&(d&&e))))=E then x else y:=by
 cases a<;>cases b<;>cases c<;>cases d<;>cases e<;>rfl
theorem UI{l:Q Xb}:Iq l=O (decide (l.length≤12)&&l.all Bq):=by
 unfold Iq;by_cases h:l.length≤12
 ·rw[if_neg (by simp; omega),E5 (L:=Ir l) l Bq (by rw[AA]; omega) (fun n i hi=> ?_) (fun n=>by simp[Ir])]
  ·simp[h]
  ·simp only[Ir,Ae,hi,decide_true,if_true,Af hi,zB,JY,Bq];generalize l[i]=d
   have g1:decide (d.From<0)= !decide (0≤d.From):=by by_cases h:0≤d.From<;>simp[h]<;>omega
   have g2:decide (d.To≤d.From)= !decide (d.From<d.To):=by by_cases h:d.From<d.To<;>simp[h]<;>omega
   have g3:decide (2880<d.To)= !decide (d.To≤2880):=by by_cases h:d.To≤2880<;>simp[h]<;>omega
   simp only[g1,g2,g3];exact vk _ _ _ _ _ _ _
 ·rw[if_pos (by simp; omega)];simp[h]
def F4(m:Q X):Y:=decide (m.length=64)&&m.all fun x=>decide (0≤x)&&decide (x≤240)
def DY(p:X)(m:Q X):Y:=Ca p&&F4 m
theorem dJ{p:X}{m:Q X}(h:m.length≤maxLen):Hq p m=O (DY p m):=by
 unfold Hq DY F4 Ca;rw[By,zB,bu h];by_cases h1:m.length=64
 ·cases(decide (0≤p)&&decide (p≤2880))<;>simp[h1]
 ·have:((m.length:X) !=64)=E:=by simpa using(by omega:¬((m.length:X)=64))
  cases(decide (0≤p)&&decide (p≤2880))<;>simp[h1,this]
theorem aq{m:Q X}(h:m.length≤maxLen):GY m=O (F4 m):=by
 unfold GY F4;rw[bt h];by_cases h1:m.length=64
 ·simp[h1]
 ·have:((m.length:X) !=64)=E:=by simpa using(by omega:¬((m.length:X)=64))
  simp[h1,this]
theorem bj(p:X):D7 p=O (Ca p):=by rw[HE]; rfl
def CJ(p:X)(m:Q X)(d e:Xb):Y:=decide (kY .i64 (d.To+kY .i64 (p+m[(8*d.B+e.A).toNat]?.getD 0))≤e.From)
theorem QN{d:Xb}(h:Bq d=E):0≤d.From∧d.From<d.To∧d.To≤2880∧0≤d.A∧d.A<8∧0≤d.B∧d.B<8:=by
 simp only[Bq,zE,decide_eq_true_eq] at h;omega
theorem br{m:Q X}(hm:F4 m=E){b a:X}(h0:0≤b)(h1:b<8)(h2:0≤a)(h3:a<8):ix m (8*b+a)=O (m[(8*b+a).toNat]?.getD 0):=by
 simp only[F4,zE,decide_eq_true_eq] at hm
 obtain⟨k,hk⟩:∃k:Z,8*b+a=(k:X):=⟨(8*b+a).toNat,by omega⟩;rw[hk,Ak,zP,zC (by omega)];rfl
theorem dL{p:X}{m:Q X}{d e:Xb}(hl:m.length≤maxLen)(ht:DY p m=E)(hd:Bq d=E)(he:Bq e=E):Ly p m d e=O (CJ p m d e):=by
 obtain⟨_,_,_,_,_,b0,b1⟩:=QN hd;obtain⟨_,_,_,a0,a1,_,_⟩:=QN he;have ht':=ht;simp only[DY,zE] at ht'
 unfold Ly Rr;have c1:(decide (0≤d.B)&&decide (d.B≤7))=E:=by simp; omega
 have c2:(decide (0≤e.A)&&decide (e.A≤7))=E:=by simp; omega
 rw[dJ hl,ht,zB,if_pos rfl,By,c1,zB,if_pos rfl,By,c2,zB];unfold LF;rw[if_neg (by simp),Int.mul_comm d.B 8,Aj (n:=8*d.B) (by omega) (by omega),Aj (n:=8*d.B+e.A) (by omega) (by omega),br ht'.2 b0 b1 a0 a1,zB,zB,if_pos rfl,Vy,hd,zB,if_pos rfl,Vy,he,zB,if_pos rfl];rfl
theorem am{p:X}{m:Q X}{d e:Xb}(hl:m.length≤maxLen)(ht:DY p m=E)(hd:Bq d=E)(he:Bq e=E):KP p m d e=O (CJ p m d e):=by
 obtain⟨_,_,_,_,_,b0,b1⟩:=QN hd;obtain⟨_,_,_,a0,a1,_,_⟩:=QN he;have ht':=ht;simp only[DY,zE] at ht'
 unfold KP QR;have c1:(decide (0≤d.B)&&decide (d.B<8))=E:=by simp; omega
 have c2:(decide (0≤e.A)&&decide (e.A<8))=E:=by simp; omega
 have o1:(decide ([d].length≤12)&& [d].all Bq)=E:=by simp[hd]
 have o2:(decide ([e].length≤12)&& [e].all Bq)=E:=by simp[he]
 rw[bj,ht'.1,zB,if_pos rfl,aq hl,ht'.2,zB,if_pos rfl,JY,c1,zB,if_pos rfl,JY,c2,zB];unfold Iu;rw[if_neg (by simp),Aj (n:=8*d.B) (by omega) (by omega),Aj (n:=8*d.B+e.A) (by omega) (by omega),br ht'.2 b0 b1 a0 a1,zB,zB,if_pos rfl,UI,o1,zB,if_pos rfl,UI,o2,zB,if_pos rfl];rfl
def Bb(p:X)(m:Q X)(l:Q Xb)(i k:Z):Y:=match l[i]?,l[k]? with
 | some d,O e=>CJ p m d e || CJ p m e d
 | _,_=>G
theorem Y0(p:X)(m:Q X)(l:Q Xb)(i k:Z):Bb p m l i k=Bb p m l k i:=by
 unfold Bb;cases l[i]?<;>cases l[k]?<;>simp[Bool.or_comm]
theorem Fq{n m b:Z}(h:n+m≤1000000)(hb:b≤100):Ad n m b=E:=by
 unfold Ad;have:(n+m)*b≤1000000*100:=yW h hb;simp;omega
def nn(ms:Q Z):Q X:=ms.map fun x:Z=>(x:X)
theorem Cb(ms:Q Z):(nn ms).length=ms.length:=by simp[nn]
theorem Dy{ms:Q Z}{i:Z}(h:i<ms.length):ix (nn ms) (i:X)=O ((ms[i]:Z):X):=by
 rw[Ak,nn,kA,zC h]; rfl
theorem K6(ms:Q Z)(i a:Z):(nn ms).set i (a:X)=nn (ms.set i a):=by simp[nn,List.map_set]
theorem cD(ms:Q Z)(a:Z):nn ms++ [(a:X)]=nn (ms++ [a]):=by simp[nn]
section
variable {p : X} {m : Q X} {l : Q Xb}
theorem XZ{i k:Z}(hi:i<l.length)(hk:k<l.length):Bb p m l i k=(CJ p m l[i] l[k] || CJ p m l[k] l[i]):=by
 unfold Bb;rw[zC hi,zC hk]
def Ch(p:X)(m:Q X)(l:Q Xb):Q (Q Y):=l.map fun d=>l.map fun e=>CJ p m d e || CJ p m e d
theorem A2h{i k:Z}(hi:i<l.length)(hk:k<l.length):∃x,ix (Ch p m l) (i:X)=O x∧ix x (k:X)=O (Bb p m l i k):=by
 refine⟨l.map fun e=>CJ p m l[i] e || CJ p m e l[i],?_,?_⟩
 ·rw[Ak,Ch,kA,zC hi]; rfl
 ·rw[Ak,kA,zC hk,XZ hi hk]; rfl
theorem A3c(hl:m.length≤maxLen)(ht:DY p m=E)(hd:∀d∈l,Bq d=E)(hN:l.length≤12):P2 p m l=O (Ch p m l):=by
 have hm:l.length≤maxLen:=by rw[AA]; omega
 unfold P2;refine Gr (L:=G5 p m l) l (fun d=>l.map fun e=>CJ p m d e || CJ p m e d) O hm (fun n i acc h ha=> ?_) (fun n acc ha=>by simp[G5]);rw[G5,Ae,if_pos (by simpa using h),Af h,zB];rw[Gr (L:=Hm p m l (i:X) l[i] acc (G5 p m l n)) l (fun e=>CJ p m l[i] e || CJ p m e l[i]) (fun row=>G5 p m l n (kY .i64 ((i:X)+1)) (acc++ [row])) hm (fun n2 k acc2 hk ha2=> ?_) (fun n2 acc2 ha2=> ?_)]
 ·rw[Hm,Ae,if_pos (by simpa using hk),Af hk,zB,dL hl ht (hd _ (zF h)) (hd _ (zF hk)),zB,dL hl ht (hd _ (zF hk)) (hd _ (zF h))];have a1:∀b:Y,Ad acc2.length [b].length 1=E:=fun b=>Fq (by simp; omega) (by omega)
  cases CJ p m l[i] l[k] with
  | true=>rw[if_pos rfl,if_pos (a1 E)]; rfl
  | false=>rw[if_neg (by simp),zB,if_pos (a1 _)]; rfl
 ·rw[Hm,if_neg (by simp),if_pos (Fq (by simp; omega) (by omega))]
def I7(p:X)(m:Q X)(l:Q Xb)(i j:Z):Y:=decide (j<l.length)&&(decide (i≠j)&&Bb p m l i j)
theorem A1c(hl:m.length≤maxLen)(ht:DY p m=E)(hd:∀d∈l,Bq d=E)(hN:l.length≤12)(K:X→Q X→U (Q X)){i:Z}(hi:i<l.length)(ms:Q Z)(hms:ms.length=l.length) :
  ∀(r k n a:Z),k+r=l.length→r<n→(∀j,a.testBit j=(decide (j<k)&&(decide (i≠j)&&Bb p m l i j)))→
   ∃q,(∀j,q.testBit j=I7 p m l i j)∧Ee p m l (i:X) l[i] K n (k:X) (nn (ms.set i a))=K (kY .i64 ((i:X)+1)) (nn (ms.set i q)):=by
 have hm:l.length≤maxLen:=by rw[AA]; omega
 intro r
 induction r with
 | zero=>
  intro k n a hk hn ha;obtain⟨n,rfl⟩:∃n',n=n'+1:=⟨n - 1,by omega⟩;refine⟨a,fun j=> ?_,?_⟩
  ·rw[ha,show k=l.length by omega]; rfl
  ·rw[Ee,if_neg (by simp; omega)]
 | succ r ih=>
  intro k n a hk hn ha;obtain⟨n,rfl⟩:∃n',n=n'+1:=⟨n - 1,by omega⟩;have hlt:k<l.length:=by omega
  have a12:a<2 ^ 12:=PO fun j hj=>by
   rw[ha,zE,decide_eq_true_eq] at hj; omega
  have step:∀v:Y,v=(decide (i≠k)&&Bb p m l i k)→∃q,(∀j,q.testBit j=I7 p m l i j)∧IL p m l (i:X) (k:X) l[i] (nn (ms.set i a)) (Ee p m l (i:X) l[i] K n) v=K (kY .i64 ((i:X)+1)) (nn (ms.set i q)):=by
   intro v hv;unfold IL;cases v with
   | true=>
    rw[if_pos rfl,Dy (by simp; omega),zB,if_neg (by simp),Vw (by omega),kE];have h12:2 ^ k<2 ^ 64:=yQ (by omega) (by omega);rw[Vf (yD a12 (by decide)) h12,zP,K6,List.set_set,An hlt hm];refine ih (k+1) n _ (by omega) (by omega) fun j=> ?_
    rw[yM,ha,Kg];by_cases hjk:k=j
    ·subst hjk;have hx:¬i=k∧Bb p m l i k=E:=by simpa using hv.symm
     simp[hx.1,hx.2]
    ·have e:decide (j<k+1)=decide (j<k):=decide_eq_decide.2 (by omega);rw[e];simp[hjk]
   | false=>
    rw[if_neg (by simp),An hlt hm];refine ih (k+1) n a (by omega) (by omega) fun j=> ?_
    rw[ha];by_cases hjk:k=j
    ·subst hjk;rw[← hv];simp
    ·have e:decide (j<k+1)=decide (j<k):=decide_eq_decide.2 (by omega);rw[e]
  rw[Ee,Ae,if_pos (by simpa using hlt),Af hlt,zB];by_cases hik:i=k
  ·subst hik;rw[if_neg (by simp)];exact step G (by simp)
  ·have hne:((i:X) !=(k:X))=E:=by simp; omega
   rw[if_pos hne,am hl ht (hd _ (zF hi)) (hd _ (zF hlt)),zB];have hb:=XZ (p:=p) (m:=m) hi hlt;cases hf:CJ p m l[i] l[k] with
   | true=>
    rw[if_pos rfl];exact step E (by rw[hb,hf]; simp[hik])
   | false=>
    rw[if_neg (by simp),am hl ht (hd _ (zF hlt)) (hd _ (zF hi)),zB];exact step _ (by rw[hb,hf]; simp[hik])
theorem wD(hl:m.length≤maxLen)(ht:DY p m=E)(hd:∀d∈l,Bq d=E)(hN:l.length≤12):∃ms:Q Z,ms.length=l.length∧(∀i j:Z,i<l.length→(ms[i]?.getD 0).testBit j=I7 p m l i j)∧NA p m l=O (nn ms):=by
 have hm:l.length≤maxLen:=by rw[AA]; omega
 have key:∀(r i n:Z) (ms:Q Z),i+r=l.length→r<n→ms.length=l.length→(∀i' j:Z,i'<i→(ms[i']?.getD 0).testBit j=I7 p m l i' j)→(∀i':Z,i≤i'→ms[i']?.getD 0=0)→
   ∃ms':Q Z,ms'.length=l.length∧(∀i j:Z,i<l.length→(ms'[i]?.getD 0).testBit j=I7 p m l i j)∧FG p m l n (i:X) (nn ms)=O (nn ms'):=by
  intro r
  induction r with
  | zero=>
   intro i n ms hi hn hms h1 h2;obtain⟨n,rfl⟩:∃n',n=n'+1:=⟨n - 1,by omega⟩;exact⟨ms,hms,fun i' j h=>h1 i' j (by omega),by rw[FG,if_neg (by simp; omega)]⟩
  | succ r ih=>
   intro i n ms hi hn hms h1 h2;obtain⟨n,rfl⟩:∃n',n=n'+1:=⟨n - 1,by omega⟩;have hlt:i<l.length:=by omega
   obtain⟨q,hq,e⟩:=A1c hl ht hd hN (FG p m l n) hlt ms hms l.length 0 bigN 0 (by omega) (Bm hm) (fun j=>by simp)
   have e0:ms.set i 0=ms:=by
    have h3:=h2 i (kB _);rw[zC (by omega)] at h3
    have h3:ms[i]'(by omega)=0:=h3;apply List.ext_getElem (by simp)
    intro j hj1 hj2;by_cases hij:i=j
    ·subst hij; simp[h3]
    ·rw[List.getElem_set_ne hij]
   rw[e0] at e
   rw[FG,Ae,if_pos (by simpa using hlt),Af hlt,zB];have e:Ee p m l (i:X) l[i] (FG p m l n) bigN 0 (nn ms)=_:=e;rw[e,An hlt hm];refine ih (i+1) n (ms.set i q) (by omega) (by omega) (by simpa using hms) (fun i' j h=> ?_) (fun i' h=> ?_)
   ·by_cases hii:i=i'
    ·subst hii;rw[yG (by omega)];exact hq j
    ·rw[yE hii];exact h1 i' j (by omega)
   ·rw[yE (by omega)];exact h2 i' (by omega)
 unfold NA;rw[Es (by omega) (by omega),zB];have hz:zI l.length (0:X)=nn (zI l.length 0):=by simp[nn]
 rw[hz]
 exact key l.length 0 bigN _ (by omega) (Bm hm) (by simp) (fun i' j h=>by omega) (fun i' h=>by
  rw[List.getElem?_replicate];split<;>rfl)
end
section
variable {B : Z → Z → Y} {N : Z} {ms : Q Z}
def lW(B:Z→Z→Y)(N:Z)(ms:Q Z):Prop:=ms.length=N∧∀i j:Z,i<N→(ms[i]?.getD 0).testBit j=(decide (j<N)&&(decide (i≠j)&&B i j))
theorem nj:Fm B 0:=fun i j hi=>by simp at hi
theorem ni(hB:∀i j,B i j=B j i){s t:Z}(h1:2 ^ t≤s)(h2:s<2 ^ (t+1)):Fm B s↔Fm B (AJ s (2 ^ t))∧∀i,(AJ s (2 ^ t)).testBit i=E→B t i=E:=by
 obtain⟨a1,a2,a3,a4⟩:=VO h1 h2;constructor
 ·intro h;exact⟨fun i j hi hj=>h i j (a3 i hi) (a3 j hj),fun i hi=>h t i a1 (a3 i hi) (by have:=I3 a2 hi; omega)⟩
 ·rintro⟨k1,k2⟩ i j hi hj hne
  rcases a4 i hi with rfl|hi
  ·rcases a4 j hj with rfl|hj
   ·exact absurd zA hne
   ·exact k2 j hj
  ·rcases a4 j hj with rfl|hj
   ·rw[hB]; exact k2 i hi
   ·exact k1 i j hi hj hne
theorem Tr{a b:Z}:AJ a b=0↔∀i,a.testBit i=E→b.testBit i=E:=by
 constructor
 ·intro h i hi;have:=Fb a b i;rw[h,hi] at this
  cases hb:b.testBit i with
  | true=>rfl
  | false=>rw[hb] at this; simp at this
 ·intro h;apply yP
  intro i;rw[Fb,Nat.zero_testBit];cases hi:a.testBit i with
  | false=>rfl
  | true=>rw[h i hi]; rfl
theorem XG(a b:Z):AJ a b≤a:=by
 rcases yC a (AJ a b) with h|h
 ·obtain⟨i,h1,h2⟩:=Nat.exists_testBit_ne_of_ne (Nat.ne_of_lt h) |>.elim fun i hi=>(⟨i,hi,⟨⟩⟩:∃i,a.testBit i≠(AJ a b).testBit i∧True)
  exfalso
  have:AJ a b &&& a=AJ a b:=Vb fun i hi=>by
   rw[Fb,zE] at hi
   exact hi.1
  have h3:= @Nat.and_le_right (AJ a b) a;omega
 ·exact h
def Th(B:Z→Z→Y)(tg:Q Y)(s:Z):Prop:=∀x,x<s→(tg[x]?.getD G=E↔Fm B x)
def Xw(B:Z→Z→Y)(ls:Q Z)(s:Z):Prop:=∀x,x<s→Ci B x (ls[x]?.getD 0)
theorem bP(hN:N≤12){x n:Z}(hx:x<2 ^ N)(h:Ci B x n):n≤12:=Nat.le_trans (h.2 N (QK hx)) hN
theorem Sc{tg:Q Y}{x:Z}(h:x<tg.length):ix tg (x:X)=O (tg[x]?.getD G):=by
 rw[Ak,zC h]; rfl
theorem Sa{ls:Q Z}{x:Z}(h:x<ls.length):ix (nn ls) (x:X)=O (((ls[x]?.getD 0:Z)):X):=by
 rw[Dy h,zC h]; rfl
theorem cV(hN:N≤12):2 ^ N≤4096:=by
 have:=yO (show 0<2 by omega) hN;simpa using this
theorem xq(hN:N≤12)(y5:X){s t:Z}(hs:s<2 ^ N)(h1:2 ^ t≤s)(h2:s<2 ^ (t+1)){tg:Q Y}{ls:Q Z}(htl:tg.length=2 ^ N)(hll:ls.length=2 ^ N)(ht:Th B tg (s+1))(hl:Xw B ls s)(K:X→Q Y→Q X→U X) :
  ∀(n q c:Z),q<n→q &&& AJ s (2 ^ t)=q→EB B s c→c≤100→(∀q',q' &&& AJ s (2 ^ t)=q'→q<q'→Fm B (q' ||| 2 ^ t)→c≤1+ls[AJ (AJ s (2 ^ t)) q']?.getD 0)→
   ∃c',Ci B s c'∧GX (nn ms) y5 (s:X) (t:X) ((AJ s (2 ^ t):Z):X) tg K n (q:X) (nn (ls.set s c))=K (kY .i64 ((s:X)+1)) tg (nn (ls.set s c')):=by
 obtain⟨a1,a2,a3,a4⟩:=VO h1 h2;have hp:=cV hN;have h2s:AJ s (2 ^ t)<s:=yT a2 h1;generalize hr:AJ s (2 ^ t)=r at a2 a3 a4 h2s
 intro n
 induction n with
 | zero=>intro q c hq; omega
 | succ n ih=>
  intro q c hq hsub hc hc1 hall
  have ht12:t<12:=by
   rcases yC t 12 with h|h
   ·exact h
   ·have:=yO (show 0<2 by omega) h;simp at this
    omega
  have hqr:q≤r:=by have:= @Nat.and_le_right q r; omega
  have hor:q ||| 2 ^ t≤s:=by
   have hsb:(q ||| 2 ^ t) &&& s=q ||| 2 ^ t:=Vb fun i hi=>by
    rw[yM,Kg,kU,decide_eq_true_eq] at hi
    rcases hi with h|h
    ·exact a3 i (A4l hsub h)
    ·subst h; exact a1
   have:= @Nat.and_le_right (q ||| 2 ^ t) s;omega
  have hsml:∀x:Z,x≤s→x<2 ^ 63:=fun x hx=>yV hx (yT hs (Nat.le_trans hp (by decide)))
  have hand:AJ r q<s:=yV (XG r q) h2s;have hset:s<(ls.set s c).length:=by simp; omega
  have hnext:∀c1:Z,EB B s c1→c1≤100→(∀q',q' &&& r=q'→q≤q'→Fm B (q' ||| 2 ^ t)→c1≤1+ls[AJ r q']?.getD 0)→
    ∃c',Ci B s c'∧L8 (nn ms) y5 (s:X) (t:X) (r:X) (q:X) tg K (GX (nn ms) y5 (s:X) (t:X) (r:X) tg K n) (nn (ls.set s c1))=K (kY .i64 ((s:X)+1)) tg (nn (ls.set s c')):=by
   intro c1 g1 g2 g3;unfold L8;by_cases h0:q=0
   ·subst h0;refine⟨c1,⟨g1,fun m hm=> ?_⟩,by rw[if_pos (by simp)]⟩;obtain⟨q',n',e1,e2,e3,e4⟩:=oD a1 a3 hm;have:=(hl (AJ r q') (yV (XG r q') h2s)).2 n' e4;have:=g3 q' e1 (zK _) e2;omega
   ·rw[if_neg (by simpa using h0)]
    have ew:kY .i64 ((q:X) - 1)=((q - 1:Z):X):=by
     rw[show(q:X) - 1=((q - 1:Z):X) by omega];exact Eu (hsml _ (by omega))
    rw[ew,lk (hsml _ (by omega)) (hsml _ (by omega))];have hlt:= @lm q r (by omega);refine ih ((q - 1) &&& r) c1 (by omega) (lp _ _) g1 g2 fun q' e1 e2 e3=> ?_
    refine g3 q' e1 ?_ e3;rcases yC q' q with h|h
    ·have:=A0e r r q q' (kB _) hsub e1 h;omega
    ·exact h
  rw[GX,if_neg (by simp),SK (by omega),A05 (hsml _ (by omega)) (hsml _ (by omega)),Sc (by omega),zB];have hk:=ht (q ||| 2 ^ t) (by omega);cases hb:tg[q ||| 2 ^ t]?.getD G with
  | false=>
   rw[if_neg (by simp)];refine hnext c hc hc1 fun q' e1 e2 e3=> ?_
   rcases yC q q' with h|h
   ·exact hall q' e1 h e3
   ·have:q'=q:=by omega
    subst this;rw[hb] at hk
    exact absurd (hk.2 e3) (by simp)
  | true=>
   rw[if_pos rfl];have hcq:=hk.1 hb
   have e26:ix (nn (ls.set s c)) (s:X)=O (c:X):=by
    rw[Dy hset,kE]
   have e27:ix (nn (ls.set s c)) (Bk .andNot .i64 (r:X) (q:X))=O ((ls[AJ r q]?.getD 0:Z):X):=by
    rw[XF (hsml _ (by omega)) (hsml _ (by omega)),Sa (by simp; omega),yE (by omega)]
   rw[e26,zB,e27,zB];have hle:=hl (AJ r q) hand;have h12:=bP hN (yD hand hs) hle;generalize hv:ls[AJ r q]?.getD 0=v at hle h12
   have ew:kY .i64 ((1:X)+(v:X))=((1+v:Z):X):=by
    rw[show(1:X)+(v:X)=((1+v:Z):X) by omega];exact Eu (by omega)
   have emin:(if kY .i64 ((1:X)+(v:X))<(c:X) then kY .i64 ((1:X)+(v:X)) else(c:X))=((if 1+v<c then 1+v else c:Z):X):=by
    rw[ew];by_cases h:1+v<c
    ·rw[if_pos (by omega),if_pos h]
    ·rw[if_neg (by omega),if_neg h]
   rw[emin,zP,K6,List.set_set];refine hnext _ ?_ (by split<;>omega) fun q' e1 e2 e3=> ?_
   ·split
    ·exact oC a4 hcq hle.1
    ·exact hc
   ·rcases yC q q' with h|h
    ·have:=hall q' e1 h e3;split<;>omega
    ·have:q'=q:=by omega
     subst this;rw[hv];split<;>omega
theorem xp(hB:∀i j,B i j=B j i)(hN:N≤12)(hm:lW B N ms):∃n:Z,Ci B (2 ^ N - 1) n∧n≤12∧Ny (nn ms)=O (n:X):=by
 have hp:=cV hN;have hp0:0<2 ^ N:=kK (by omega);obtain⟨hml,hmb⟩:=hm
 have key:∀(k s n:Z) (tg:Q Y) (ls:Q Z),s+k=2 ^ N→k<n→1≤s→tg.length=2 ^ N→ls.length=2 ^ N→Th B tg s→Xw B ls s→
   ∃v:Z,Ci B (2 ^ N - 1) v∧v≤12∧EK (nn ms) ((2 ^ N:Z):X) n (s:X) tg (nn ls)=O (v:X):=by
  intro k
  induction k with
  | zero=>
   intro s n tg ls hs hn hs1 htl hll ht hl;obtain⟨n,rfl⟩:∃n',n=n'+1:=⟨n - 1,by omega⟩;have:=hl (2 ^ N - 1) (by omega);refine⟨_,this,bP hN (by omega) this,?_⟩
   have ew:kY .i64 (((2 ^ N:Z):X) - 1)=((2 ^ N - 1:Z):X):=by
    rw[show((2 ^ N:Z):X) - 1=((2 ^ N - 1:Z):X) by omega];exact Eu (by omega)
   rw[EK,if_neg (by simp only[Ae,decide_eq_true_eq]; omega),ew,Sa (by omega),zB]
  | succ k ih=>
   intro s n tg ls hs hn hs1 htl hll ht hl;obtain⟨n,rfl⟩:∃n',n=n'+1:=⟨n - 1,by omega⟩;obtain⟨t,e1,h1,h2,ht12⟩:=xz hs1 (show s<4096 by omega);obtain⟨a1,a2,a3,a4⟩:=VO h1 h2;have htN:t<N:=I3 (show s<2 ^ N by omega) a1;have h2s:AJ s (2 ^ t)<s:=yT a2 h1
   have hsml:∀x:Z,x≤s→x<2 ^ 63:=fun x hx=>by
    have:(4096:Z)<2 ^ 63:=by decide
    omega
   have ew:kY .i64 (((t+1:Z):X) - 1)=(t:X):=by
    rw[show((t+1:Z):X) - 1=(t:X) by omega];exact Eu (by omega)
   have er:Bk .andNot .i64 (s:X) (Bs .i64 (1:X) (t:X))=((AJ s (2 ^ t):Z):X):=by
    rw[SK (by omega),XF (hsml _ (kB _)) (hsml _ h1)]
   have hu:IntKind.u64.wrap (s:X)=(s:X):=Mi (by omega);have hct:=ni hB h1 h2
   have rest:∀b:Y,(b=E↔Fm B s)→∃v:Z,Ci B (2 ^ N - 1) v∧v≤12∧
     L7 (nn ms) ((2 ^ N:Z):X) (s:X) (nn ls) (EK (nn ms) ((2 ^ N:Z):X) n) (t:X) ((AJ s (2 ^ t):Z):X) (tg.set s b)=O (v:X):=by
    intro b hb
    have ht':Th B (tg.set s b) (s+1):=fun x hx=>by
     by_cases h:s=x
     ·subst h;rw[yG (by omega)];exact hb
     ·rw[yE h];exact ht x (by omega)
    unfold L7;rw[Sa (by omega),zB,Cb,hml,zP,K6]
    obtain⟨c',k1,k2⟩:=xq (ms:=ms) hN ((2 ^ N:Z):X) (show s<2 ^ N by omega) h1 h2 (tg:=tg.set s b) (ls:=ls) (by simpa using htl) hll ht' hl (EK (nn ms) ((2 ^ N:Z):X) n) bigN (AJ s (2 ^ t)) N (by rw[C7]; omega) (Nat.and_self _) (QK (by omega)) (by omega) (fun q' g1 g2=>by
     have:= @Nat.and_le_right q' (AJ s (2 ^ t));omega)
    rw[k2,An (show s<4096 by omega) (by rw[AA]; omega)];refine ih (s+1) n (tg.set s b) (ls.set s c') (by omega) (by omega) (by omega) (by simpa using htl) (by simpa using hll) ht' fun x hx=> ?_
    by_cases h:s=x
    ·subst h;rw[yG (by omega)];exact k1
    ·rw[yE h];exact hl x (by omega)
   rw[EK,Ae,if_pos (by simp; omega),hu,e1,zB,ew,if_neg (by simp),er,Sc (by omega),zB,zP];have hk:=ht (AJ s (2 ^ t)) h2s;cases hb:tg[AJ s (2 ^ t)]?.getD G with
   | true=>
    rw[if_pos rfl,Sa (by omega),zB,Sc (by omega),zB]
    have hmt:ms[t]?.getD 0<2 ^ 12:=PO fun j hj=>by
     rw[hmb t j htN,zE,decide_eq_true_eq] at hj
     omega
    rw[Mi (n:=AJ s (2 ^ t)) (by omega),MJ (by omega) (yD hmt (by decide)),mg];refine rest _ ?_;rw[decide_eq_true_eq,Tr,hct];constructor
    ·intro h;refine⟨hk.1 hb,fun i hi=> ?_⟩;have:=h i hi;rw[hmb t i htN] at this
     simp at this
     exact this.2.2
    ·rintro⟨_,h⟩ i hi
     have hit:=I3 a2 hi;rw[hmb t i htN,h i hi];simp;omega
   | false=>
    rw[if_neg (by simp),Sc (by omega),zB];refine rest G ?_;rw[hct];constructor
    ·intro h; cases h
    ·rintro⟨h,_⟩
     have:=hk.2 h;rw[hb] at this
     cases this
 unfold Ny
 have hm1:∀b:Z,b≤1000→BM (Bs .i64 (1:X) ((N:Z):X)) (Bs .i64 (1:X) ((N:Z):X)) b=O (2 ^ N):=fun b hb=>by
  rw[SK (by omega)]; exact Es (by omega) hb
 rw[Cb,hml,if_neg (by simp),hm1 1 (by omega),zB,hm1 8 (by omega),zB,SK (by omega)]
 have e0:ix (zI (2 ^ N) G) (0:X)=O G:=by
  have:=Af (l:=zI (2 ^ N) G) (i:=0) (by simpa using hp0);simpa using this
 have hz:zI (2 ^ N) (0:X)=nn (zI (2 ^ N) 0):=by simp[nn]
 rw[e0,zB,hz]
 obtain⟨v,k1,k2,k3⟩:=key (2 ^ N - 1) 1 bigN ((zI (2 ^ N) G).set 0 E) (zI (2 ^ N) 0) (by omega) (by rw[C7]; omega) (by omega) (by simp) (by simp)
  (fun x hx=>by
   have:x=0:=by omega
   subst this;rw[yG (by simpa using hp0)];exact⟨fun _=>nj,fun _=>rfl⟩)
  (fun x hx=>by
   have:x=0:=by omega
   subst this;rw[List.getElem?_replicate,if_pos hp0];exact V2)
 exact⟨v,k1,k2,k3⟩
end
theorem lr{g i:Z}(h:g<2 ^ i):AJ (g ||| 2 ^ i) (2 ^ i)=g:=by
 apply yP
 intro j;rw[Fb,yM,Kg];by_cases hj:i=j
 ·subst hj;rw[Nat.testBit_lt_two_pow h];simp
 ·simp[hj]
theorem A24{α:Type}{l:Q α}{i:Z}{x:α}(h:l[i]?=O x):l.set i x=l:=by
 apply List.ext_getElem?
 intro j;by_cases hij:i=j
 ·subst hij;rw[yG (kL.1 h).1,h]
 ·rw[yE hij]
theorem oE:∀(d fuel:Z) (sm gs:Q Z) (most:X) (who:Q X),who.length+d=sm.length→d<fuel→(∀x∈sm,x<2 ^ 12)→sm.length≤12→(∀g∈gs,0<g∧g<2 ^ who.length)→gs.length≤who.length→
  ∃b r,Ed fuel ⟨nn sm,most,nn gs,who⟩=O (b,r)∧r.most=most∧(b=G→r=⟨nn sm,most,nn gs,who⟩):=by
 intro d
 induction d with
 | zero=>
  intro fuel sm gs most who hd hf h1 h2 h3 h4;obtain⟨fuel,rfl⟩:∃n',fuel=n'+1:=⟨fuel - 1,by omega⟩;refine⟨E,⟨nn sm,most,nn gs,who⟩,?_,zA,fun h=>by cases h⟩;rw[Ed,Nw,if_pos (by simp[Cb]; omega)]
 | succ d ih=>
  intro fuel sm gs most who hd hf h1 h2 h3 h4;obtain⟨fuel,rfl⟩:∃n',fuel=n'+1:=⟨fuel - 1,by omega⟩;rw[Ed,Nw,if_neg (by simp[Cb]; omega)];have hi12:who.length≤11:=by omega
  have hpw:2 ^ who.length<2 ^ 64:=yQ (by omega) (by omega);have hp0:0<2 ^ who.length:=kK (by omega);have hpd:2 ^ (who.length+1)=2 ^ who.length+2 ^ who.length:=by rw[Nat.pow_succ]; omega
  have hsi:who.length<sm.length:=by omega
  have hsm:sm[who.length]<2 ^ 64:=yD (h1 _ (zF hsi)) (by decide)
  have key:∀(k p n:Z),p+k=gs.length+1→k<n→∃b r,FF (Ed fuel) ⟨nn sm,most,nn gs,who⟩ n (p:X) (nn sm) most (nn gs) who=O (b,r)∧r.most=most∧(b=G→r=⟨nn sm,most,nn gs,who⟩):=by
   intro k
   induction k with
   | zero=>
    intro p n hp hn;obtain⟨n,rfl⟩:∃n',n=n'+1:=⟨n - 1,by omega⟩;refine⟨G,_,?_,zA,fun _=>rfl⟩;rw[FF,if_neg (by simp[Cb]; omega)]
   | succ k ihk=>
    intro p n hp hn;obtain⟨n,rfl⟩:∃n',n=n'+1:=⟨n - 1,by omega⟩;have hpl:p≤gs.length:=by omega
    rw[FF,if_pos (by simp[Cb]; omega)];cases hmost:decide ((p:X)<most) with
    | false=>exact⟨G,_,by rw[if_neg (by simp)],rfl,fun _=>rfl⟩
    | true=>
     rw[if_pos rfl];by_cases hpe:p=gs.length
     ·
      rw[if_pos (by simp[Cb]; omega),if_pos (Fq (by simp[Cb]; omega) (by omega))];have e0:nn gs++ [(0:X)]=nn (gs++ [0]):=cD gs 0;rw[e0];unfold L4;dsimp only
      have hpg:p<(gs++ [0]).length:=by simp; omega
      have hg0:(gs++ [0])[p]=0:=by simp[hpe]
      rw[Dy hpg,zB,hg0,Dy hsi,zB,MJ (by decide) hsm];have ez:AJ 0 sm[who.length]=0:=Tr.2 fun i hi=>by simp at hi
      rw[ez,if_pos (by simp),if_neg (by simp),if_pos (Fq (by simp; omega) (by omega)),Vw (by omega),Vf (by decide) hpw,Nat.zero_or,zP,K6]
      have es:(gs++ [0]).set p (2 ^ who.length)=gs++ [2 ^ who.length]:=by
       rw[List.set_append_right _ _ (by omega)];simp[hpe]
      rw[es]
      obtain⟨b,r,k1,k2,k3⟩:=ih fuel sm (gs++ [2 ^ who.length]) most (who++ [(p:X)]) (by simp; omega) (by omega) h1 h2 (fun g hg=>by
       rw[zO,zY,hpd];rcases zV.1 hg with hg|hg
       ·have:=h3 g hg; omega
       ·rw[zS] at hg; omega) (by simp; omega)
      rw[k1,zB];cases b with
      | true=>exact⟨E,r,by rw[if_pos rfl],k2,fun h=>by cases h⟩
      | false=>
       have:=k3 rfl;subst this;rw[if_neg (by simp)];have hw:((who++ [(p:X)]).length:X)=((who.length+1:Z):X):=by simp
       simp only[zO,zY];rw[show bnd ((who.length+1:Z):X) (who.length:X) 0 (who.length+1)=O (0,who.length) from E7 (by omega),zB];have hpg2:p<(gs++ [2 ^ who.length]).length:=by simp; omega
       have hg2:(gs++ [2 ^ who.length])[p]=2 ^ who.length:=by simp[hpe]
       rw[Dy hpg2,zB,hg2,if_neg (by simp),MJ hpw hpw,K6];have ez2:AJ (2 ^ who.length) (2 ^ who.length)=0:=Tr.2 fun i hi=>hi
       have es2:(gs++ [2 ^ who.length]).set p 0=gs++ [0]:=by
        rw[List.set_append_right _ _ (by omega)];simp[hpe]
       have et:(who++ [(p:X)]).take who.length=who:=by simp
       rw[ez2,es2,et];unfold IH;rw[Dy hpg,zB,hg0,if_pos (by simp),Cb];have hl1:(gs++ [0]).length=gs.length+1:=by simp
       rw[hl1,show bnd ((gs.length+1:Z):X) (p:X) 0 (gs.length+1)=O (0,p) from E7 (by omega),zB];have et2:(nn (gs++ [0])).take p=nn gs:=by rw[hpe]; simp[nn]
       show ∃b r,O (G,(⟨nn sm,most,(nn (gs++ [0])).take p,who⟩:Xh))=O (b,r)∧_
       rw[et2];exact⟨G,_,zA,zA,fun _=>rfl⟩
     ·
      rw[if_neg (by simp[Cb]; omega)];have hpg:p<gs.length:=by omega
      have hgm:=h3 _ (zF hpg)
      have hnext:∃b r,IH (Ed fuel) ⟨nn sm,most,nn gs,who⟩ (p:X) (FF (Ed fuel) ⟨nn sm,most,nn gs,who⟩ n) (nn sm) most (nn gs) who=O (b,r)∧r.most=most∧(b=G→r=⟨nn sm,most,nn gs,who⟩):=by
       unfold IH;rw[Dy hpg,zB,if_neg (by simp; omega),An hpg (by rw[AA]; omega)];exact ihk (p+1) n (by omega) (by omega)
      unfold L4;dsimp only
      rw[Dy hpg,zB,Dy hsi,zB,MJ (by omega) hsm];cases hfit:(((AJ gs[p] sm[who.length]:Z):X)==0) with
      | false=>rw[if_neg (by simp)]; exact hnext
      | true=>
       rw[if_pos rfl,if_neg (by simp),if_pos (Fq (by simp; omega) (by omega)),Vw (by omega),Vf (by omega) hpw,zP,K6];have hor:gs[p] ||| 2 ^ who.length<2 ^ (who.length+1):=yZ (by omega) (by omega)
       have hop:0<gs[p] ||| 2 ^ who.length:=by
        have:= @Nat.left_le_or gs[p] (2 ^ who.length);omega
       have hor64:gs[p] ||| 2 ^ who.length<2 ^ 64:=yZ (by omega) hpw
       obtain⟨b,r,k1,k2,k3⟩:=ih fuel sm (gs.set p (gs[p] ||| 2 ^ who.length)) most (who++ [(p:X)]) (by simp; omega) (by omega) h1 h2 (fun g hg=>by
        rw[zO,zY];rcases List.mem_or_eq_of_mem_set hg with hg|hg
        ·have:=h3 g hg; omega
        ·subst hg; exact⟨hop,hor⟩) (by simp; omega)
       rw[k1,zB];cases b with
       | true=>exact⟨E,r,by rw[if_pos rfl],k2,fun h=>by cases h⟩
       | false=>
        have:=k3 rfl;subst this;rw[if_neg (by simp)];simp only[zO,zY];have hps:p<(gs.set p (gs[p] ||| 2 ^ who.length)).length:=by simp; omega
        rw[show bnd ((who.length+1:Z):X) (who.length:X) 0 (who.length+1)=O (0,who.length) from E7 (by omega),zB,Dy hps,zB,kE,if_neg (by simp),MJ hor64 hpw,K6,lr hgm.2,List.set_set,A24 (zC hpg)];have et:(who++ [(p:X)]).take who.length=who:=by simp
        rw[et];exact hnext
  exact key (gs.length+1) 0 bigN (by omega) (by rw[C7]; omega)
section
variable {p : X} {m : Q X} {l : Q Xb}
def lY(B:Z→Z→Y)(w:Q Z):Prop:=∀(i k:Z) (hi:i<w.length) (hk:k<i),w[i]=w[k]→B i k=E
theorem A2w(rec_:(Q (Q Y))→(Q X)→X→U ((Q X) × Y))(a2 v2:X)(K:X→U ((Q X) × Y))(c:Z){w:Q Z}(hw:w.length<l.length)(hN:l.length≤12) :
  ∀(r k n:Z) (v:Y),k+r=w.length→r<n→∃b:Y,(b=E↔v=E∧∀(k':Z) (h:k'<w.length),k≤k'→w[k']=c→Bb p m l w.length k'=E)∧
   DH rec_ (Ch p m l) (nn w) a2 v2 (c:X) K n v (k:X)=DH rec_ (Ch p m l) (nn w) a2 v2 (c:X) K 1 b (w.length:X):=by
 intro r
 induction r with
 | zero=>
  intro k n v hk hn;obtain⟨n,rfl⟩:∃n',n=n'+1:=⟨n - 1,by omega⟩;have:k=w.length:=by omega
  subst this;refine⟨v,⟨fun h=>⟨h,fun k' h1 h2=>by omega⟩,fun h=>h.1⟩,?_⟩;simp only[DH,Cb,Ae,Nat.lt_irrefl,decide_false,zD,if_false]
 | succ r ih=>
  intro k n v hk hn;obtain⟨n,rfl⟩:∃n',n=n'+1:=⟨n - 1,by omega⟩;have hlt:k<w.length:=by omega
  rw[DH,if_pos (by simp[Cb]; omega),Dy hlt,zB];have hwr:=An hlt (show w.length≤maxLen by rw[AA]; omega);by_cases hc:w[k]=c
  ·obtain⟨x,x1,x2⟩:=A2h (p:=p) (m:=m) hw (show k<l.length by omega);rw[if_pos (by simp; omega),Cb,x1,zB,x2,zB];cases hb:Bb p m l w.length k with
   | true=>
    rw[if_pos rfl,hwr];obtain⟨b,b1,b2⟩:=ih (k+1) n v (by omega) (by omega);refine⟨b,b1.trans ⟨fun⟨g1,g2⟩=>⟨g1,fun k' h1 h2 h3=> ?_⟩,fun⟨g1,g2⟩=>⟨g1,fun k' h1 h2=>g2 k' h1 (by omega)⟩⟩,b2⟩;by_cases hkk:k=k'
    ·subst hkk; exact hb
    ·exact g2 k' h1 (by omega) h3
   | false=>
    rw[if_neg (by simp),hwr];obtain⟨b,b1,b2⟩:=ih (k+1) n G (by omega) (by omega);refine⟨b,b1.trans ⟨fun⟨g1,g2⟩=>(by cases g1),fun⟨g1,g2⟩=> ?_⟩,b2⟩;have:=g2 k hlt (kB _) hc;rw[hb] at this
    cases this
  ·rw[if_neg (by simp; omega),hwr];obtain⟨b,b1,b2⟩:=ih (k+1) n v (by omega) (by omega);refine⟨b,b1.trans ⟨fun⟨g1,g2⟩=>⟨g1,fun k' h1 h2 h3=> ?_⟩,fun⟨g1,g2⟩=>⟨g1,fun k' h1 h2=>g2 k' h1 (by omega)⟩⟩,b2⟩;by_cases hkk:k=k'
   ·subst hkk; exact absurd h3 hc
   ·exact g2 k' h1 (by omega) h3
theorem A2x(rec_:(Q (Q Y))→(Q X)→X→U ((Q X) × Y))(a0:Q (Q Y))(a2:X){w:Q Z}(hw:w.length≤12)(hx:∀x∈w,x<12) :
  ∀(r k n v:Z),k+r=w.length→r<n→v≤12→∃u:Z,u≤12∧v≤u∧(∀x∈w.drop k,x<u)∧Hn rec_ a0 (nn w) a2 n (v:X) (k:X)=Ej rec_ a0 (nn w) a2 (u:X) bigN 0:=by
 intro r
 induction r with
 | zero=>
  intro k n v hk hn hv;obtain⟨n,rfl⟩:∃n',n=n'+1:=⟨n - 1,by omega⟩;refine⟨v,hv,kB _,fun x h=> ?_,?_⟩
  ·rw[List.drop_eq_nil_of_le (by omega)] at h; cases h
  ·rw[Hn,if_neg (by simp[Cb]; omega)]
 | succ r ih=>
  intro k n v hk hn hv;obtain⟨n,rfl⟩:∃n',n=n'+1:=⟨n - 1,by omega⟩;have hlt:k<w.length:=by omega
  have hk12:=hx _ (zF hlt);rw[Hn,if_pos (by simp[Cb]; omega),Dy hlt,zB,An hlt (by rw[AA]; omega)];have ew:kY .i64 (((w[k]:Z):X)+1)=((w[k]+1:Z):X):=An (n:=12) hk12 (by rw[AA]; omega)
  have em:(if(v:X)<kY .i64 (((w[k]:Z):X)+1) then kY .i64 (((w[k]:Z):X)+1) else(v:X))=((if v<w[k]+1 then w[k]+1 else v:Z):X):=by
   rw[ew];by_cases h:v<w[k]+1
   ·rw[if_pos (by omega),if_pos h]
   ·rw[if_neg (by omega),if_neg h]
  rw[em];obtain⟨u,u1,u2,u3,u4⟩:=ih (k+1) n (if v<w[k]+1 then w[k]+1 else v) (by omega) (by omega) (by split<;>omega);refine⟨u,u1,by split at u2<;>omega,fun x hx2=> ?_,u4⟩;rw[zW hlt] at hx2
  rcases List.mem_cons.1 hx2 with rfl|hx2
  ·split at u2<;>omega
  ·exact u3 x hx2
theorem cz(mm:Z)(hmm:mm≤12)(hN:l.length≤12):∀(d fuel:Z) (w:Q Z),w.length+d=l.length→d<fuel→(∀x∈w,x<mm)→lY (Bb p m l) w→
  ∃out ok,Cr fuel (Ch p m l) (nn w) (mm:X)=O (out,ok)∧(ok=E↔D2 (Bb p m l) l.length mm w):=by
 have hrl:(Ch p m l).length=l.length:=by simp[Ch]
 intro d
 induction d with
 | zero=>
  intro fuel w hd hf hx hv;obtain⟨fuel,rfl⟩:∃n',fuel=n'+1:=⟨fuel - 1,by omega⟩;refine⟨nn w,E,?_,⟨fun _=>sA (by omega) hx (Y0 p m l) hv,fun _=>rfl⟩⟩;rw[Cr,P3,if_pos (by simp[Cb,hrl]; omega)]
 | succ d ih=>
  intro fuel w hd hf hx hv;obtain⟨fuel,rfl⟩:∃n',fuel=n'+1:=⟨fuel - 1,by omega⟩;have hw:w.length<l.length:=by omega
  rw[Cr,P3,if_neg (by simp[Cb,hrl]; omega)];obtain⟨u,u1,_,u3,u4⟩:=A2x (Cr fuel) (Ch p m l) (mm:X) (w:=w) (by omega) (fun x h=>by have:=hx x h; omega) w.length 0 bigN 0 (by omega) (by rw[C7]; omega) (by omega);have u4:Hn (Cr fuel) (Ch p m l) (nn w) (mm:X) bigN 0 0=_:=u4;rw[u4]
  have key:∀(k c n:Z),c+k=u+1→k<n→(∀c',c'<c→c'<mm→Ko (Bb p m l) w c'→¬D2 (Bb p m l) l.length mm (w++ [c']))→
    ∃out ok,Ej (Cr fuel) (Ch p m l) (nn w) (mm:X) (u:X) n (c:X)=O (out,ok)∧(ok=E↔D2 (Bb p m l) l.length mm w):=by
   have fin:∀c:Z,(u<c∨mm≤c)→(∀c',c'<c→c'<mm→Ko (Bb p m l) w c'→¬D2 (Bb p m l) l.length mm (w++ [c']))→¬D2 (Bb p m l) l.length mm w:=fun c hc hno h=>by
    obtain⟨c',g1,g2,g3,g4⟩:=sB hw (fun x h=>u3 x (by simpa using h)) h;exact hno c' (by omega) g2 g3 g4
   intro k
   induction k with
   | zero=>
    intro c n hc hn hno;obtain⟨n,rfl⟩:∃n',n=n'+1:=⟨n - 1,by omega⟩;refine⟨[],G,?_,⟨fun h=>(by cases h),fun h=>absurd h (fin c (by omega) hno)⟩⟩;rw[Ej,if_neg (by simp; omega)]
   | succ k ihk=>
    intro c n hc hn hno;obtain⟨n,rfl⟩:∃n',n=n'+1:=⟨n - 1,by omega⟩;rw[Ej,if_pos (by simp; omega)];by_cases hcm:c<mm
    ·rw[if_pos (by simpa using hcm)];obtain⟨b,b1,b2⟩:=A2w (p:=p) (m:=m) (Cr fuel) (mm:X) (u:X) (Ej (Cr fuel) (Ch p m l) (nn w) (mm:X) (u:X) n) c hw hN w.length 0 bigN E (by omega) (by rw[C7]; omega);have b2:DH (Cr fuel) (Ch p m l) (nn w) (mm:X) (u:X) (c:X) (Ej (Cr fuel) (Ch p m l) (nn w) (mm:X) (u:X) n) bigN E 0=_:=b2;have hfit:b=E↔Ko (Bb p m l) w c:=b1.trans ⟨fun h k' h1 h2=>h.2 k' h1 (zK _) h2,fun h=>⟨rfl,fun k' h1 _ h2=>h k' h1 h2⟩⟩;have hwr:=An (i:=c) (n:=12) (by omega) (by rw[AA]; omega)
     have hon:(Ko (Bb p m l) w c→¬D2 (Bb p m l) l.length mm (w++ [c]))→∃out ok,LR (Cr fuel) (Ch p m l) (nn w) (mm:X) (u:X) (c:X) (Ej (Cr fuel) (Ch p m l) (nn w) (mm:X) (u:X) n)=O (out,ok)∧(ok=E↔D2 (Bb p m l) l.length mm w):=fun h=>by
      unfold LR;rw[hwr];refine ihk (c+1) n (by omega) (by omega) fun c' h1 h2 h3=> ?_
      by_cases hcc:c'=c
      ·subst hcc; exact h h3
      ·exact hno c' (by omega) h2 h3
     rw[b2,DH,if_neg (by simp[Cb])];cases b with
     | false=>
      rw[if_neg (by simp)];exact hon fun h=>absurd (hfit.2 h) (by simp)
     | true=>
      have hf2:=hfit.1 rfl;rw[if_pos rfl,if_pos (Fq (by simp[Cb]; omega) (by omega)),if_pos (Fq (by simp[Cb]; omega) (by omega)),cD]
      obtain⟨out,ok,o1,o2⟩:=ih fuel (w++ [c]) (by simp; omega) (by omega) (fun x h=>by
       rcases zV.1 h with h|h
       ·exact hx x h
       ·rw[zS] at h; omega) (fun i k' hi hk' e=>by
       rcases yC i w.length with h|h
       ·rw[zM h,zM (by omega)] at e
        exact hv i k' h hk' e
       ·have:i=w.length:=by simp at hi; omega
        subst this;rw[zM hk'] at e
        simp at e
        exact hf2 k' hk' e.symm)
      rw[o1,zB];cases ok with
      | true=>exact⟨out,E,by rw[if_pos rfl],⟨fun _=>rz (o2.1 rfl),fun _=>rfl⟩⟩
      | false=>
       rw[if_neg (by simp)];exact hon fun _ h=>absurd (o2.2 h) (by simp)
    ·refine⟨[],G,by rw[if_neg (by simpa using hcm)],⟨fun h=>(by cases h),fun h=>absurd h (fin c (by omega) hno)⟩⟩
  exact key (u+1) 0 bigN (by omega) (by rw[C7]; omega) (fun c' h=>by omega)
def Qy(p:X)(m:Q X)(l:Q Xb):Y:=(decide (l.length≤12)&&l.all Bq)&&DY p m
theorem lV(hl:m.length≤maxLen)(ho:Qy p m l=E):∃(n:Z) (w1 w2:Q X),n≤12∧Ci (Bb p m l) (2 ^ l.length - 1) n∧Jx p m l=O (w1,(n:X),E)∧N8 p m l=O (w2,(n:X),E):=by
 have ho':=ho;simp only[Qy,zE,decide_eq_true_eq] at ho'
 obtain⟨⟨hN,hda⟩,ht⟩:=ho';have hd:∀d∈l,Bq d=E:=fun d h=>yB.1 hda d h
 have hdo:(decide (l.length≤12)&&l.all Bq)=E:=by simp[hN,hda]
 obtain⟨ms,m1,m2,m3⟩:=wD hl ht hd hN;obtain⟨n,n1,n2,n3⟩:=xp (Y0 p m l) hN (ms:=ms) ⟨m1,m2⟩
 have hmx:∀x∈ms,x<2 ^ 12:=fun x hx=>by
  obtain⟨i,hi,rfl⟩:=zN hx;refine PO fun j hj=> ?_
  have:=m2 i j (by omega);rw[zC hi] at this
  have this:ms[i].testBit j=I7 p m l i j:=this;rw[this,I7,zE,decide_eq_true_eq] at hj
  omega
 obtain⟨b,r,c1,c2,_⟩:=oE ms.length bigN ms [] (n:X) [] (by simp) (by rw[C7]; omega) hmx (by omega) (fun g h=>by cases h) (by simp)
 have hsp:∀(k v fu:Z),v+k=n→k<fu→∃w1,Jy l (Ch p m l) fu (v:X)=O (w1,(n:X),E):=by
  have hnN:n≤l.length:=n1.2 _ (QK (by have:=kK (n:=l.length) (show 0<2 by omega); omega));intro k
  induction k with
  | zero=>
   intro v fu hv hfu;obtain⟨fu,rfl⟩:∃n',fu=n'+1:=⟨fu - 1,by omega⟩;have:v=n:=by omega
   subst this;obtain⟨out,ok,s1,s2⟩:=cz (p:=p) (m:=m) v n2 hN l.length bigN [] (by simp) (by rw[C7]; omega) (fun x h=>by cases h) (fun i k hi=>by simp at hi);have s1:RB (Ch p m l) [] (v:X)=O (out,ok):=s1;have hok:ok=E:=s2.2 (Yk.1 n1.1);subst hok;exact⟨out,by rw[Jy,if_pos (by simp; omega),s1,zB,if_pos zA]⟩
  | succ k ihk=>
   intro v fu hv hfu;obtain⟨fu,rfl⟩:∃n',fu=n'+1:=⟨fu - 1,by omega⟩;obtain⟨out,ok,s1,s2⟩:=cz (p:=p) (m:=m) v (by omega) hN l.length bigN [] (by simp) (by rw[C7]; omega) (fun x h=>by cases h) (fun i k hi=>by simp at hi);have s1:RB (Ch p m l) [] (v:X)=O (out,ok):=s1
   have hok:ok=G:=by
    cases ok with
    | false=>rfl
    | true=>
     have:=n1.2 v (Yk.2 (s2.1 rfl));omega
   subst hok;obtain⟨w1,e⟩:=ihk (v+1) fu (by omega) (by omega);refine⟨w1,?_⟩;rw[Jy,if_pos (by simp; omega),s1,zB,if_neg (by simp),An (i:=v) (n:=13) (by omega) (by rw[AA]; omega)];exact e
 obtain⟨w1,e1⟩:=hsp n 0 bigN (by omega) (by rw[C7]; omega);refine⟨n,w1,r.who,n2,n1,?_,?_⟩
 ·unfold Jx;rw[A3d,hdo,zB,if_pos rfl,dJ hl,ht,zB];unfold OD;rw[if_neg (by simp),A3c hl ht hd hN,zB];exact e1
 ·unfold N8 QY;have ht':=ht;simp only[DY,zE] at ht'
  rw[UI,hdo,zB,if_pos rfl,bj,ht'.1,zB,if_pos rfl,aq hl,ht'.2,zB,zB,if_pos rfl,m3,zB,n3,zB];have c1:TU ⟨nn ms,(n:X),[],[]⟩=O (b,r):=c1;rw[c1,zB,c2]
end
section
variable {c : X3} {fl : Q X4}
def Cq(c:X3)(p:X1):X × X:=if p.Toward=E then((Av c p.Segment).A,(Av c p.Segment).B) else((Av c p.Segment).B,(Av c p.Segment).A)
theorem Q9{p:X1}(h:idx p.Segment c.Segments.length=E):G4 c p=O (Cq c p):=by
 unfold G4 Cq;rw[(BL h).1,zB];split<;>rfl
theorem al{p:X1}(h:idx p.Segment c.Segments.length=E):KX p c=O (Cq c p):=by
 unfold KX Cq;rw[(BL h).1,zB];split<;>rfl
theorem Yq{p:X1}(hc:AH c=E)(h:idx p.Segment c.Segments.length=E):0≤(Cq c p).1∧(Cq c p).1<8∧0≤(Cq c p).2∧(Cq c p).2<8:=by
 have hp:=(F9 hc).1;have hx:=(BL h).2;simp only[AH,zE,decide_eq_true_eq,yB,kJ] at hc
 obtain⟨i,hi,e⟩:=zN hx;have:=hc.2.2.2 i hi;simp only[DU,zC hi,e,idx,zE,decide_eq_true_eq] at this
 unfold Cq;split<;>(simp only; omega)
theorem PZ{p:X1}(hc:AH c=E)(h:Cc c fl p=E):p.Start<p.End:=by
 simp only[Cc,Ca,zE,decide_eq_true_eq] at h;obtain⟨h3,h4,h5,h6,h7⟩:=h;obtain⟨_,_,a,b⟩:=(F9 hc).2.2 _ (BL h4).2;rw[h7];unfold AI;split
 ·rw[Aj (n:=2*_) (by omega) (by omega),Aj (by omega) (by omega)]; omega
 ·rw[Aj (by omega) (by omega)]; omega
theorem vr{p:X1}(hn:∀x∈c.Points,x.Name.length≤maxLen)(hf:∀x∈fl,x.Name.length≤maxLen)(h1:AH c=E)(h2:DK fl=E):Nf c fl p=O (Cc c fl p):=by
 unfold Nf;rw[EW hn,h1,zB,if_pos rfl,ae hf,h2,zB,if_pos rfl,wE,zB]
def CH(c:X3)(p q:X1):Xb:=⟨p.Start,q.End,(Cq c p).1,(Cq c q).2⟩
theorem ak{p q:X1}(h1:idx p.Segment c.Segments.length=E)(h2:idx q.Segment c.Segments.length=E):L5 c p q=O (CH c p q):=by
 unfold L5;rw[al h1,zB,al h2,zB];rfl
theorem Yo{p q:X1}(hc:AH c=E)(h1:idx p.Segment c.Segments.length=E)(h2:idx q.Segment c.Segments.length=E)(h3:0≤p.Start)(h4:p.Start<q.End)(h5:q.End≤2880):Bq (CH c p q)=E:=by
 obtain⟨a1,a2,_,_⟩:=Yq hc h1;obtain⟨_,_,b1,b2⟩:=Yq hc h2;unfold Bq CH;simp only[zE,decide_eq_true_eq];exact⟨h3,h4,h5,⟨a1,a2⟩,b1,b2⟩
theorem A5o{p:X1}{s:X4}(hs:ix fl p.Ship=O s)(h1:idx p.Segment c.Segments.length=E)(all:Q X1)(v1:X)(K:X→Q Xb→U (Q Xb × Y)){T:Z}(hT:s.Tugs=(T:X))(hT4:T≤4) :
  ∀(r k n:Z) (acc:Q Xb),k+r=T→r<n→acc.length≤12+k→Ht fl (Cq c p) all v1 c p K n (k:X) acc =
   if(decide ((12:X)<((acc++zI r (CH c p p)).length:X))) then O (([]:Q Xb),G) else K (kY .i64 (v1+(1:X))) (acc++zI r (CH c p p)):=by
 intro r
 induction r with
 | zero=>
  intro k n acc hk hn ha;obtain⟨n,rfl⟩:∃n',n=n'+1:=⟨n - 1,by omega⟩;rw[Ht,hs,zB,if_neg (by rw[hT]; simp; omega)];simp
 | succ r ih=>
  intro k n acc hk hn ha;obtain⟨n,rfl⟩:∃n',n=n'+1:=⟨n - 1,by omega⟩;rw[Ht,hs,zB,if_pos (by rw[hT]; simp; omega),if_pos (Fq (by simp; omega) (by omega)),An (i:=k) (n:=5) (by omega) (by rw[AA]; omega)];have:=ih (k+1) n (acc++ [CH c p p]) (by omega) (by omega) (by simp; omega);refine this.trans ?_;rw[yL];rfl
theorem A5n{p:X1}{s:X4}(h1:idx p.Segment c.Segments.length=E)(all:Q X1)(v1:X)(K:X→Q Xb→U (Q Xb × Y)){T:Z}(hT:s.Tugs=(T:X))(hT4:T≤4) :
  ∀(r k n:Z) (acc:Q Xb),k+r=T→r<n→acc.length≤12+k→H1 fl all v1 s c p K n (k:X) acc =
   if(decide ((12:X)<((acc++zI r (CH c p p)).length:X))) then O (([]:Q Xb),G) else K (kY .i64 (v1+(1:X))) (acc++zI r (CH c p p)):=by
 intro r
 induction r with
 | zero=>
  intro k n acc hk hn ha;obtain⟨n,rfl⟩:∃n',n=n'+1:=⟨n - 1,by omega⟩;rw[H1,if_neg (by rw[hT]; simp; omega)];simp
 | succ r ih=>
  intro k n acc hk hn ha;obtain⟨n,rfl⟩:∃n',n=n'+1:=⟨n - 1,by omega⟩;rw[H1,if_pos (by rw[hT]; simp; omega),ak h1 h1,zB,if_pos (Fq (by simp; omega) (by omega)),An (i:=k) (n:=5) (by omega) (by rw[AA]; omega)];have:=ih (k+1) n (acc++ [CH c p p]) (by omega) (by omega) (by simp; omega);refine this.trans ?_;rw[yL];rfl
theorem TK{w:Xo}(h:Fv w=E):Ca w.Rest=E∧F4 w.Moves=E:=by
 simp only[Fv,zE] at h;exact⟨h.2.2.1,by simp only[F4,zE]; exact h.2.2.2⟩
theorem lh{p:X}{m:Q X}{l:Q Xb}(h1:l.length≤12)(h2:∀d∈l,Bq d=E)(h3:Ca p=E)(h4:F4 m=E):Qy p m l=E:=by
 simp only[Qy,DY,h3,h4,Bool.and_self,Bool.and_true,zE,decide_eq_true_eq,yB];exact⟨h1,h2⟩
end
theorem QF{n m b:Z}(h:n+m≤3000000000000)(hb:b≤40):Ad n m b=E:=by
 unfold Ad;have:(n+m)*b≤3000000000000*40:=yW h hb;simp;omega
def BF(l:Q X0):Q (Q X1):=l.map fun o=>o.Passages
theorem A3n{l:Q X0}(hl:l.length≤1048576)(hp:∀o∈l,o.Passages.length≤1048576):Lz l=O (BF l):=by
 unfold Lz;refine Gr (L:=Jm l) l (fun o=>o.Passages) O (by rw[AA]; omega) (fun n i acc h ha=> ?_) (fun n acc ha=>by simp[Jm]);have:=hp _ (zF h);rw[Jm,Ae,if_pos (by simpa using h),Af h,zB,if_pos (QF (by simp; omega) (by omega)),if_pos (QF (by simp; omega) (by omega))]
theorem sW{α R:Type}{L:Z→X→Q α→U R}(cs:Q (Q α))(K:U R)(hl:cs.length≤1048576)(hb:∀x∈cs,x.length≤1048576)
  (hs:∀(n i:Z) (acc:Q α) (h:i<cs.length),acc.length≤i*1048576→L (n+1) (i:X) acc=L n (kY .i64 ((i:X)+1)) (acc++cs[i])) (he:∀n,L (n+1) (cs.length:X) cs.flatten=K):L bigN 0 []=K∧cs.flatten.length≤1099511627776:=by
 have key:∀(k i n:Z),i+k=cs.length→k<n→L n (i:X) (cs.take i).flatten=K:=by
  have hlen:∀i:Z,i≤cs.length→(cs.take i).flatten.length≤i*1048576:=by
   intro i
   induction i with
   | zero=>intro _; simp
   | succ i ih=>
    intro hi;rw[zJ (by omega),kI,zO];have h1:=ih (by omega);have h2:=hb _ (zF (show i<cs.length by omega));have e3: [cs[i]].flatten.length=cs[i].length:=by simp
    rw[e3];omega
  intro k
  induction k with
  | zero=>
   intro i n hi hn;obtain⟨m,rfl⟩:∃m,n=m+1:=⟨n - 1,by omega⟩;have:i=cs.length:=by omega
   subst this;rw[yF,he]
  | succ k ih=>
   intro i n hi hn;obtain⟨m,rfl⟩:∃m,n=m+1:=⟨n - 1,by omega⟩;have hlt:i<cs.length:=by omega
   rw[hs m i _ hlt (hlen i (by omega)),An hlt (by rw[AA]; omega)];have:=ih (i+1) m (by omega) (by omega);rw[zJ hlt,kI] at this
   simpa using this
 have hall:∀(k:Z),k≤cs.length→(cs.take k).flatten.length≤k*1048576:=by
  intro i
  induction i with
  | zero=>intro _; simp
  | succ i ih=>
   intro hi;rw[zJ (by omega),kI,zO];have h1:=ih (by omega);have h2:=hb _ (zF (show i<cs.length by omega));have e3: [cs[i]].flatten.length=cs[i].length:=by simp
   rw[e3];omega
 refine⟨key cs.length 0 bigN (by omega) (by rw[C7]; omega),?_⟩;have:=hall cs.length (kB _);rw[yF] at this
 omega
theorem A0c{s:Q I}(h:EX s=E):1≤s.length∧s.length≤8:=by
 simp only[EX,PS,zE,decide_eq_true_eq] at h;omega
def Qk(x p:X):X:=if x<kY .i64 (zZ p 2) then
  kY .i64 (zZ (kY .i64 (kY .i64 (40000*x)*kY .i64 (kY .i64 (zZ p 2) - x))) (kY .i64 (kY .i64 (zZ p 2)*kY .i64 (zZ p 2))))
 else kY .i64 (0 - kY .i64 (zZ (kY .i64 (kY .i64 (40000*kY .i64 (x - kY .i64 (zZ p 2)))*kY .i64 (kY .i64 (zZ p 2) - kY .i64 (x - kY .i64 (zZ p 2))))) (kY .i64 (kY .i64 (zZ p 2)*kY .i64 (zZ p 2)))))
theorem Vn{p:X}(h:Gq p=E):4≤p∧p≤2880∧kY .i64 (yU p 4)=0:=by
 simp only[Gq,zE,decide_eq_true_eq,beq_iff_eq] at h;exact⟨h.1.1,h.1.2,h.2⟩
theorem YQ{p:X}(h1:4≤p)(h2:p≤2880):(kY .i64 (kY .i64 (zZ p 2)*kY .i64 (zZ p 2))==0)=G:=by
 have e:zZ p 2=p / 2:=Int.tdiv_eq_ediv_of_nonneg (by omega);rw[e,Aj (n:=p / 2) (by omega) (by omega)];generalize hq:p / 2=q
 have q1:2≤q:=by omega
 have q2:q≤1440:=by omega
 have m1:2*2≤q*q:=Int.mul_le_mul q1 q1 (by omega) (by omega);have m2:q*q≤1440*1440:=Int.mul_le_mul q2 q2 (by omega) (by omega);rw[Aj (by omega) (by omega)];simp only[beq_eq_false_iff_ne,ne_eq];omega
theorem A3m{n p:X}(hp:Gq p=E)(hn:0≤n)(hn2:n≤100000):OS n p=O (Qk (yU n p) p):=by
 obtain⟨p1,p2,p3⟩:=Vn hp;have hm:yU n p=n % p:=yR hn;have r1:=Int.emod_nonneg n (show p≠0 by omega);have r2:=Int.emod_lt_of_pos n (show 0<p by omega);unfold OS;rw[hm,Aj (n:=n % p) (by omega) (by omega),p3];have k1:¬p<4:=by omega
 have k2:¬2880<p:=by omega
 have k3:(p==0)=G:=by simp; omega
 have k4:¬n % p<0:=by omega
 simp only[k1,k2,k3,k4,decide_false,zD,if_false,bne_self_eq_false];unfold OT Qk;rw[YQ p1 p2];simp only[zD,if_false,decide_eq_true_eq];split<;>rfl
theorem wA{n p:X}(hp:Gq p=E)(hn:0≤n)(hn2:n≤100000):Nq n p=O (Qk (yU n p) p):=by
 obtain⟨p1,p2,p3⟩:=Vn hp;have hm:yU n p=n % p:=yR hn;have r1:=Int.emod_nonneg n (show p≠0 by omega);have r2:=Int.emod_lt_of_pos n (show 0<p by omega);have k3:(p==0)=G:=by simp; omega
 have hmm:yU (n % p+p) p=n % p:=by
  rw[yR (by omega),Int.add_emod_right,Int.emod_emod]
 unfold Nq;rw[bK,hp,zB,hm,Aj (n:=n % p) (by omega) (by omega),Aj (n:=n % p+p) (by omega) (by omega),hmm,Aj (n:=n % p) (by omega) (by omega),YQ p1 p2];simp only[k3,zD,if_false,if_true,decide_eq_true_eq];unfold Qk;by_cases hx:n % p<kY .i64 (zZ p 2)
 ·rw[if_pos hx,if_neg (by omega)]
 ·rw[if_neg hx,if_pos (by omega)]
theorem yk{t:Xn}{m:X}(ht:Fc t=E)(h0:0≤m)(h1:m≤2880):∃r,LN t m=O r∧QX t m=O r:=by
 simp only[Fc,zE,decide_eq_true_eq,yB] at ht
 obtain⟨_,hl,hp⟩:=ht;have hlm:t.Parts.length≤maxLen:=by rw[AA]; omega
 have key:∀(k i n:Z) (v:X),i+k=t.Parts.length→k<n→∃r,JJ m t n v (i:X)=O r∧IC m t n v (i:X)=O r:=by
  intro k
  induction k with
  | zero=>
   intro i n v hi hn;obtain⟨q,rfl⟩:∃q,n=q+1:=⟨n - 1,by omega⟩;have:i=t.Parts.length:=by omega
   subst this;exact⟨v,by simp[JJ],by simp[IC]⟩
  | succ k ih=>
   intro i n v hi hn;obtain⟨q,rfl⟩:∃q,n=q+1:=⟨n - 1,by omega⟩;have hlt:i<t.Parts.length:=by omega
   have hx:=hp _ (zF hlt);simp only[HS,zE,decide_eq_true_eq] at hx
   obtain⟨_,hx1,hx2,hx3⟩:=hx;obtain⟨p1,p2,_⟩:=Vn hx1;rw[Aj (by omega) (by omega)] at hx3
   have hw:=Aj (n:=m+t.Parts[i].Phase) (by omega) (by omega);obtain⟨r,e1,e2⟩:=ih (i+1) q (kY .i64 (v+kY .i64 (zZ (kY .i64 (t.Parts[i].Amp*Qk (yU (m+t.Parts[i].Phase) t.Parts[i].Period) t.Parts[i].Period)) 10000))) (by omega) (by omega);rw[← An hlt hlm] at e1 e2
   refine⟨r,?_,?_⟩
   ·simp only[JJ,Ak,zC hlt,zB,Ae,hlt,decide_true,if_true,hw,A3m hx1 (show 0≤m+t.Parts[i].Phase by omega) (by omega)];exact e1
   ·simp only[IC,Ak,zC hlt,zB,Ae,hlt,decide_true,if_true,hw,wA hx1 (show 0≤m+t.Parts[i].Phase by omega) (by omega)];exact e2
 exact key t.Parts.length 0 bigN t.Mean (by omega) (Bm hlm)
theorem sL{f:Xe}(h:Dq f=E):Fc f.Tide=E∧0<f.Surges.length∧f.Surges.length≤6:=by
 simp only[Dq,zE,decide_eq_true_eq] at h;refine⟨h.1,?_,?_⟩<;>omega
theorem A4m{f:Xe}{m:X}(h0:0<f.Surges.length)(h6:f.Surges.length≤6):∃(a:Z) (ha:a<f.Surges.length),N3 f m=O (a:X)∧JK f m=O f.Surges[a]:=by
 have hl:f.Surges.length≤maxLen:=by rw[AA]; omega
 have key:∀(k i n a:Z) (ha:a<f.Surges.length),i+k=f.Surges.length→k<n→∃(a':Z) (ha':a'<f.Surges.length),Fy m f n (a:X) (i:X)=O (a':X)∧
   G2 m f n (i:X) f.Surges[a].From f.Surges[a].Low f.Surges[a].High=O f.Surges[a']:=by
  intro k
  induction k with
  | zero=>
   intro i n a ha hi hn;obtain⟨q,rfl⟩:∃q,n=q+1:=⟨n - 1,by omega⟩;have:i=f.Surges.length:=by omega
   subst this;exact⟨a,ha,by simp[Fy],by simp[G2]⟩
  | succ k ih=>
   intro i n a ha hi hn;obtain⟨q,rfl⟩:∃q,n=q+1:=⟨n - 1,by omega⟩;have hlt:i<f.Surges.length:=by omega
   by_cases hm:f.Surges[i].From≤m
   ·obtain⟨a',ha',e1,e2⟩:=ih (i+1) q i hlt (by omega) (by omega);rw[← An hlt hl] at e1 e2
    refine⟨a',ha',?_,?_⟩
    ·simp only[Fy,Ak,zC hlt,zB,Ae,hlt,decide_true,if_true,hm];exact e1
    ·simp only[G2,Ak,zC hlt,zB,Ae,hlt,decide_true,if_true,hm];exact e2
   ·obtain⟨a',ha',e1,e2⟩:=ih (i+1) q a ha (by omega) (by omega);rw[← An hlt hl] at e1 e2
    refine⟨a',ha',?_,?_⟩
    ·simp only[Fy,Ak,zC hlt,zB,Ae,hlt,decide_true,if_true,hm,decide_false,zD,if_false];exact e1
    ·simp only[G2,Ak,zC hlt,zB,Ae,hlt,decide_true,if_true,hm,decide_false,zD,if_false];exact e2
 obtain⟨a,ha,e1,e2⟩:=key f.Surges.length 0 bigN 0 h0 (by omega) (Bm hl);have z:((0:Z):X)=0:=rfl;rw[z] at e1 e2
 have e0:ix f.Surges 0=O f.Surges[0]:=Af h0;refine⟨a,ha,?_,?_⟩
 ·unfold N3;exact e1
 ·unfold JK;rw[e0,zB];exact e2
def Vz(s:X4):X:=if s.Slow=E then kY .i64 (zZ s.Draught 50) else kY .i64 (zZ s.Draught 20)
def K4(c:X3)(i:X)(s:X4):X:=kY .i64 (kY .i64 (kY .i64 (s.Draught+Vz s)+50) - (Av c i).Depth)
theorem A3f{c:X3}{s:X4}{i:X}(hn:∀x∈c.Points,x.Name.length≤maxLen)(hs:s.Name.length≤maxLen)(h1:AH c=E)(h2:Cz s=E)(h3:idx i c.Segments.length=E):OE c i s=O (K4 c i s):=by
 have:=(F9 h1).2.1;unfold OE JO Ru Rx;simp only[DB hn,Mr hs,h1,h2,zB,if_true,CK i (show c.Segments.length≤1000 by omega),h3,(BL h3).1,K4,Vz];cases s.Slow<;>rfl
theorem vo{c:X3}{s:X4}{i:X}(hn:∀x∈c.Points,x.Name.length≤maxLen)(hs:s.Name.length≤maxLen)(h1:AH c=E)(h2:Cz s=E)(h3:idx i c.Segments.length=E):N9 c i s=O (K4 c i s):=by
 unfold N9 IJ QU QV;simp only[EW hn,HC hs,h1,h2,zB,if_true,En,h3,(BL h3).1,K4,Vz];cases s.Slow<;>rfl
def Ql(l:Q X5)(i:Z):Y:=match l[i]? with
 | some x=>decide (0≤x.From)&&(decide (x.From≤x.To)&&(decide (x.To≤2880)&&(match l[i - 1]? with | some y=>decide (i=0) || !(decide (x.From≤kY .i64 (y.To+1))) | none=>E)))
 | none=>G
def Qm(l:Q X5):Y:=(zL l.length).all (Ql l)
theorem cW{α:Type}{l:Q α}{i:Z}(h0:0<i)(hi:i<l.length)(hl:l.length≤maxLen):ix l (kY .i64 ((i:X) - 1))=O (l[i - 1]'(by omega)):=by
 rw[AA] at hl
 rw[Aj (by omega) (by omega),show(i:X) - 1=((i - 1:Z):X) by omega,Af (by omega)]
theorem dK{l:Q X5}(hl:l.length≤maxLen):LM l=O (Qm l):=by
 unfold LM Qm;refine MI (L:=G1 l) l.length (Ql l) hl (fun n i hi=> ?_) (fun n=>by simp[G1]);have hp:i - 1<l.length:=by omega
 simp only[G1,Ae,hi,decide_true,if_true,Af hi,zB,By,Ql,zC hi,zC hp];generalize G1 l n (kY .i64 ((i:X)+1))=K
 by_cases h0:i=0
 ·subst h0;have hz:¬(0:X)<((0:Z):X):=by omega
  simp only[hz,decide_false,zD,if_false,decide_true,Bool.true_or];by_cases a1:0≤l[0].From<;>by_cases a2:l[0].From≤l[0].To<;>by_cases a3:l[0].To≤2880<;>by_cases a4:l[0].From≤2880<;>simp[a1,a2,a3,a4]<;>omega
 ·have hz:(0:X)<(i:X):=by omega
  simp only[hz,decide_true,if_true,cW (by omega) hi hl,zB,h0,decide_false,Bool.false_or];by_cases a1:0≤l[i].From<;>by_cases a2:l[i].From≤l[i].To<;>by_cases a3:l[i].To≤2880<;>by_cases a4:l[i].From≤2880<;>by_cases a5:l[i].From≤kY .i64 (l[i - 1].To+1)<;>simp[a1,a2,a3,a4,a5]<;>omega
theorem aj{l:Q X5}(hl:l.length≤maxLen):KZ l=O (Qm l):=by
 unfold KZ Qm;refine MI (L:=FD l) l.length (Ql l) hl (fun n i hi=> ?_) (fun n=>by simp[FD]);have hp:i - 1<l.length:=by omega
 simp only[FD,Ae,hi,decide_true,if_true,Af hi,zB,Ql,zC hi,zC hp];generalize FD l n (kY .i64 ((i:X)+1))=K
 have b1:decide (l[i].From<0)= !decide (0≤l[i].From):=by rw[zR]; simp
 have b2:decide (l[i].To<l[i].From)= !decide (l[i].From≤l[i].To):=by rw[zR]; simp
 have b3:decide (2880<l[i].To)= !decide (l[i].To≤2880):=by rw[zR]; simp
 rw[b1,b2,b3];by_cases h0:i=0
 ·subst h0;have hz:¬(0:X)<((0:Z):X):=by omega
  simp only[hz,decide_false,zD,if_false,decide_true,Bool.true_or];cases decide (0≤l[0].From)<;>cases decide (l[0].From≤l[0].To)<;>cases decide (l[0].To≤2880)<;>rfl
 ·have hz:(0:X)<(i:X):=by omega
  simp only[hz,decide_true,if_true,cW (by omega) hi hl,zB,h0,decide_false,Bool.false_or];cases decide (0≤l[i].From)<;>cases decide (l[i].From≤l[i].To)<;>cases decide (l[i].To≤2880)<;>cases decide (l[i].From≤kY .i64 (l[i - 1].To+1))<;>rfl
def Dc(g:Z→Y)(n:Z):Y:=decide (0<n)&&g (n - 1)
def SI(v:Q X5)(n:X):Q X5:=v.dropLast++ [⟨(v.getLast?.getD ⟨0,0⟩).From,n⟩]
def B4(g:Z→Y):Z→Q X5
 | 0=> []
 | n+1=>if g n=E then(if Dc g n=E then SI (B4 g n) (n:X) else B4 g n++ [⟨(n:X),(n:X)⟩]) else B4 g n
theorem cH(g:Z→Y)(n:Z):Dc g (n+1)=g n:=by simp[Dc]
theorem Vv(l:Q X5)(x:X5)(n:X):SI (l++ [x]) n=l++ [⟨x.From,n⟩]:=by simp[SI]
theorem SY(g:Z→Y):∀n,(B4 g n).length≤n∧(Dc g n=E→∃l x,B4 g n=l++ [x]∧x.To=(n:X) - 1)∧(Dc g n=G→B4 g n= []∨∃l x,B4 g n=l++ [x]∧x.To<(n:X) - 1)
 | 0=>⟨by simp[B4],by simp[Dc],fun _=> .inl rfl⟩
 | n+1=>by
  obtain⟨h1,h2,h3⟩:=SY g n;rw[cH];by_cases hg:g n=E
  ·by_cases ho:Dc g n=E
   ·obtain⟨l,x,e,ht⟩:=h2 ho;have ew:B4 g (n+1)=l++ [⟨x.From,(n:X)⟩]:=by simp only[B4,hg,if_true,ho,e,Vv]
    refine⟨by rw[ew]; rw[e] at h1; simp at h1 ⊢; omega,fun _=>⟨l,_,ew,by simp only; omega⟩,fun h=>by rw[hg] at h; cases h⟩
   ·have ew:B4 g (n+1)=B4 g n++ [⟨(n:X),(n:X)⟩]:=by simp only[B4,hg,if_true,ho,if_false]; rfl
    refine⟨by rw[ew]; simp; omega,fun _=>⟨_,_,ew,by simp only; omega⟩,fun h=>by rw[hg] at h; cases h⟩
  ·have ew:B4 g (n+1)=B4 g n:=by simp[B4,hg]
   rw[ew];refine⟨by omega,fun h=>absurd h hg,fun _=> ?_⟩;cases ho:Dc g n with
   | true=>
    obtain⟨l,x,e,ht⟩:=h2 ho;exact .inr ⟨l,x,e,by omega⟩
   | false=>
    rcases h3 ho with e|⟨l,x,e,ht⟩
    ·exact .inl e
    ·exact .inr ⟨l,x,e,by omega⟩
theorem fE{g g':Z→Y}:∀n,(∀j,j<n→g j=g' j)→B4 g n=B4 g' n
 | 0,_=>rfl
 | n+1,h=>by
  have e1:Dc g n=Dc g' n:=by
   unfold Dc;by_cases h0:0<n
   ·rw[h (n - 1) (by omega)]
   ·simp[h0]
  simp only[B4,h n (by omega),e1,fE n fun j hj=>h j (by omega)]
theorem Sr{l:Q X5}{x:X5}(h:l.length≤100000):ix (l++ [x]) (kY .i64 (((l++ [x]).length:X) - 1))=O x∧Int.toNat (kY .i64 (((l++ [x]).length:X) - 1))=l.length:=by
 have e:kY .i64 (((l++ [x]).length:X) - 1)=((l.length:Z):X):=by
  rw[Aj (by simp<;>omega) (by simp<;>omega)];simp
 rw[e];exact⟨by rw[Af (by simp)]; simp,by simp⟩
theorem A3g{L:Q Y}(hl:L.length≤3000):OW L=O (B4 (fun i=>L.getD i G) L.length):=by
 unfold OW
 have key:∀(k i n:Z),i+k=L.length→k<n→ER L n (i:X) (B4 (fun i=>L.getD i G) i)=O (B4 (fun i=>L.getD i G) L.length):=by
  intro k
  induction k with
  | zero=>
   intro i n hi hn;obtain⟨m,rfl⟩:∃m,n=m+1:=⟨n - 1,by omega⟩;have:i=L.length:=by omega
   subst this;simp[ER]
  | succ k ih=>
   intro i n hi hn;obtain⟨m,rfl⟩:∃m,n=m+1:=⟨n - 1,by omega⟩;have hlt:i<L.length:=by omega
   have ih':=ih (i+1) m (by omega) (by omega);have hw:=An hlt (show L.length≤maxLen by rw[AA]; omega);obtain⟨w1,w2,w3⟩:=SY (fun i=>L.getD i G) i;have hgi:L.getD i G=L[i]:=by simp[hlt]
   rw[B4] at ih'
   simp only[hgi] at ih'
   simp only[ER,Ae,hlt,decide_true,if_true,Af hlt,zB];have hwm:kY .i64 ((i:X) - 1)=(i:X) - 1:=Aj (by omega) (by omega);generalize hwi:B4 (fun i=>L.getD i G) i=v at *
   cases hb:L[i] with
   | false=>
    rw[hb] at ih'
    simp only[zD,if_false] at ih' ⊢
    rw[hw];exact ih'
   | true=>
    rw[hb] at ih'
    simp only[if_true] at ih' ⊢
    cases ho:Dc (fun i=>L.getD i G) i with
    | true=>
     rw[ho] at ih'
     obtain⟨l,x,rfl,ht⟩:=w2 ho;obtain⟨q1,q2⟩:=Sr (l:=l) (x:=x) (by simp at w1; omega);have hpos:0<(l++ [x]).length:=by simp
     have hpos':decide ((0:X)<((l++ [x]).length:X))=E:=decide_eq_true (by omega);rw[if_pos hpos',q1];simp only[zB,JL,hwm,ht,beq_self_eq_true,if_true,q1,q2];rw[hw];simp only[if_true,Vv] at ih'
     simpa using ih'
    | false=>
     rw[ho] at ih'
     simp only[zD,if_false] at ih'
     have fin:∀w:Q X5,w=v→JL (i:X) L w (ER L m) G=O (B4 (fun i=>L.getD i G) L.length):=by
      rintro w rfl
      simp only[JL,zD,if_false];rw[Pp (by simp; omega) (by omega),hw];exact ih'
     rcases w3 ho with rfl|⟨l,x,rfl,ht⟩
     ·exact fin [] rfl
     ·obtain⟨q1,q2⟩:=Sr (l:=l) (x:=x) (by simp at w1; omega);have hpos':decide ((0:X)<((l++ [x]).length:X))=E:=decide_eq_true (by simp<;>omega);have hne:(x.To==(i:X) - 1)=G:=by simp<;>omega
      rw[if_pos hpos',q1];simp only[zB,hwm,hne];exact fin _ zA
 exact key L.length 0 bigN (by omega) (Bm (by rw[AA]; omega))
theorem vp{a0:X→U Y}{g:Z→Y}(h:∀i:Z,i≤2880→a0 (i:X)=O (g i)):NG a0=O (B4 g 2881):=by
 unfold NG
 have key:∀(k i n:Z),i+k=2881→k<n→FI a0 n (Dc g i) (i:X) (B4 g i)=O (B4 g 2881):=by
  intro k
  induction k with
  | zero=>
   intro i n hi hn;obtain⟨m,rfl⟩:∃m,n=m+1:=⟨n - 1,by omega⟩;have:i=2881:=by omega
   subst this;simp[FI]
  | succ k ih=>
   intro i n hi hn;obtain⟨m,rfl⟩:∃m,n=m+1:=⟨n - 1,by omega⟩;have hle:decide ((i:X)≤2880)=E:=decide_eq_true (by omega);have ih':=ih (i+1) m (by omega) (by omega);have hw:kY .i64 ((i:X)+1)=((i+1:Z):X):=An (n:=2881) (by omega) (by rw[AA]; omega);obtain⟨w1,w2,w3⟩:=SY g i;rw[cH,B4] at ih'
   simp only[FI,hle,if_true,h i (by omega),zB];generalize hwi:B4 g i=v at *
   cases hb:g i with
   | false=>
    rw[hb] at ih'
    simp only[zD,if_false,IS] at ih' ⊢
    rw[hw];exact ih'
   | true=>
    rw[hb] at ih'
    simp only[if_true] at ih' ⊢
    cases ho:Dc g i with
    | true=>
     rw[ho] at ih'
     obtain⟨l,x,rfl,ht⟩:=w2 ho;obtain⟨q1,q2⟩:=Sr (l:=l) (x:=x) (by simp at w1; omega);simp only[if_true,La,q1,zB,IS,q2];rw[hw];simp only[if_true,Vv] at ih'
     simpa using ih'
    | false=>
     rw[ho] at ih'
     simp only[zD,if_false] at ih' ⊢
     rw[Pp (by simp; omega) (by omega)];obtain⟨q1,q2⟩:=Sr (l:=v) (x:=⟨(i:X),0⟩) (by omega);simp only[La,q1,zB,IS,q2];rw[hw];simpa using ih'
 have:=key 2881 0 bigN (by omega) (Bm (by rw[AA]; omega));exact this
def Dw(f:Xe)(m:Z):X:=kY .i64 ((LN f.Tide (m:X)).getD 0+((JK f (m:X)).getD ⟨0,0,0⟩).Low)
theorem bX{f:Xe}(hf:Dq f=E){m:Z}(hm:m≤2880):∃r x,LN f.Tide (m:X)=O r∧JK f (m:X)=O x∧Dw f m=kY .i64 (r+x.Low)∧N2 f (m:X)=O (Dw f m):=by
 obtain⟨ht,h0,h6⟩:=sL hf;obtain⟨r,r1,r2⟩:=yk ht (show(0:X)≤(m:X) by omega) (by omega);obtain⟨a,ha,a1,a2⟩:=A4m (m:=(m:X)) h0 h6;refine⟨r,_,r1,a2,by simp[Dw,r1,a2],?_⟩;unfold N2;simp[r2,a1,Af ha,Dw,r1,a2]
theorem yl{f:Xe}(hf:Dq f=E)(lv:X):OU f lv G=O (B4 (fun i=>decide (lv≤Dw f i)) 2881):=by
 unfold OU
 have key:∀(k i n:Z),i+k=2881→k<n→He lv f n G (i:X) ((zL i).map fun j=>decide (lv≤Dw f j))=O (B4 (fun i=>decide (lv≤Dw f i)) 2881):=by
  intro k
  induction k with
  | zero=>
   intro i n hi hn;obtain⟨m,rfl⟩:∃m,n=m+1:=⟨n - 1,by omega⟩;have:i=2881:=by omega
   subst this;have hd:decide (((2881:Z):X)≤2880)=G:=by decide
   simp only[He,hd,zD,if_false];rw[A3g (by simp)];simp only[zB,List.length_map,List.length_range];refine congrArg O (fE 2881 fun j hj=> ?_);show(((zL 2881).map fun j=>decide (lv≤Dw f j)).getD j G)=_
   rw[List.getD_eq_getElem?_getD,kA,List.getElem?_range hj];rfl
  | succ k ih=>
   intro i n hi hn;obtain⟨m,rfl⟩:∃m,n=m+1:=⟨n - 1,by omega⟩;have hle:decide ((i:X)≤2880)=E:=decide_eq_true (by omega);have hw:kY .i64 ((i:X)+1)=((i+1:Z):X):=An (n:=2881) (by omega) (by rw[AA]; omega);obtain⟨r,x,e1,e2,e3,_⟩:=bX hf (show i≤2880 by omega);simp only[He,hle,if_true,e2,zB,zD,if_false,OV,e1];rw[Pp (by simp; omega) (by omega),hw];have:=ih (i+1) m (by omega) (by omega);rw[List.range_succ,kV] at this
   simpa[e3] using this
 have:=key 2881 0 bigN (by omega) (Bm (by rw[AA]; omega));exact this
theorem yy{f:Xe}(hf:Dq f=E)(lv:X):Na f lv=O (B4 (fun i=>decide (lv≤Dw f i)) 2881):=by
 unfold Na;rw[Pq,hf];simp only[zB,if_true];rw[vp (g:=fun i=>decide (lv≤Dw f i)) fun i hi=> ?_]
 ·rfl
 ·obtain⟨_,_,_,_,_,e⟩:=bX hf hi;simp[QS,e]
theorem fF(g:Z→Y):∀n,∀w∈B4 g n,0≤w.From∧w.From≤w.To∧w.To<(n:X)
 | 0,w,h=>by cases h
 | n+1,w,h=>by
  have ih:=fF g n;simp only[B4] at h;split at h
  ·split at h
   ·unfold SI at h;rcases zV.1 h with h|h
    ·have:=ih w ((List.dropLast_sublist _).subset h); omega
    ·simp only[zS] at h;subst h;cases e:(B4 g n).getLast? with
     | none=>simp only[Option.getD_none]; omega
     | some x=>have:=ih x (List.mem_of_getLast? e); simp only[Option.getD_some]; omega
   ·rcases zV.1 h with h|h
    ·have:=ih w h; omega
    ·simp only[zS] at h;subst h;simp only;omega
  ·have:=ih w h; omega
theorem A26(a1:X)(a0:Q X5)(hl:a0.length≤100000)(hb:0≤a1)(hb2:a1≤2880)(hW:∀w∈a0,0≤w.From∧w.From≤w.To∧w.To<(2881:X)):∃r,G0 a1 a0 bigN 0 []=O r∧FB a1 a0 bigN 0 []=O r∧r.length≤a0.length∧∀w∈r,0≤w.From∧w.From≤w.To∧w.To+a1≤2880:=by
 have key:∀(k i n:Z) (acc:Q X5),i+k=a0.length→k<n→acc.length≤i→(∀w∈acc,0≤w.From∧w.From≤w.To∧w.To+a1≤2880)→∃r,G0 a1 a0 n (i:X) acc=O r∧FB a1 a0 n (i:X) acc=O r∧r.length≤a0.length∧∀w∈r,0≤w.From∧w.From≤w.To∧w.To+a1≤2880:=by
  intro k
  induction k with
  | zero=>
   intro i n acc hi hn ha hq;obtain⟨m,rfl⟩:∃m,n=m+1:=⟨n - 1,by omega⟩;have:i=a0.length:=by omega
   subst this;exact⟨acc,by simp[G0],by simp[FB],ha,hq⟩
  | succ k ih=>
   intro i n acc hi hn ha hq;obtain⟨m,rfl⟩:∃m,n=m+1:=⟨n - 1,by omega⟩;have hlt:i<a0.length:=by omega
   simp only[G0,FB,Ae,hlt,decide_true,if_true,Af hlt,zB];rw[An hlt (show a0.length≤maxLen by rw[AA]; omega)];by_cases hc:a1≤kY .i64 (a0[i].To - a0[i].From)
   ·simp only[hc,decide_true,if_true];rw[Pp (by simp; omega) (by omega),Pp (by simp; omega) (by omega)];refine ih (i+1) m _ (by omega) (by omega) (by simp; omega) fun w hw=> ?_
    have hx:=hW _ (zF hlt);rw[Aj (n:=a0[i].To - a0[i].From) (by omega) (by omega)] at hc
    rcases zV.1 hw with hw|hw
    ·exact hq w hw
    ·simp only[zS] at hw
     subst hw;simp only;rw[Aj (by omega) (by omega)];omega
   ·simp only[hc,decide_false,zD,if_false];exact ih (i+1) m _ (by omega) (by omega) (by omega) hq
 exact key a0.length 0 bigN [] (by omega) (Bm (by rw[AA]; omega)) (by simp) (fun w h=>by cases h)
theorem A32{f:Xe}{c:X3}{s:X4}{i:X}(hf:Dq f=E)(hn:∀x∈c.Points,x.Name.length≤maxLen)(hs:s.Name.length≤maxLen)(h1:AH c=E)(h2:Cz s=E)(h3:idx i c.Segments.length=E) :
  ∃r,OP f c i s=O r∧Nm f c i s=O r∧r.length≤2881∧∀w∈r,0≤w.From∧w.From≤w.To∧w.To+AI (Av c i) s≤2880:=by
 have hsg:=(F9 h1).2.1;have hW:=(SY (fun j=>decide (K4 c i s≤Dw f j)) 2881).1;have hB:=fF (fun j=>decide (K4 c i s≤Dw f j)) 2881
 have hmb:1≤AI (Av c i) s∧AI (Av c i) s≤480:=by
  obtain⟨_,_,a,b⟩:=(F9 h1).2.2 _ (BL h3).2;unfold AI;split
  ·rw[Aj (n:=2*_) (by omega) (by omega)]; omega
  ·omega
 have hmin:Nb c i s=O (AI (Av c i) s):=by
  unfold Nb;simp only[EW hn,HC hs,h1,h2,zB,if_true,En,h3,(BL h3).1,Pr]
 have hok1:JO c i s=O E:=by
  unfold JO;simp only[DB hn,Mr hs,h1,h2,zB,if_true,CK i (show c.Segments.length≤1000 by omega),h3]
 have hok2:IJ c i s=O E:=by
  unfold IJ;simp only[EW hn,HC hs,h1,h2,zB,if_true,En,h3]
 unfold OP Rz Nm;simp only[dD,Pq,hf,zB,if_true,hok1,hok2,A3f hn hs h1 h2 h3,vo hn hs h1 h2 h3,yl hf,yy hf,dG hn hs h1 h2 h3,hmin];generalize B4 (fun j=>decide (K4 c i s≤Dw f j)) 2881=W at hW hB
 have hWm:W.length≤maxLen:=by rw[AA]; omega
 unfold Rv QW;simp only[dK hWm,aj hWm,zB,By,HE];obtain⟨r,r1,r2,r3,r4⟩:=A26 (AI (Av c i) s) W (by omega) (by omega) (by omega) hB;by_cases hw:Qm W=E
 ·by_cases hm:(decide (0≤AI (Av c i) s)&&decide (AI (Av c i) s≤2880))=E
  ·exact⟨r,by simp only[hw,hm,if_true,r1,zB],by simp only[hw,hm,if_true,r2,zB],by omega,r4⟩
  ·exact⟨[],by simp[hw,hm],by simp[hw,hm],by simp,fun w h=>by cases h⟩
 ·exact⟨[],by simp[hw],by simp[hw],by simp,fun w h=>by cases h⟩
theorem sn{n:Z}(h:0<n):∃q,n=q+1:=⟨n - 1,by omega⟩
theorem Ah{n:Z}(h:n≤1000000000000):n≤maxLen:=by rw[AA]; omega
theorem B0{n k b:Z}(h:n≤100000000)(hk:k≤1000)(hb:b≤1000):Ad n k b=E:=by
 have:(n+k)*b≤100001000*1000:=yW (by omega) hb;simp only[Ad,decide_eq_true_eq];omega
theorem BE(P:Z→Z→Prop){len:Z}(hl:len≤maxLen)(h0:∀n,P (n+1) len)(hs:∀n i,i<len→P n (i+1)→P (n+1) i){i:Z}(hi:i≤len):P bigN i:=by
 have key:∀k i n,i+k=len→k<n→P n i:=by
  intro k
  induction k with
  | zero=>
   intro i n h1 h2;obtain⟨q,rfl⟩:=sn (n:=n) (by omega);obtain rfl:i=len:=by omega
   exact h0 q
  | succ k ih=>
   intro i n h1 h2;obtain⟨q,rfl⟩:=sn (n:=n) (by omega);exact hs q i (by omega) (ih _ _ (by omega) (by omega))
 exact key (len - i) i bigN (by omega) (yV (Nat.sub_le _ _) (Bm hl))
theorem Fp{α R:Type}{L:Z→X→U R}(l:Q α)(p:α→Y)(x K:U R)(hl:l.length≤maxLen)
  (hs:∀(n i:Z) (h:i<l.length),L (n+1) (i:X)=if p l[i]=E then x else L n (kY .i64 ((i:X)+1))) (he:∀n,L (n+1) (l.length:X)=K):L bigN 0=if l.any p=E then x else K:=by
 have:=BE (fun n i=>L n (i:X)=if(l.drop i).any p=E then x else K) hl (fun n=>by simpa using he n) (fun n i h ih=>by
  simp only[hs n i h,An h hl,ih,zW h,List.any_cons];cases p l[i]<;>simp) (zK _)
 simpa using this
theorem K2{α:Type}{l:Q α}{x:α}(hl:l.length≤maxLen)(h:l.getLast?=O x):ix l (kY .i64 ((l.length:X) - 1))=O x:=by
 have h0:0<l.length:=by cases l with | nil=>cases h | cons=>simp
 rw[show(l.length:X) - 1=((l.length - 1:Z):X) by omega,Aj (by omega) (by rw[AA] at hl; omega),Ak,← zX,h]
theorem M3{i:X}{n:Z}:idx i n=E↔0≤i∧i<(n:X):=by simp[idx]
theorem Cf{c:X3}(h:AH c=E):c.Points.length≤8∧c.Segments.length≤10∧(∀x∈c.Points,x.Name.length≤maxLen)∧∀x∈c.Segments,idx x.A c.Points.length=E∧idx x.B c.Points.length=E:=by
 simp only[AH,zE,decide_eq_true_eq,yB,kJ] at h;obtain⟨h1,h2,h3,h4⟩:=h;refine⟨h1,h2,fun x hx=> ?_,fun x hx=> ?_⟩
 ·obtain⟨i,hi,rfl⟩:=zN hx;have:=h3 i hi;simp only[HT,zC hi,zE] at this
  exact Ah (by have:=(A0c this.1).2; omega)
 ·obtain⟨i,hi,rfl⟩:=zN hx;have:=h4 i hi;simp only[DU,zC hi,zE,decide_eq_true_eq] at this
  exact⟨this.1,this.2.1⟩
theorem Gh{c:X3}{s:X4}{i:X}(hc:AH c=E)(hi:idx i c.Segments.length=E):1≤AI (Av c i) s∧AI (Av c i) s≤480:=by
 obtain⟨_,_,a,b⟩:=(F9 hc).2.2 _ (BL hi).2;unfold AI;split
 ·rw[Aj (n:=2*_) (by omega) (by omega)]; omega
 ·omega
def Cl(h:X6)(a:Xc):Y:=idx a.Ship h.Fleet.length&&(idx a.From h.Chart.Points.length&&(idx a.To h.Chart.Points.length&&(decide (a.From≠a.To)&&(Ca a.Ready&&(decide (a.Ready≤a.Due)&&decide (a.Due≤2880))))))
theorem UK(h:X6)(a:Xc):L1 h a=O (Cl h a):=by
 unfold L1 Cl;simp only[En,zB,HE,DC,MM,Ca,S6];cases idx a.Ship h.Fleet.length<;>cases idx a.From h.Chart.Points.length<;>cases idx a.To h.Chart.Points.length<;>simp[bne_iff_ne]
theorem UH{h:X6}(s:HSmall h)(a:Xc):KO h a=O (Bh h&&Cl h a):=by
 unfold KO;rw[af s,zB,UK];cases Bh h<;>rfl
theorem Gb{h:X6}(hh:Bh h=E):Dq h.Forecast=E∧AH h.Chart=E∧DK h.Fleet=E∧Kc h.Regime=E∧Fv h.Crew=E:=by
 simpa only[Bh,zE] using hh
theorem SL{h:X6}(s:HSmall h)(a:Xc):Jl h a=O (Bh h&&Cl h a):=by
 unfold Jl;rw[dE s,zB];cases hh:Bh h with
 | false=>simp
 | true=>
  obtain⟨_,hc,hf,_,_⟩:=Gb hh;have h1:=(Pa hf).1;have h2:=(Cf hc).1;simp only[if_true,CK _ (show h.Fleet.length≤1000 by omega),CK _ (show h.Chart.Points.length≤1000 by omega),zB,By,Cl,zQ,MM,Ca,S6];cases idx a.Ship h.Fleet.length<;>cases idx a.From h.Chart.Points.length<;>cases idx a.To h.Chart.Points.length<;>simp[bne_iff_ne]
theorem nO(a1:Q Xc)(v4:X)(a0:X6)(x6:Xc)(y10:Q Xc)(y11:X)(K:X→U Y):∀n v,Lx a1 v4 a0 x6 y10 y11 K n v=Fx a1 v4 a0 x6 y10 y11 K n v:=by
 intro n
 induction n with
 | zero=>intro v; rfl
 | succ n ih=>intro v; simp only[Lx,Fx,ih,BEq.comm (a:=x6.Ship)]
theorem nN{h:X6}(s:HSmall h)(hh:Bh h=E)(cs:Q Xc):∀n v,Lw cs h n v=E9 cs h n v:=by
 intro n
 induction n with
 | zero=>intro v; rfl
 | succ n ih=>intro v; simp only[Lw,E9,SL s,UK,hh,zQ,nO,funext ih]
theorem nP{h:X6}(s:HSmall h){cs:Q Xc}:∃b,Oq h cs=O b∧MY h cs=O b∧(b=E→Bh h=E∧cs.length≤6∧∀a∈cs,Cl h a=E):=by
 unfold Oq MY;rw[dE s,af s,zB];cases hh:Bh h with
 | false=>exact⟨G,rfl,rfl,fun h=>by cases h⟩
 | true=>
  simp only[if_true,funext (nN s hh cs _),zB];by_cases h6:(6:X)<(cs.length:X)
  ·simp only[h6,decide_true,if_true];exact⟨G,zA,zA,fun h=>by cases h⟩
  ·simp only[h6,decide_false,zD,if_false];have hl:cs.length≤maxLen:=Ah (by omega)
   have:=BE (fun n i=>∃b,E9 cs h n (i:X)=O b∧(b=E→∀j (hj:j<cs.length),i≤j→Cl h cs[j]=E)) hl (fun n=>⟨E,by simp[E9],fun _ j h1 h2=>by omega⟩) (fun n i hi ih=>by
    obtain⟨b,e1,e2⟩:=ih;rw[E9];simp only[Ae,hi,decide_true,if_true,Af hi,zB,UK,E7 (Nat.le_of_lt hi),yX,kO];cases hok:Cl h cs[i] with
    | false=>exact⟨G,rfl,fun h=>by cases h⟩
    | true=>
     simp only[if_true]
     have e:=Fp (L:=Fx cs (i:X) h cs[i] (cs.take i) ((cs.take i).length:X) (E9 cs h n)) (cs.take i) (fun x=>x.Ship==cs[i].Ship) (O G) (E9 cs h n (kY .i64 ((i:X)+1))) (Ah (by simp; omega)) (fun m j hj=>by
      rw[Fx];simp only[Ae,hj,decide_true,if_true,Af hj,zB]) fun m=>by rw[Fx,if_neg (by simp)]
     rw[e,An hi hl,e1];split
     ·exact⟨G,zA,fun h=>by cases h⟩
     ·refine⟨b,zA,fun hb j h1 h2=> ?_⟩;by_cases hji:j=i
      ·subst hji; exact hok
      ·exact e2 hb j h1 (by omega)) (zK _)
   obtain⟨b,e1,e2⟩:=this
   exact⟨b,e1,e1,fun hb=>⟨trivial,by omega,fun a ha=>by
    obtain⟨j,hj,rfl⟩:=zN ha;exact e2 hb j hj (zK _)⟩⟩
def BW(x:X2)(a:X):X:=if a=x.A then x.B else if a=x.B then x.A else -1
theorem TQ(x:X2)(a:X):KY x a=O (BW x a):=by
 unfold KY BW;by_cases h1:a=x.A
 ·rw[if_pos (by simpa using h1),if_pos h1]
 ·rw[if_neg (by simpa using h1),if_neg h1];by_cases h2:a=x.B
  ·rw[if_pos (by simpa using h2),if_pos h2]
  ·rw[if_neg (by simpa using h2),if_neg h2]
theorem Vg(x:X2)(a:X):P0 x a=O (BW x a):=TQ x a
theorem Yp{c:X3}(hc:AH c=E){x:X2}(hx:x∈c.Segments)(a:X):BW x a= -1∨idx (BW x a) c.Points.length=E:=by
 obtain⟨h1,h2⟩:=(Cf hc).2.2.2 x hx;unfold BW;split
 ·exact Or.inr h2
 ·split
  ·exact Or.inr h1
  ·exact Or.inl zA
theorem U9{l:Q X}(hl:l.length≤maxLen)(a:X):LO l a=O (l.any fun x=>x==a):=by
 have:=Fp (L:=JM a l) l (fun x=>x==a) (O E) (O G) hl (fun n i h=>by
  rw[JM];simp only[Ae,h,decide_true,if_true,Af h,zB]) fun n=>by simp[JM]
 unfold LO;rw[this];cases l.any fun x=>x==a<;>rfl
def Er(y:X9):Q Y:= [y.i0,y.i1,y.i2,y.i3,y.i4,y.i5,y.i6,y.i7]
theorem dA(y:X9){n:Z}(hn:n<8):Er (X9.set y n E)=(Er y).set n E:=by
 have:n=0∨n=1∨n=2∨n=3∨n=4∨n=5∨n=6∨n=7:=by omega
 rcases this with rfl|rfl|rfl|rfl|rfl|rfl|rfl|rfl<;>rfl
def Met(y:X9)(l:Q X):Prop:=∀x:X,0≤x→x<8→ix (Er y) x=O (l.any fun z=>z==x)
theorem Met.snoc{y:X9}{l:Q X}(H:Met y l){r:X}(h0:0≤r)(h8:r<8):Met (X9.set y r.toNat E) (l++ [r]):=fun x x0 x8=>by
 obtain⟨n,rfl⟩:∃n:Z,r=(n:X):=⟨r.toNat,by omega⟩;obtain⟨m,rfl⟩:∃m:Z,x=(m:X):=⟨x.toNat,by omega⟩;have hl:(Er y).length=8:=rfl;have hm:=H m x0 x8;rw[Ak] at hm
 rw[zP,dA y (by omega),Ak,List.getElem?_set,hm];by_cases e:n=m
 ·subst e;rw[if_pos rfl,if_pos (by omega)];simp
 ·rw[if_neg e];have:((n:X)==(m:X))=G:=beq_eq_false_iff_ne.2 (by omega);simp[this]
structure RtOk (c:X3) (rt l:Q X):Prop where
 len:l.length=rt.length+1
 pt:∀x∈l,idx x c.Points.length=E
 seg:∀i (h:i<rt.length),idx rt[i] c.Segments.length=E
 stp:∀i (h:i<rt.length),∃x,l[i]?=O x∧l[i+1]?=O (BW (Av c rt[i]) x)∧0≤BW (Av c rt[i]) x
theorem cT{c:X3}(hc:AH c=E){rt:Q X}{a:X}(ha:idx a c.Points.length=E)(hl:rt.length≤10000000) :
  ∃l b,Hf c a rt=O (l,b)∧Ik c a rt=O (l,b)∧(b=G→l= [])∧(b=E→RtOk c rt l):=by
 obtain⟨hp8,hs10,_,_⟩:=Cf hc;have ha':=M3.1 ha;have fail:∃l b,(O (([]:Q X),G):U (Q X × Y))=O (l,b)∧(O (([]:Q X),G):U (Q X × Y))=O (l,b)∧(b=G→l= [])∧(b=E→RtOk c rt l):=⟨[],G,rfl,rfl,fun _=>rfl,fun h=>by cases h⟩
 have main:=BE (fun n i=>∀v5 v7 l,l.getLast?=O v5→l.length=i+1→Met v7 l→(∀x∈l,idx x c.Points.length=E)→
   (∀j (h:j<rt.length),j<i→idx rt[j] c.Segments.length=E∧∃x,l[j]?=O x∧l[j+1]?=O (BW (Av c rt[j]) x)∧0≤BW (Av c rt[j]) x)→
   ∃l' b,Ei rt c n (i:X) l=O (l',b)∧GK rt c n v5 (i:X) v7 l=O (l',b)∧(b=G→l'= [])∧(b=E→RtOk c rt l')) (len:=rt.length) (Ah (by omega))
  (fun n v5 v7 l h1 h2 h3 h4 h5=>⟨l,E,by simp[Ei],by simp[GK],(fun h=>by cases h),fun _=>⟨h2,h4,fun j h=>(h5 j h h).1,fun j h=>(h5 j h h).2⟩⟩)
  (fun n i hi ih v5 v7 l h1 h2 h3 h4 h5=>by
   rw[Ei,GK];simp only[Ae,hi,decide_true,if_true,Af hi,zB,En,CK _ (show c.Segments.length≤1000 by omega)];cases hx:idx rt[i] c.Segments.length with
   | false=>exact fail
   | true=>
    simp only[if_true,(BL hx).1,zB,K2 (Ah (by omega)) h1,Vg,TQ];have he:=Yp hc (BL hx).2 v5;have hr:∃r,BW (Av c rt[i]) v5=r:=⟨_,rfl⟩;obtain⟨r,hr⟩:=hr;rw[hr] at he ⊢
    by_cases h0:r<0
    ·simp only[h0,decide_true,if_true,Il,Hg];exact fail
    ·have hri:=he.resolve_left (by omega);have hr':=M3.1 hri;have hd:(decide (0≤r)&&decide (r<8))=E:=by simp; omega
     have hm:=h3 r hr'.1 (by omega);unfold Er at hm
     simp only[h0,decide_false,zD,if_false,hd,if_true,U9 (Ah (n:=l.length) (by omega)),zB,hm];cases hb:l.any fun z=>z==r with
     | true=>simp only[Il,Hg,if_true]; exact fail
     | false=>
      simp only[Il,Hg,zD,if_false,hd,if_true];rw[if_pos (B0 (by omega) (by simp) (by omega)),if_pos (B0 (by omega) (by simp) (by omega)),An hi (Ah (by omega))];refine ih r _ _ (by simp) (by simp; omega) (h3.snoc hr'.1 (by omega)) (fun x hx=> ?_) fun j h1' h2'=> ?_
      ·rcases zV.1 hx with hx|hx
       ·exact h4 x hx
       ·simp only[zS] at hx; exact hx▸hri
      ·by_cases hji:j=i
       ·subst hji;refine⟨hx,v5,?_,?_,by rw[hr]; exact hr'.1⟩
        ·rw[zH (by omega),← h1,zX,h2]; rfl
        ·rw[zT (by omega),h2,hr]; simp
       ·obtain⟨g1,x,g2,g3,g4⟩:=h5 j h1' (by omega);exact⟨g1,x,by rw[zH (by omega)]; exact g2,by rw[zH (by omega)]; exact g3,g4⟩) (zK _)
 have hd:(decide (0≤a)&&decide (a<8))=E:=by simp; omega
 unfold Hf Ik;rw[En,ha,zB];simp only[if_true,hd]
 have m0:Met ⟨G,G,G,G,G,G,G,G⟩ []:=fun x x0 x8=>by
  obtain⟨n,rfl⟩:∃n:Z,x=(n:X):=⟨x.toNat,by omega⟩;have:n=0∨n=1∨n=2∨n=3∨n=4∨n=5∨n=6∨n=7:=by omega
  rcases this with rfl|rfl|rfl|rfl|rfl|rfl|rfl|rfl<;>rfl
 exact main a _ [a] rfl zA (m0.snoc ha'.1 (by omega)) (by simpa using ha) fun j _ h=>by omega
theorem co{c:X3}(hc:AH c=E){rt:Q X}{a:X}(hl:rt.length≤10000000) :
  ∃l b,EQ c a rt=O b∧Fz c a rt=O b∧FZ c a rt=O l∧Eb c a rt=O l∧(b=G→l= [])∧(b=E→RtOk c rt l):=by
 have hn:=(Cf hc).2.2.1;have h8:=(Cf hc).1;unfold FZ Eb EQ Fz;simp only[DB hn,EW hn,hc,zB,if_true,CK _ (show c.Points.length≤1000 by omega)];cases ha:idx a c.Points.length with
 | false=>
  refine⟨[],G,zA,?_,zA,?_,fun _=>rfl,fun h=>by cases h⟩<;>(unfold Ik; rw[En,ha]; rfl)
 | true=>
  obtain⟨l,b,e1,e2,e3,e4⟩:=cT hc ha hl;refine⟨l,b,by simp only[if_true,e1,zB],by simp only[e2,zB],?_,by simp only[e2,zB],e3,e4⟩;simp only[if_true,e1,zB];cases b with
  | false=>rw[e3 rfl]; rfl
  | true=>rfl
theorem uw(l:Q X5)(a:X)(hl:l.length≤100000):∃b,Oz l a=O b∧N4 l a=O b∧(b=E→∃w∈l,w.From≤a∧a≤w.To):=by
 have e1:=Fp (L:=Jw a l) l (fun x=>decide (x.From≤a)&&decide (a≤x.To)) (O E) (O G) (Ah (by omega)) (fun n i h=>by
  rw[Jw];simp only[Ae,h,decide_true,if_true,Af h,zB,By]) fun n=>by simp[Jw]
 have e2:=Fp (L:=Iv a l) l (fun x=>decide (x.From≤a)&&decide (a≤x.To)) (O E) (O G) (Ah (by omega)) (fun n i h=>by
  rw[Iv];simp only[Ae,h,decide_true,if_true,Af h,zB,DC]) fun n=>by simp[Iv]
 unfold Oz N4;rw[e1,e2];split
 ·rename_i h
  obtain⟨w,w1,w2⟩:=kP.1 h;simp only[zE,decide_eq_true_eq] at w2
  exact⟨E,zA,zA,fun _=>⟨w,w1,w2⟩⟩
 ·exact⟨G,zA,zA,fun h=>by cases h⟩
theorem A0d(l:Q X5)(a:X)(hl:l.length≤100000)(hW:∀w∈l,w.From≤w.To):∃r,OF l a=O r∧Nc l a=O r∧(r<0∨(a≤r∧∃w∈l,w.From≤r∧r≤w.To)):=by
 have hm:l.length≤maxLen:=Ah (by omega);unfold OF Nc;rw[dK hm,aj hm,zB,zB];split
 ·exact BE (fun n i=>∃r,Jz a l n (i:X)=O r∧Iw a l n (i:X)=O r∧(r<0∨(a≤r∧∃w∈l,w.From≤r∧r≤w.To))) hm (fun n=>⟨-1,by simp[Jz],by simp[Iw],Or.inl (by omega)⟩) (fun n i h ih=>by
   rw[Jz,Iw];simp only[Ae,h,decide_true,if_true,Af h,zB,An h hm];split
   ·rename_i hd
    simp only[decide_eq_true_eq] at hd
    have hw:=hW _ (zF h);exact⟨_,zA,zA,Or.inr ⟨by split<;>omega,l[i],zF h,by split<;>omega,by split<;>omega⟩⟩
   ·exact ih) (zK _)
 ·exact⟨-1,zA,zA,Or.inl (by omega)⟩
def wt(c:X3)(x:X):Y:=(c.Points[x.toNat]?.getD ⟨[],G⟩).Wait
structure VoyOk (f:Xe) (c:X3) (s:X4) (rt pts:Q X) (v:Xm):Prop where
 ne:rt≠ []
 r:RtOk c rt pts
 ml:v.minutes.length=rt.length
 ul:v.sure.length=rt.length
 m:∀i (h:i<rt.length),v.minutes[i]?=O (AI (Av c rt[i]) s)
 w:∀i (h:i<rt.length),∃x,pts[i]?=O x∧v.waits[i]?=O (wt c x)
 u:∀i (h:i<rt.length),∃l,v.sure[i]?=O l∧l.length≤2881∧∀w∈l,0≤w.From∧w.From≤w.To∧w.To+AI (Av c rt[i]) s≤2880
 st:RA f c s rt=O v.sure
theorem A56{f:Xe}{c:X3}{s:X4}(hf:Dq f=E)(hc:AH c=E)(hs:Cz s=E)(hsn:s.Name.length≤maxLen){rt pts:Q X}{a:X}(hl:rt.length≤10000000)(hr:RtOk c rt pts)(h0:rt≠ [])
  (e1:Fz c a rt=O E) (e2:Eb c a rt=O pts):∃v,IN f c s a rt=O (v,E)∧VoyOk f c s rt pts v:=by
 have hn:=(Cf hc).2.2.1;have hz:((rt.length:X)==(0:X))=G:=by cases rt with | nil=>exact absurd rfl h0 | cons=>simp; omega
 have hp:=hr.len;have hlen:(pts.take rt.length).length=rt.length:=by simp; omega
 have hlm:rt.length≤maxLen:=Ah (by omega)
 have hspec:=BE (fun n i=>∀us,us.length=i→∃vs,Hk rt f c s n (i:X) us=O (us++vs)∧∀ws ms,ws.length=i→ms.length=i→
   ∃ws' ms',IQ rt f c s (pts.take rt.length) ((pts.take rt.length).length:X) n (i:X) ws ms us=O (⟨ws++ws',ms++ms',us++vs⟩,E)∧ms'.length=rt.length - i∧vs.length=rt.length - i∧
    (∀j (h:j<rt.length),i≤j→ms'[j - i]?=O (AI (Av c rt[j]) s)∧(∃x,pts[j]?=O x∧ws'[j - i]?=O (wt c x))∧∃l,vs[j - i]?=O l∧l.length≤2881∧∀w∈l,0≤w.From∧w.From≤w.To∧w.To+AI (Av c rt[j]) s≤2880)) hlm
  (fun n us hu=>⟨[],by simp[Hk],fun ws ms hw hm=>⟨[],[],by simp[IQ,hlen],by simp,by simp,fun j h h'=>by omega⟩⟩)
  (fun n i h ih us hu=>by
   obtain⟨l,l1,l2,l3,l4⟩:=A32 (s:=s) hf hn hsn hc hs (hr.seg i h);have hlt':i<(pts.take rt.length).length:=by omega
   have hpi:i<pts.length:=by omega
   have hpt:=hr.pt pts[i] (zF hpi);have hg:(pts.take rt.length)[i]=pts[i]:=by simp
   obtain⟨vs,v1,v2⟩:=ih (us++ [l]) (by simp; omega);refine⟨l::vs,?_,fun ws ms hw hm=> ?_⟩
   ·rw[Hk];simp only[Ae,h,decide_true,if_true,Af h,zB,l1];rw[if_pos (B0 (by omega) (by simp) (by omega)),An h hlm,v1];simp
   ·obtain⟨ws',ms',g1,g2,g2',g3⟩:=v2 (ws++ [wt c pts[i]]) (ms++ [AI (Av c rt[i]) s]) (by simp; omega) (by simp; omega);refine⟨wt c pts[i]::ws',AI (Av c rt[i]) s::ms',?_,by simp; omega,by simp; omega,fun j hj hij=> ?_⟩
    ·rw[IQ];simp only[Ae,hlt',decide_true,if_true,Af hlt',Af h,hg,zB,(S9 (⟨[],G⟩:X8) hpt).1,(BL (hr.seg i h)).1,Pr,l2];rw[if_pos (B0 (by omega) (by simp) (by omega)),if_pos (B0 (by omega) (by simp) (by omega)),if_pos (B0 (by omega) (by simp) (by omega)),An h hlm];refine g1.trans ?_;simp
    ·by_cases hji:j=i
     ·subst hji;simp only[Nat.sub_self,yY];exact⟨trivial,⟨_,zC hpi,zA⟩,l,zA,l3,l4⟩
     ·obtain⟨q,hq⟩:∃q,j - i=q+1:=⟨j - i - 1,by omega⟩;have:=g3 j hj (by omega);rw[show j - (i+1)=q by omega] at this
      rw[hq];simpa using this) (zK _)
 obtain⟨vs,v1,v2⟩:=hspec [] rfl;obtain⟨ws',ms',g1,g2,g3,g4⟩:=v2 [] [] rfl rfl;refine⟨⟨ws',ms',vs⟩,?_,h0,hr,by simpa using g2,by simpa using g3,fun i h=>by simpa using(g4 i h (zK _)).1,fun i h=>by simpa using(g4 i h (zK _)).2.1,fun i h=>by simpa using(g4 i h (zK _)).2.2,show Hk rt f c s bigN 0 []=O vs by simpa using v1⟩;unfold IN;simp only[Pq,HC hsn,hf,hs,e1,e2,zB,if_true,IP,hz,zD,if_false];rw[E7 (by omega),zB];simp only[yX,kO];exact g1
structure Sailed (c:X3) (s:X4) (rt:Q X) (st:X) (l:Q X):Prop where
 len:l.length=rt.length
 hd:l[0]?=O st
 sf:∀i (h:i<rt.length),∃y,l[i]?=O y∧0≤y∧y+AI (Av c rt[i]) s≤2880
 up:∀i (h:i+1<rt.length),∃x y,l[i]?=O x∧l[i+1]?=O y∧kY .i64 (x+AI (Av c rt[i]) s)≤y
theorem A2s{f:Xe}{c:X3}{s:X4}(hc:AH c=E){rt pts:Q X}{v:Xm}(hl:rt.length≤10000000)(H:VoyOk f c s rt pts v)(st:X) :
  ∃l b,LP c s pts rt v.sure st=O (l,b)∧NE v st=O (l,b)∧(b=E→Sailed c s rt st l):=by
 have h0:0<rt.length:=zU.2 H.ne;have hlm:rt.length≤maxLen:=Ah (by omega);obtain⟨l0,u1,u2,u3⟩:=H.u 0 h0;obtain⟨b,b1,b2,b3⟩:=uw l0 st (by omega);have hx:ix v.sure (0:X)=O l0:=by have:=Ak v.sure 0; rw[u1] at this; exact this
 unfold LP NE;simp only[hx,zB,b1,b2];cases b with
 | false=>exact⟨[],G,rfl,rfl,fun h=>by cases h⟩
 | true=>
  simp only[if_true]
  refine BE (fun n i=>∀l,1≤i→l.length=i→l[0]?=O st→(∀j (h:j<rt.length),j<i→∃y,l[j]?=O y∧0≤y∧y+AI (Av c rt[j]) s≤2880)→(∀j (h:j+1<rt.length),j+1<i→∃x y,l[j]?=O x∧l[j+1]?=O y∧kY .i64 (x+AI (Av c rt[j]) s)≤y)→
   ∃l' b,ES pts rt v.sure c s n (i:X) l=O (l',b)∧EL v n (i:X) l=O (l',b)∧(b=E→Sailed c s rt st l')) hlm
   (fun n l h1 h2 h3 h5 h4=>⟨l,E,by simp[ES],by simp[EL,H.ul],fun _=>⟨h2,h3,fun j h=>h5 j h h,fun j h=>h4 j h h⟩⟩)
   (fun n i h ih l h1 h2 h3 h5 h4=> ?_) (i:=1) (by omega) [st] (by omega) rfl rfl (fun j hj h=> ?_) (fun j _ h=>by omega)
  case refine_2=>
   obtain rfl:j=0:=by omega
   obtain⟨w,w1,w2,w3⟩:=b3 rfl;have:=u3 w w1;exact⟨st,zA,by omega,by omega⟩
  obtain⟨w,g1,g2,g3⟩:=H.u i h;have hu:i<v.sure.length:=by have:=H.ul; omega
  have ew:kY .i64 ((i:X) - 1)=((i - 1:Z):X):=by
   rw[show(i:X) - 1=((i - 1:Z):X) by omega];exact Aj (by omega) (by omega)
  have hi1:i - 1<rt.length:=by omega
  have hil:i - 1<l.length:=by omega
  obtain⟨x,x1,x2⟩:=H.w i h;have hpt:=H.r.pt x (List.mem_of_getElem? x1);obtain⟨r,r1,r2,r3⟩:=A0d w (kY .i64 (l[i - 1]+AI (Av c rt[i - 1]) s)) (by omega) (fun x hx=>(g3 x hx).2.1);rw[ES,EL];simp only[Ae,h,hu,decide_true,if_true,ew,Af hil,Af hi1,Ak,H.m _ hi1,(BL (H.r.seg _ hi1)).1,zB,Qa,g1,r1,r2,x1,x2,(S9 (⟨[],G⟩:X8) hpt).1];have fail:∃l' b,(O (([]:Q X),G):U (Q X × Y))=O (l',b)∧(O (([]:Q X),G):U (Q X × Y))=O (l',b)∧(b=E→Sailed c s rt st l'):=⟨[],G,rfl,rfl,fun h=>by cases h⟩;by_cases hr0:r<0
  ·simp only[hr0,decide_true,if_true,JP,IR];exact fail
  ·obtain⟨hge,w',w1,w2,w3⟩:=r3.resolve_left hr0;have hwb:=g3 w' w1
   have hne:(r !=kY .i64 (l[i - 1]+AI (Av c rt[i - 1]) s))=decide (kY .i64 (l[i - 1]+AI (Av c rt[i - 1]) s)<r):=by
    rw[MM];by_cases e:r=kY .i64 (l[i - 1]+AI (Av c rt[i - 1]) s)
    ·simp[← e]
    ·have:kY .i64 (l[i - 1]+AI (Av c rt[i - 1]) s)<r:=by omega
     simp[e,this]
   have go:∃l' b,ES pts rt v.sure c s n (kY .i64 ((i:X)+1)) (l++ [r])=O (l',b)∧EL v n (kY .i64 ((i:X)+1)) (l++ [r])=O (l',b)∧(b=E→Sailed c s rt st l'):=by
    rw[An h hlm];refine ih (l++ [r]) (by omega) (by simp; omega) (by rw[zH (by omega)]; exact h3) (fun j hj1 hj2=> ?_) fun j hj1 hj2=> ?_
    ·by_cases hji:j=i
     ·subst hji;exact⟨r,by rw[zT (by omega),h2]; simp,by omega,by omega⟩
     ·obtain⟨y,q1,q2,q3⟩:=h5 j hj1 (by omega);exact⟨y,by rw[zH (by omega)]; exact q1,q2,q3⟩
    by_cases hji:j+1=i
    ·subst hji;exact⟨l[j],r,by rw[zH (by omega),zC],by rw[zT (by omega),h2]; simp,by simpa using hge⟩
    ·obtain⟨x,y,q1,q2,q3⟩:=h4 j hj1 (by omega);exact⟨x,y,by rw[zH (by omega)]; exact q1,by rw[zH (by omega)]; exact q2,q3⟩
   have hap:Ad l.length [r].length 8=E:=B0 (by omega) (by simp) (by omega);simp only[hr0,decide_false,zD,if_false,hne,JP,IR,hap,if_true];split
   ·change ∃l' b,(if(!wt c x)=E then _ else _)=_∧_
    split
    ·exact fail
    ·exact go
   ·exact go
def Qx(c:X3)(s:X4)(sh:X)(rt pts l:Q X)(i:Z)(ps:Q X1):Prop:=
 ps.length=i∧∀j (h:j<rt.length),j<i→∃x y,pts[j]?=O x∧l[j]?=O y∧0≤y∧y≤2880∧ps[j]?=O ⟨sh,rt[j],(Av c rt[j]).A==x,y,kY .i64 (y+AI (Av c rt[j]) s)⟩
theorem A1d{c:X3}{s:X4}(hs:Cz s=E)(hsn:s.Name.length≤maxLen){rt pts l:Q X}{a sh:X}(hl:rt.length≤10000000)(hr:RtOk c rt pts)(hlen:l.length=rt.length)(hS:∀i (h:i<rt.length),∃y,l[i]?=O y∧0≤y∧y≤2880)
  (e1:EQ c a rt=O E) (e2:Fz c a rt=O E) (e3:FZ c a rt=O pts) (e4:Eb c a rt=O pts) :
  ∃ps,OI c sh s a rt l=O ps∧Ng c sh s a rt l=O ps∧Qx c s sh rt pts l rt.length ps:=by
 have hlm:rt.length≤maxLen:=Ah (by omega);have hz:((rt.length:X) !=(l.length:X))=G:=by rw[hlen]; simp
 unfold OI Ng;simp only[e1,e2,e3,e4,Mr hsn,HC hsn,hs,zB,if_true,hz,zD,if_false]
 refine BE (fun n i=>∀ps,Qx c s sh rt pts l i ps→∃ps',JB sh l rt c s pts n (i:X) ps=O ps'∧Ix sh l rt c s pts n (i:X) ps=O ps'∧Qx c s sh rt pts l rt.length ps') hlm
  (fun n ps hp=>⟨ps,by simp[JB],by simp[Ix],hp⟩) (fun n i h ih ps hp=> ?_) (zK _) [] ⟨rfl,fun j _ h=>by omega⟩
 have hi:i<l.length:=by omega
 have hpi:i<pts.length:=by have:=hr.len; omega
 rw[JB,Ix];simp only[Ae,h,decide_true,if_true,Af h,Af hi,Af hpi,(BL (hr.seg i h)).1,zB,By,HE,Qa,Pr,BEq.comm (a:=pts[i])];split
 ·rename_i hm
  simp only[zE,decide_eq_true_eq] at hm
  have hp1:=hp.1;rw[if_pos (B0 (by omega) (by simp) (by omega)),if_pos (B0 (by omega) (by simp) (by omega)),An h hlm];refine ih _ ⟨by simp; omega,fun j hj1 hj2=> ?_⟩;by_cases hji:j=i
  ·subst hji;exact⟨pts[j],l[j],zC _,zC _,hm.1,hm.2,by rw[zT (by omega),hp1]; simp⟩
  ·obtain⟨x,y,q1,q2,q3,q4,q5⟩:=hp.2 j hj1 (by omega);exact⟨x,y,q1,q2,q3,q4,by rw[zH (by omega)]; exact q5⟩
 ·rename_i hm
  obtain⟨y,y1,y2,y3⟩:=hS i h;rw[zC hi,zG] at y1
  exact absurd (by simp[y1,y2,y3]) hm
theorem cn{c:X3}(hc:AH c=E){rt:Q X}(hl:rt.length≤10000000)(hs:∀i (h:i<rt.length),idx rt[i] c.Segments.length=E):∃r,Hd c rt=O r∧GS c rt=O r∧0≤r:=by
 have hlm:rt.length≤maxLen:=Ah (by omega);have hn:=(Cf hc).2.2.1;have h10:=(Cf hc).2.1;unfold Hd GS;simp only[DB hn,EW hn,hc,zB,if_true];refine BE (fun n i=>∀v:X,0≤v→v≤240*(i:X)→∃r,JF rt c n v (i:X)=O r∧Iz rt c n v (i:X)=O r∧0≤r) hlm (fun n v h1 h2=>⟨v,by simp[JF],by simp[Iz],h1⟩) (fun n i h ih v h1 h2=> ?_) (zK _) 0 (by omega) (by omega);obtain⟨_,_,a,b⟩:=(F9 hc).2.2 _ (BL (hs i h)).2;rw[JF,Iz];simp only[Ae,h,decide_true,if_true,Af h,(BL (hs i h)).1,zB,En,CK _ (show c.Segments.length≤1000 by omega),hs i h,An h hlm];rw[Aj (by omega) (by omega)];exact ih _ (by omega) (by omega)
theorem mE{c:X3}{s:X4}(hc:AH c=E)(hs:Cz s=E)(hsn:s.Name.length≤maxLen){rt l:Q X}(hl:rt.length≤10000000)(hsg:∀i (h:i<rt.length),idx rt[i] c.Segments.length=E)(hlen:l.length=rt.length)(h0:rt≠ []) :
  ∃r,On c s rt l=O r∧MW c s rt l=O r∧∀y,l[rt.length - 1]?=O y→0≤y→y≤2880→∃x,rt[rt.length - 1]?=O x∧r=kY .i64 (y+AI (Av c x) s):=by
 obtain⟨m,m1,m2,m3⟩:=cn hc hl hsg;have hp:0<rt.length:=zU.2 h0;have hz:((rt.length:X)==(0:X))=G:=beq_eq_false_iff_ne.2 (by omega);have hq:((rt.length:X) !=(l.length:X))=G:=by rw[hlen]; simp
 have ew:kY .i64 ((rt.length:X) - 1)=((rt.length - 1:Z):X):=by
  rw[show(rt.length:X) - 1=((rt.length - 1:Z):X) by omega];exact Aj (by omega) (by omega)
 have h1:rt.length - 1<rt.length:=by omega
 have h2:rt.length - 1<l.length:=by omega
 unfold On MW;simp only[m1,m2,zB,show decide (m<0)=G by simp; omega,zD,if_false,Mr hsn,HC hsn,hs,if_true,hq,hz,hlen,ew,Af h1,Af h2,By,HE,(BL (hsg _ h1)).1,Qa,Pr,bne_self_eq_false];split
 ·refine⟨_,zA,zA,fun y e _ _=>⟨_,zC h1,?_⟩⟩;rw[zC h2,zG] at e
  rw[e]
 ·rename_i hm
  refine⟨-1,zA,zA,fun y e a b=>absurd ?_ hm⟩;rw[zC h2,zG] at e
  simp only[zE,decide_eq_true_eq,e];exact⟨a,b⟩
structure AtOk (h:X6) (a:Xc) (rt:Q X) (st:X) (o:X0):Prop where
 ha:Cl h a=E
 mo:∃pts l,RtOk h.Chart rt pts∧Sailed h.Chart (AR h.Fleet a.Ship) rt st l∧Qx h.Chart (AR h.Fleet a.Ship) a.Ship rt pts l rt.length o.Passages
def B3(c:X3)(s:X4)(rt:Q X):X:=(rt.map fun k=>AI (Av c k) s).sum
theorem oA{h:X6}{s:X4}{rt:Q X}{v:Xm}{f:Xe}{pts:Q X}(hc:AH h.Chart=E)(hl:rt.length≤10000000)(H:VoyOk f h.Chart s rt pts v)(st r:X)(ps:Q X1){c0:X}(h0:B3 h.Chart s rt≤c0)(h1:c0≤100000) :
  Hu rt h s st r ps bigN 0 c0=O (⟨st,r,c0 - B3 h.Chart s rt,ps⟩,decide (r≤2880))∧H0 v st r ps bigN 0 c0=O (⟨st,r,c0 - B3 h.Chart s rt,ps⟩,decide (r≤2880)):=by
 have hlm:rt.length≤maxLen:=Ah (by omega)
 have pos:∀l:Q X,(∀x∈l,idx x h.Chart.Segments.length=E)→0≤B3 h.Chart s l:=by
  intro l
  induction l with
  | nil=>intro _; simp[B3]
  | cons a l ih=>
   intro hx;have h1:=ih fun x hm=>hx x (yH _ hm)
   have h2:=(Gh (s:=s) hc (hx a (yJ ..))).1;have e:B3 h.Chart s (a::l)=AI (Av h.Chart a) s+B3 h.Chart s l:=by simp[B3]
   omega
 have hsg:∀x∈rt,idx x h.Chart.Segments.length=E:=fun x hx=>by
  obtain⟨i,hi,rfl⟩:=zN hx;exact H.r.seg i hi
 have:=BE (fun n i=>∀c0,B3 h.Chart s (rt.drop i)≤c0→c0≤100000→Hu rt h s st r ps n (i:X) c0=O (⟨st,r,c0 - B3 h.Chart s (rt.drop i),ps⟩,decide (r≤2880))∧H0 v st r ps n (i:X) c0=O (⟨st,r,c0 - B3 h.Chart s (rt.drop i),ps⟩,decide (r≤2880))) hlm (fun n c0 _ _=>by
   have e:B3 h.Chart s (rt.drop rt.length)=0:=by simp[B3]
   rw[e,Int.sub_zero];exact⟨by simp[Hu],by simp[H0,H.ml]⟩) (fun n i hi ih c0 g0 g1=>by
  have hm:i<v.minutes.length:=by have:=H.ml; omega
  have e:B3 h.Chart s (rt.drop i)=AI (Av h.Chart rt[i]) s+B3 h.Chart s (rt.drop (i+1)):=by rw[zW hi]; rfl
  have hp:=pos (rt.drop (i+1)) fun x hx=>hsg x (List.mem_of_mem_drop hx)
  obtain⟨m1,m2⟩:=Gh (s:=s) hc (H.r.seg i hi);rw[Hu,H0];simp only[Ae,hi,hm,decide_true,if_true,Af hi,Ak,H.m i hi,(BL (H.r.seg i hi)).1,zB,Qa,An hi hlm];rw[Aj (n:=c0 - _) (by omega) (by omega)];have:=ih (c0 - AI (Av h.Chart rt[i]) s) (by omega) (by omega);rw[show c0 - AI (Av h.Chart rt[i]) s - B3 h.Chart s (rt.drop (i+1))=c0 - B3 h.Chart s (rt.drop i) by omega] at this
  exact this) (zK _) c0 (by simpa using h0) h1
 simpa using this
theorem Sailed.sum{c:X3}{s:X4}{rt l:Q X}{st:X}(hc:AH c=E)(hsg:∀i (h:i<rt.length),idx rt[i] c.Segments.length=E)(H:Sailed c s rt st l):∀k (hk:k<rt.length),∃y,l[k]?=O y∧st+B3 c s (rt.take k)≤y:=by
 intro k
 induction k with
 | zero=>intro hk; exact⟨st,H.hd,by simp[B3]⟩
 | succ k ih=>
  intro hk;obtain⟨y,y1,y2⟩:=ih (by omega);obtain⟨u,v,u1,u2,u3⟩:=H.up k hk;obtain⟨z,z1,z2,z3⟩:=H.sf k (by omega);rw[y1,zG] at u1 z1
  subst u1 z1;have hm:=Gh (s:=s) hc (hsg k (by omega));rw[Aj (by omega) (by omega)] at u3
  have e:B3 c s (rt.take (k+1))=B3 c s (rt.take k)+AI (Av c rt[k]) s:=by
   rw[zJ (by omega)];unfold B3;rw[kV,List.sum_append];simp
  exact⟨v,u2,by omega⟩
theorem A04{h:X6}{a:Xc}(ha:Cl h a=E)(hc:AH h.Chart=E)(hso:Cz (AR h.Fleet a.Ship)=E)(hsn:(AR h.Fleet a.Ship).Name.length≤maxLen){rt pts:Q X}{v:Xm}(hl:rt.length≤10000000)
  (V:VoyOk h.Forecast h.Chart (AR h.Fleet a.Ship) rt pts v) (e1:EQ h.Chart a.From rt=O E) (e2:Fz h.Chart a.From rt=O E) (e3:FZ h.Chart a.From rt=O pts) (e4:Eb h.Chart a.From rt=O pts)
  {st:X} (hr:a.Ready≤st) (hd:st≤2880):∃l b,LP h.Chart (AR h.Fleet a.Ship) pts rt v.sure st=O (l,b)∧(b=G→∃o,IK h a v rt st=O (o,G))∧
   (b=E→∃o,P4 h a rt l=O (o,E)∧IK h a v rt st=O (o,E)∧AtOk h a rt st o∧o.Arrival≤2880∧0≤o.Cost∧o.Cost≤2880∧∀y,l[rt.length - 1]?=O y→∃x,rt[rt.length - 1]?=O x∧o.Arrival=kY .i64 (y+AI (Av h.Chart x) (AR h.Fleet a.Ship))):=by
 obtain⟨l,b,b1,b2,b3⟩:=A2s hc hl V st;refine⟨l,b,b1,fun hb=> ?_,fun hb=> ?_⟩
 ·subst hb;exact⟨⟨0,0,0,[]⟩,by simp only[IK,b2,zB,zD,if_false]⟩
 ·subst hb;have S:=b3 rfl;have ha':=ha;simp only[Cl,Ca,zE,decide_eq_true_eq] at ha'
  obtain⟨q1,_,_,_,⟨q5,_⟩,_⟩:=ha';obtain⟨s1,s2⟩:=JZ q1
  have hsS:∀i (h':i<rt.length),∃y,l[i]?=O y∧0≤y∧y≤2880:=fun i h'=>by
   obtain⟨y,y1,y2,y3⟩:=S.sf i h';have:=(Gh (s:=AR h.Fleet a.Ship) hc (V.r.seg i h')).1;exact⟨y,y1,y2,by omega⟩
  obtain⟨ps,p1,p2,p3⟩:=A1d (sh:=a.Ship) hso hsn hl V.r S.len hsS e1 e2 e3 e4;obtain⟨r,r1,r2,r3⟩:=mE hc hso hsn hl V.r.seg S.len V.ne;have hp:=zU.2 V.ne;have hlt:rt.length - 1<rt.length:=by omega
  obtain⟨y,y1,y2,y3⟩:=S.sf _ hlt;have hm:=Gh (s:=AR h.Fleet a.Ship) hc (V.r.seg _ hlt);obtain⟨x,x1,x2⟩:=r3 y y1 y2 (by omega);rw[zC hlt,zG] at x1
  rw[← x1,Aj (by omega) (by omega)] at x2
  obtain⟨z,z1,z2⟩:=S.sum hc V.r.seg _ hlt;rw[y1,zG] at z1
  subst z1
  have es:B3 h.Chart (AR h.Fleet a.Ship) rt=B3 h.Chart (AR h.Fleet a.Ship) (rt.take (rt.length - 1))+AI (Av h.Chart rt[rt.length - 1]) (AR h.Fleet a.Ship):=by
   have e:rt=rt.take (rt.length - 1)++ [rt[rt.length - 1]]:=by
    rw[← zJ hlt,show rt.length - 1+1=rt.length by omega,yF]
   have:∀u w:Q X,B3 h.Chart (AR h.Fleet a.Ship) (u++w)=B3 h.Chart (AR h.Fleet a.Ship) u+B3 h.Chart (AR h.Fleet a.Ship) w:=fun u w=>by simp[B3]
   rw[congrArg (B3 h.Chart (AR h.Fleet a.Ship)) e,this];simp[B3]
  obtain⟨c1,c2⟩:=oA hc hl V st r ps (c0:=r - a.Ready) (by omega) (by omega);have ew:kY .i64 (r - a.Ready)=r - a.Ready:=Aj (by omega) (by omega);have hx0:ix l (0:X)=O st:=by have:=Ak l 0; rw[S.hd] at this; exact this
  have hpos:0≤B3 h.Chart (AR h.Fleet a.Ship) rt:=by
   have:∀w:Q X,(∀x∈w,idx x h.Chart.Segments.length=E)→0≤B3 h.Chart (AR h.Fleet a.Ship) w:=by
    intro w
    induction w with
    | nil=>intro _; simp[B3]
    | cons u w ih=>
     intro hx;have h1:=ih fun x hm=>hx x (yH _ hm)
     have h2:=(Gh (s:=AR h.Fleet a.Ship) hc (hx u (yJ ..))).1;have e:B3 h.Chart (AR h.Fleet a.Ship) (u::w)=AI (Av h.Chart u) (AR h.Fleet a.Ship)+B3 h.Chart (AR h.Fleet a.Ship) w:=by simp[B3]
     omega
   exact this rt fun x hx=>by
    obtain⟨i,hi,rfl⟩:=zN hx;exact V.r.seg i hi
  have hd28:decide (r≤2880)=E:=by simp; omega
  refine⟨⟨st,r,r - a.Ready - B3 h.Chart (AR h.Fleet a.Ship) rt,ps⟩,?_,?_,⟨ha,pts,l,V.r,S,p3⟩,by simp only; omega,by simp only; omega,by simp only; omega,fun y' h'=> ?_⟩
  ·simp only[P4,s1,zB,hx0,r1,p1,ew,c1,hd28]
  ·simp only[IK,b2,if_true,s1,zB,r2,p2,ew,c2,hd28]
  ·rw[y1,zG] at h'
   subst h';exact r3 y y1 y2 (by omega)
structure GoodP (c:X3) (fl:Q X4) (l:Q X1):Prop where
 ne:l≠ []
 inn:∀p∈l,Cc c fl p=E
 ship:∃sh,∀p∈l,p.Ship=sh
 link:∀j (h:j+1<l.length),(Cq c l[j+1]).1=(Cq c l[j]).2∧l[j].End≤l[j+1].Start
theorem rH{s:X2}{x:X}(h:0≤BW s x):(if(s.A==x)=E then(s.A,s.B) else(s.B,s.A))=(x,BW s x):=by
 unfold BW at *
 by_cases h1:s.A=x
 ·subst h1; simp
 ·have h1':¬x=s.A:=fun e=>h1 e.symm
  by_cases h2:x=s.B
  ·subst h2; simp[h1,h1']
  ·simp[h1',h2] at h
theorem AtOk.good{h:X6}{a:Xc}{st:X}{o:X0}(hh:Bh h=E)(H:AtOk h a (o.Passages.map fun p=>p.Segment) st o):GoodP h.Chart h.Fleet o.Passages:=by
 obtain⟨ha,pts,l,hr,S,hp⟩:=H;obtain⟨_,hc,hfl,_,_⟩:=Gb hh;simp only[Cl,zE] at ha
 have hne:o.Passages≠ []:=fun e=>by
  have h1:=S.hd;have h2:=S.len;rw[e] at h2
  cases l with
  | nil=>cases h1
  | cons=>simp at h2
 obtain⟨_,hp⟩:=hp;generalize hps:o.Passages=ps at *
 have hlen:(ps.map fun p=>p.Segment).length=ps.length:=by simp
 have hpos:0<ps.length:=zU.2 hne
 have at_:∀j (hj:j<ps.length),∃x y,pts[j]?=O x∧l[j]?=O y∧0≤y∧y≤2880∧idx ps[j].Segment h.Chart.Segments.length=E∧ps[j]=⟨a.Ship,ps[j].Segment,(Av h.Chart ps[j].Segment).A==x,y,y+AI (Av h.Chart ps[j].Segment) (AR h.Fleet a.Ship)⟩:=fun j hj=>by
  obtain⟨x,y,q1,q2,q3,q4,q5⟩:=hp j (by omega) (by omega);have hs:=hr.seg j (by omega);simp only[kQ] at hs q5
  obtain⟨m1,m2⟩:=Gh (s:=AR h.Fleet a.Ship) hc hs;rw[Aj (by omega) (by omega),zC hj,zG] at q5
  exact⟨x,y,q1,q2,q3,q4,hs,q5⟩
 have up:∀j (hj:j+1<ps.length),ps[j].End≤ps[j+1].Start:=fun j hj=>by
  obtain⟨x,y,_,q2,q3,q4,q5,q6⟩:=at_ j (by omega);obtain⟨x',y',_,r2,_,_,_,r6⟩:=at_ (j+1) hj;obtain⟨u,v,s1,s2,s3⟩:=S.up j (by omega);rw[q2,zG] at s1
  rw[r2,zG] at s2
  subst s1 s2;simp only[kQ] at s3
  obtain⟨m1,m2⟩:=Gh (s:=AR h.Fleet a.Ship) hc q5;rw[Aj (by omega) (by omega)] at s3
  rw[q6,r6];exact s3
 refine⟨hne,fun p hpm=> ?_,⟨a.Ship,fun p hpm=> ?_⟩,fun j hj=>⟨?_,up j hj⟩⟩
 ·obtain⟨j,hj,rfl⟩:=zN hpm;obtain⟨x,y,q1,q2,q3,q4,q5,q6⟩:=at_ j hj;obtain⟨m1,m2⟩:=Gh (s:=AR h.Fleet a.Ship) hc q5
  have hend:y+AI (Av h.Chart ps[j].Segment) (AR h.Fleet a.Ship)≤2880:=by
   obtain⟨z,z1,_,z3⟩:=S.sf j (by omega);rw[q2,zG] at z1
   subst z1;simpa using z3
  rw[q6];simp only[Cc,Ca,zE,decide_eq_true_eq];exact⟨ha.1,q5,⟨q3,q4⟩,hend,(Aj (by omega) (by omega)).symm⟩
 ·obtain⟨j,hj,rfl⟩:=zN hpm;obtain⟨x,y,q1,q2,q3,q4,q5,q6⟩:=at_ j hj;rw[q6]
 ·have e:∀j (hj:j<ps.length),∃x,pts[j]?=O x∧0≤BW (Av h.Chart ps[j].Segment) x∧pts[j+1]?=O (BW (Av h.Chart ps[j].Segment) x)∧Cq h.Chart ps[j]=(x,BW (Av h.Chart ps[j].Segment) x):=fun j hj=>by
   obtain⟨x,y,q1,q2,q3,q4,q5,q6⟩:=at_ j hj;obtain⟨x',t1,t2,t3⟩:=hr.stp j (by omega);simp only[kQ] at t2 t3
   rw[q1,zG] at t1
   subst t1;refine⟨x,q1,t3,t2,?_⟩;rw[← rH t3];have ht:ps[j].Toward=((Av h.Chart ps[j].Segment).A==x):=by rw[q6]
   unfold Cq;rw[ht]
  obtain⟨x,_,_,g3,g4⟩:=e j (by omega);obtain⟨x',k1,_,_,k4⟩:=e (j+1) hj;rw[g3,zG] at k1
  rw[g4,k4,k1]
def Ew(a b g:X):Y:=decide (a - b<g∧b - a<g)
def Ey(p q:X1):Y:=decide (p.Start<q.End∧q.Start<p.End)
def E8(c:X3)(r:Xj)(p q:X1):Y:=
 decide (p.Segment=q.Segment)&&(if p.Ship=q.Ship then Ey p q else if p.Toward=q.Toward then(Ew p.Start q.Start r.Gap || (Ew p.End q.End r.Gap || decide ((p.Start<q.Start∧q.End<p.End)∨(q.Start<p.Start∧p.End<q.End)))) else Ey p q&&(r.NoMeet || !(Av c p.Segment).Meet))
theorem Yf(c:X3)(r:Xj)(p q:X1):E8 c r p q=E8 c r q p:=by
 have n:∀a b g,Ew a b g=Ew b a g:=fun a b g=>by unfold Ew; congr 1; exact propext And.comm
 have v:Ey p q=Ey q p:=by unfold Ey; congr 1; exact propext And.comm
 unfold E8;by_cases e:p.Segment=q.Segment
 ·simp only[e,n q.Start,n q.End,← v,eq_comm (a:=q.Ship),eq_comm (a:=q.Toward),or_comm (a:=q.Start<p.Start∧p.End<q.End)]
 ·have e':¬q.Segment=p.Segment:=fun h=>e h.symm
  simp[e,e']
theorem dM{a b g:X}(a0:0≤a)(a1:a≤2880)(b0:0≤b)(b1:b≤2880):LQ a b g=O (Ew a b g):=by
 unfold LQ P1 Ew;by_cases h:b<a
 ·have h':¬a<b:=by omega
  simp only[h,h',if_true,if_false,show ¬b<0 by omega,decide_false,zD,Aj (n:=a - b) (by omega) (by omega),zG,decide_eq_decide];omega
 ·simp only[h,if_false,show ¬a<0 by omega,decide_false,zD,zG,decide_eq_decide];by_cases h':a<b
  ·simp only[h',if_true,Aj (n:=b - a) (by omega) (by omega)]; omega
  ·simp only[h',if_false,Aj (n:=a - a) (by omega) (by omega)]; omega
theorem ar{a b g:X}(a0:0≤a)(a1:a≤2880)(b0:0≤b)(b1:b≤2880)(g0:0≤g)(g1:g≤60):L9 a b g=O (Ew a b g):=by
 unfold L9 Ew;rw[Ff g0 (by omega)];by_cases h:b<a
 ·have h':¬a<b:=by omega
  simp only[h,h',if_true,if_false,Ff (n:=a) (by omega) (by omega),Ff (n:=b) (by omega) (by omega),Ff (n:=a - b) (by omega) (by omega),zG,decide_eq_decide];omega
 ·by_cases h':a<b
  ·simp only[h,h',if_true,if_false,Ff (n:=a) (by omega) (by omega),Ff (n:=b) (by omega) (by omega),Ff (n:=b - a) (by omega) (by omega),zG,decide_eq_decide];omega
  ·simp only[h,h',if_true,if_false,Ff (n:=a) (by omega) (by omega),Ff (n:=a - a) (by omega) (by omega),zG,decide_eq_decide];omega
theorem A09{p q:X1}(hp:p.Start<p.End)(hq:q.Start<q.End):LJ p q=O (Ey p q)∧KW p q=O (Ey p q):=by
 have:decide ((if p.Start<q.Start then q.Start else p.Start)<(if q.End<p.End then q.End else p.End))=Ey p q:=by
  unfold Ey;rw[decide_eq_decide];split<;>split<;>omega
 unfold LJ KW;rw[this];exact⟨zA,zA⟩
theorem Yg{c:X3}{fl:Q X4}{r:Xj}(hc:AH c=E)(hr:Kc r=E){p q:X1}(hp:Cc c fl p=E)(hq:Cc c fl q=E) :
  (∃n,Ow c r p q=O n∧(n !=0)=E8 c r p q)∧∃n,Ns c r p q=O n∧(n !=0)=E8 c r p q:=by
 obtain⟨_,p2,p3,p4,p5⟩:=DQ hc hp;obtain⟨_,q2,q3,q4,q5⟩:=DQ hc hq;have hn:=(Cf hc).2.2.1;have h10:=(Cf hc).2.1;have hr':=hr;simp only[Kc,zE,decide_eq_true_eq] at hr'
 obtain⟨o1,o2⟩:=A09 (PZ hc hp) (PZ hc hq);have n1:=dM (a:=p.Start) (b:=q.Start) (g:=r.Gap) (by omega) (by omega) (by omega) (by omega);have n2:=dM (a:=p.End) (b:=q.End) (g:=r.Gap) (by omega) (by omega) (by omega) (by omega);have m1:=ar (a:=p.Start) (b:=q.Start) (g:=r.Gap) (by omega) (by omega) (by omega) (by omega) hr'.1 hr'.2;have m2:=ar (a:=p.End) (b:=q.End) (g:=r.Gap) (by omega) (by omega) (by omega) (by omega) hr'.1 hr'.2;have hreg:JE r=O E:=by simp only[JE,By,zB]; exact congrArg O hr
 unfold Ow Ns Nt Nu IG Nv E8;simp only[DB hn,hc,hreg,zB,if_true,CK _ (show c.Segments.length≤1000 by omega),p2,En,o1,o2,n1,n2,m1,m2,(BL p2).1,kX,zD,if_false];by_cases e1:p.Segment=q.Segment
 ·by_cases e2:p.Ship=q.Ship
  ·cases ho:Ey p q<;>simp[e1,e2]
  ·by_cases e3:p.Toward=q.Toward
   ·cases h1:Ew p.Start q.Start r.Gap<;>cases h2:Ew p.End q.End r.Gap<;>simp[e1,e2,e3];by_cases g1:p.Start<q.Start<;>by_cases g2:q.End<p.End<;>by_cases g3:q.Start<p.Start<;>by_cases g4:p.End<q.End<;>simp[g1,g2,g3,g4]<;>omega
   ·cases ho:Ey p q<;>cases hm:r.NoMeet<;>cases hs:(Av c p.Segment).Meet<;>simp[e1,e2,e3]<;>simp_all
 ·simp[e1]
def BA(c:X3)(r:Xj)(a b:Q X1):Y:=a.any fun p=>b.any fun q=>E8 c r p q
theorem na(c:X3)(r:Xj)(a b:Q X1):BA c r a b=BA c r b a:=by
 rw[zR];simp only[BA,kP];constructor
 ·rintro⟨p,hp,q,hq,h⟩
  exact⟨q,hq,p,hp,by rw[Yf]; exact h⟩
 ·rintro⟨p,hp,q,hq,h⟩
  exact⟨q,hq,p,hp,by rw[Yf]; exact h⟩
theorem Y8{c:X3}{fl:Q X4}{r:Xj}(hc:AH c=E)(hr:Kc r=E){a b:Q X1}(ha:∀p∈a,Cc c fl p=E)(hb:∀p∈b,Cc c fl p=E)(la:a.length≤maxLen)(lb:b.length≤maxLen) :
  Ou c r a b=O (BA c r a b)∧Nr c r a b=O (BA c r a b):=by
 have fin:∀x:Y,(if x=E then O E else O G)=O x:=fun x=>by cases x<;>rfl
 constructor
 ·have:=Fp (L:=FW b a c r) a (fun p=>b.any fun q=>E8 c r p q) (O E) (O G) la (fun n i h=>by
   rw[FW];simp only[Ae,h,decide_true,if_true,Af h,zB]
   exact Fp (L:=Jp b a (i:X) c r a[i] (FW b a c r n)) b (fun q=>E8 c r a[i] q) (O E) (FW b a c r n (kY .i64 ((i:X)+1))) lb (fun m j hj=>by
    obtain⟨x,x1,x2⟩:=(Yg hc hr (ha _ (zF h)) (hb _ (zF hj))).1;rw[Jp];simp only[Ae,hj,decide_true,if_true,Af hj,zB,x1,x2]) fun m=>by rw[Jp,if_neg (by simp)]) fun n=>by rw[FW,if_neg (by simp)]
  unfold Ou;rw[this,fin];rfl
 ·have:=Fp (L:=FE b a c r) a (fun p=>b.any fun q=>E8 c r p q) (O E) (O G) la (fun n i h=>by
   rw[FE];simp only[Ae,h,decide_true,if_true,Af h,zB]
   exact Fp (L:=IF b a (i:X) c r a[i] (FE b a c r n)) b (fun q=>E8 c r a[i] q) (O E) (FE b a c r n (kY .i64 ((i:X)+1))) lb (fun m j hj=>by
    obtain⟨x,x1,x2⟩:=(Yg hc hr (ha _ (zF h)) (hb _ (zF hj))).2;rw[IF];simp only[Ae,hj,decide_true,if_true,Af hj,zB,x1,x2]) fun m=>by rw[IF,if_neg (by simp)]) fun n=>by rw[FE,if_neg (by simp)]
  unfold Nr;rw[this,fin];rfl
theorem bQ{B C:Z→Z→Y}{N M n m:Z}(h:N≤M)(e:∀i j,i<N→j<N→B i j=C i j)(H:Ci B (2 ^ N - 1) n)(K:Ci C (2 ^ M - 1) m):n≤m:=by
 obtain⟨f,f1,f2⟩:=K.1
 have b:∀i,(2 ^ N - 1).testBit i=E→i<N∧(2 ^ M - 1).testBit i=E:=fun i hi=>by
  rw[yN,decide_eq_true_eq] at hi
  exact⟨hi,by rw[yN,decide_eq_true_eq]; omega⟩
 exact H.2 m ⟨f,fun i hi=>f1 i (b i hi).2,fun i j hi hj hne he=>by rw[e i j (b i hi).1 (b j hj).1]; exact f2 i j (b i hi).2 (b j hj).2 hne he⟩
theorem XY{p:X}{m:Q X}{l k:Q Xb}{i j:Z}(hi:i<l.length)(hj:j<l.length):Bb p m l i j=Bb p m (l++k) i j:=by
 unfold Bb;rw[zH hi,zH hj]
theorem KC{p:X}{m:Q X}{l:Q Xb}(hm:m.length≤maxLen)(h1:l.length≤12)(h2:∀d∈l,Bq d=E)(h3:Ca p=E)(h4:F4 m=E) :
  ∃n:Z,Ci (Bb p m l) (2 ^ l.length - 1) n∧(∃w,Jx p m l=O (w,(n:X),E))∧∀k:X,GU p m l k=O (decide ((n:X)≤k)):=by
 obtain⟨n,w1,w2,n12,n1,e1,e2⟩:=lV hm (lh h1 h2 h3 h4);refine⟨n,n1,⟨w1,e1⟩,fun k=> ?_⟩;have hn:n≤l.length:=n1.2 _ (QK (by have:=kK (n:=l.length) (show 0<2 by omega); omega));unfold GU;by_cases hk:(l.length:X)≤k
 ·have:(n:X)≤k:=by omega
  simp[hk,this]
 ·simp[hk,e2]
section
variable {c : X3} {fl : Q X4}
def BR(c:X3)(fl:Q X4)(all:Q X1):Q Xb:=all.flatMap fun p=>zI (AR fl p.Ship).Tugs.toNat (CH c p p)
def I4(l:Q Xb):Q Xb × Y:=if l.length≤12 then(l,E) else([],G)
theorem eR(hn:∀x∈c.Points,x.Name.length≤maxLen)(hf:∀x∈fl,x.Name.length≤maxLen)(hc:AH c=E)(hfl:DK fl=E){all:Q X1}(hl:all.length≤maxLen)(hp:∀p∈all,Cc c fl p=E) :
  RD c fl all=O (I4 (BR c fl all))∧ND c fl all=O (I4 (BR c fl all)):=by
 refine BE (fun n i=>∀acc:Q Xb,acc.length≤12→G6 fl all c n (i:X) acc=O (I4 (acc++BR c fl (all.drop i)))∧FH fl all c n (i:X) acc=O (I4 (acc++BR c fl (all.drop i)))) hl
  (fun n acc ha=>by simp[G6,FH,BR,I4,ha]) (fun n i h ih acc ha=> ?_) (zK _) [] (by simp)
 have hpi:=hp _ (zF h);obtain⟨f1,f2,f3,f4,f5⟩:=DQ hc hpi;obtain⟨s1,s2⟩:=JZ f1;have hso:=(Pa hfl).2 _ s2
 have hT:0≤(AR fl all[i].Ship).Tugs∧(AR fl all[i].Ship).Tugs≤4:=by
  simp only[Cz,zE,decide_eq_true_eq] at hso
  omega
 have hTe:(AR fl all[i].Ship).Tugs=((AR fl all[i].Ship).Tugs.toNat:X):=by omega
 have hd:BR c fl (all.drop i)=zI (AR fl all[i].Ship).Tugs.toNat (CH c all[i] all[i])++BR c fl (all.drop (i+1)):=by
  rw[zW h]; rfl
 rw[G6,FH,hd];simp only[Ae,h,decide_true,if_true,Af h,zB,dH hn hf hc hfl,vr hn hf hc hfl,hpi,Q9 f2,s1];generalize (AR fl all[i].Ship).Tugs.toNat=T at *
 have g1:=A5o (c:=c) (p:=all[i]) s1 f2 all (i:X) (G6 fl all c n) hTe (by omega) T 0 bigN acc (by omega) (by rw[C7]; omega) (by omega);have g2:=A5n (c:=c) (fl:=fl) (p:=all[i]) f2 all (i:X) (FH fl all c n) hTe (by omega) T 0 bigN acc (by omega) (by rw[C7]; omega) (by omega);have g1:Ht fl (Cq c all[i]) all (i:X) c all[i] (G6 fl all c n) bigN 0 acc=_:=g1;have g2:H1 fl all (i:X) (AR fl all[i].Ship) c all[i] (FH fl all c n) bigN 0 acc=_:=g2;rw[g1,g2,← yL,An h hl];generalize acc++zI T (CH c all[i] all[i])=ac2 at ih ⊢
 by_cases h12:(12:X)<(ac2.length:X)
 ·have:¬ac2.length+(BR c fl (all.drop (i+1))).length≤12:=by omega
  simp[h12,I4,this]
 ·simp only[h12,decide_false,zD,if_false];exact ih ac2 (by omega)
theorem VP(hc:AH c=E){all:Q X1}(hp:∀p∈all,Cc c fl p=E):∀d∈BR c fl all,Bq d=E:=fun d hd=>by
 obtain⟨p,hpm,hd⟩:=List.mem_flatMap.1 hd;rw[(List.mem_replicate.1 hd).2];have:=DQ hc (hp p hpm);exact Yo hc this.2.1 this.2.1 this.2.2.1 (PZ hc (hp p hpm)) this.2.2.2.2
def EU(l:Q X1):X1:=l.head?.getD ⟨0,0,G,0,0⟩
def HH(l:Q X1):X1:=l.getLast?.getD ⟨0,0,G,0,0⟩
def BV(c:X3)(pl:Q X0):Q Xb:=pl.map fun o=>CH c (EU o.Passages) (HH o.Passages)
theorem TR{l:Q X1}(h:l≠ []):l.head?=O (EU l)∧l.getLast?=O (HH l):=by
 cases l with
 | nil=>exact absurd rfl h
 | cons a l=>
  refine⟨zA,?_⟩;unfold HH;cases e:(a::l).getLast? with
  | none=>rw[kM] at e; cases e
  | some x=>rfl
theorem GoodP.duty{l:Q X1}(hc:AH c=E)(H:GoodP c fl l):Cc c fl (EU l)=E∧Cc c fl (HH l)=E∧Bq (CH c (EU l) (HH l))=E:=by
 obtain⟨e1,e2⟩:=TR H.ne;have i1:=H.inn _ (List.mem_of_head? e1);have i2:=H.inn _ (List.mem_of_getLast? e2);have f1:=DQ hc i1;have f2:=DQ hc i2;have hpos:=zU.2 H.ne
 have hlt:∀j (h:j<l.length),(l[0]'hpos).Start<l[j].End:=by
  intro j
  induction j with
  | zero=>intro h; exact PZ hc (H.inn _ (zF h))
  | succ j ih=>
   intro h;have g1:=ih (by omega);have g2:=(H.link j h).2;have g3:=PZ hc (H.inn _ (zF h));omega
 have s1:l[0]'hpos=EU l:=by rw[kC,zC hpos] at e1; exact kW e1
 have s2:l[l.length - 1]'(by omega)=HH l:=by rw[zX,zC (by omega)] at e2; exact kW e2
 have:=hlt (l.length - 1) (by omega);rw[s1,s2] at this
 exact⟨i1,i2,Yo hc f1.2.1 f2.2.1 f1.2.2.1 this f2.2.2.2.2⟩
theorem A1j(hn:∀x∈c.Points,x.Name.length≤maxLen)(hf:∀x∈fl,x.Name.length≤maxLen)(hc:AH c=E)(hfl:DK fl=E){l:Q X1}(hl:l.length≤100000000)(H:GoodP c fl l):OJ c fl l=O (CH c (EU l) (HH l),E):=by
 have hlm:l.length≤maxLen:=Ah (by omega);have hpos:=zU.2 H.ne;have h10:=(Cf hc).2.1;obtain⟨e1,e2⟩:=TR H.ne;obtain⟨i1,i2,_⟩:=H.duty hc;have h00:ix l (0:X)=O (EU l):=by have:=Ak l 0; rw[← kC,e1] at this; exact this
 obtain⟨sh,hsh⟩:=H.ship
 have chain:OA c l=O E:=by
  unfold OA;rw[DB hn,hc,zB,if_pos rfl];refine BE (fun n i=>Ha l c n (i:X)=O E) hlm (fun n=>by simp[Ha]) (fun n i h ih=> ?_) (zK _);have hs:=(DQ hc (H.inn _ (zF h))).2.1;have hq:(l[i].Ship !=(EU l).Ship)=G:=by rw[hsh _ (zF h),hsh _ (List.mem_of_head? e1)]; simp
  rw[Ha];simp only[Ae,h,decide_true,if_true,Af h,h00,zB,hq,zD,if_false,CK _ (show c.Segments.length≤1000 by omega),hs,An h hlm,ih];cases i with
  | zero=>rfl
  | succ i=>
   have hz:(((i+1:Z):X)==(0:X))=G:=beq_eq_false_iff_ne.2 (by omega)
   have ew:kY .i64 (((i+1:Z):X) - 1)=(i:X):=by
    rw[show((i+1:Z):X) - 1=(i:X) by omega];exact Aj (by omega) (by omega)
   have hi:i<l.length:=by omega
   have hs':=(DQ hc (H.inn _ (zF hi))).2.1;obtain⟨k1,k2⟩:=H.link i h;have hx:¬l[i+1].Start<l[i].End:=by omega
   simp only[hz,zD,if_false,Q9 hs,ew,Af hi,zB,Q9 hs',k1,bne_self_eq_false,hx,decide_false]
 unfold OJ OK;have hz:((l.length:X)==(0:X))=G:=beq_eq_false_iff_ne.2 (by omega);simp only[hz,zD,if_false,chain,zB,kX];refine BE (fun n i=>JC fl l c n (i:X)=O (CH c (EU l) (HH l),E)) hlm (fun n=> ?_) (fun n i h ih=> ?_) (zK _)
 ·have s1:=(DQ hc i1).2.1;have s2:=(DQ hc i2).2.1;rw[JC,if_neg (by simp),K2 hlm e2,zB,h00,zB,Q9 s1,zB,Q9 s2,zB];rfl
 ·rw[JC];simp only[Ae,h,decide_true,if_true,Af h,zB,dH hn hf hc hfl,H.inn _ (zF h),An h hlm,ih]
end
def BG(pl:Q X0):Q X1:=(BF pl).flatten
def FitP(h:X6)(pl:Q X0):Prop:=
 (BR h.Chart h.Fleet (BG pl)).length≤12∧(∃n:Z,Ci (Bb 0 h.Crew.Moves (BR h.Chart h.Fleet (BG pl))) (2 ^ (BR h.Chart h.Fleet (BG pl)).length - 1) n∧(n:X)≤h.Crew.Tugs)∧
  ∃n:Z,Ci (Bb h.Crew.Rest h.Crew.Moves (BV h.Chart pl)) (2 ^ (BV h.Chart pl).length - 1) n∧(n:X)≤h.Crew.Pilots
theorem bR{B:Z→Z→Y}{S n m:Z}(H:Ci B S n)(K:Ci B S m):n=m:=Nat.le_antisymm (H.2 _ K.1) (K.2 _ H.1)
def E4(h:X6)(pl:Q X0):Prop:=∀o∈pl,GoodP h.Chart h.Fleet o.Passages∧o.Passages.length≤1048576
theorem P9{h:X6}{pl:Q X0}(H:E4 h pl):∀p∈BG pl,Cc h.Chart h.Fleet p=E:=fun p hp=>by
 obtain⟨l,hl,hp⟩:=List.mem_flatten.1 hp;obtain⟨o,ho,rfl⟩:=kR.1 hl;exact(H o ho).1.inn p hp
theorem Vo{h:X6}{pl:Q X0}(hc:AH h.Chart=E)(H:E4 h pl):∀d∈BV h.Chart pl,Bq d=E:=fun d hd=>by
 obtain⟨o,ho,rfl⟩:=kR.1 hd;exact((H o ho).1.duty hc).2.2
theorem FitP.app{h:X6}{pl ql:Q X0}(hh:Bh h=E)(s:HSmall h)(H:E4 h (pl++ql))(hl:pl.length≤12)(F:FitP h (pl++ql)):FitP h pl:=by
 obtain⟨_,hc,_,_,hw⟩:=Gb hh;obtain⟨m1,m2⟩:=TK hw;have Hp:E4 h pl:=fun o ho=>H o (List.mem_append_left _ ho)
 have et:BR h.Chart h.Fleet (BG (pl++ql))=BR h.Chart h.Fleet (BG pl)++BR h.Chart h.Fleet (BG ql):=by simp[BG,BF,BR,List.flatMap_append]
 have ep:BV h.Chart (pl++ql)=BV h.Chart pl++BV h.Chart ql:=by simp[BV]
 obtain⟨f1,⟨n,f2,f3⟩,m,f4,f5⟩:=F;rw[et] at f1 f2
 rw[ep] at f4
 have l1:(BR h.Chart h.Fleet (BG pl)).length≤12:=by rw[zO] at f1; omega
 obtain⟨n',k1,_,_⟩:=KC (p:=0) s.mv l1 (VP hc (P9 Hp)) (by decide) m2;obtain⟨m',k2,_,_⟩:=KC (p:=h.Crew.Rest) s.mv (l:=BV h.Chart pl) (by simpa[BV] using hl) (Vo hc Hp) m1 m2;have q1:=bQ (by simp) (fun i j hi hj=>XY hi hj) k1 f2;have q2:=bQ (by simp) (fun i j hi hj=>XY hi hj) k2 f4;exact⟨l1,⟨n',k1,by omega⟩,m',k2,by omega⟩
theorem FitP.iff{h:X6}{pl:Q X0}{n m:Z}(h12:(BR h.Chart h.Fleet (BG pl)).length≤12)(k1:Ci (Bb 0 h.Crew.Moves (BR h.Chart h.Fleet (BG pl))) (2 ^ (BR h.Chart h.Fleet (BG pl)).length - 1) n)(k4:Ci (Bb h.Crew.Rest h.Crew.Moves (BV h.Chart pl)) (2 ^ (BV h.Chart pl).length - 1) m) :
  (n:X)≤h.Crew.Tugs∧(m:X)≤h.Crew.Pilots↔FitP h pl:=by
 constructor
 ·rintro⟨a,b⟩
  exact⟨h12,⟨n,k1,a⟩,m,k4,b⟩
 ·rintro⟨_,⟨n',a1,a2⟩,m',b1,b2⟩
  rw[bR k1 a1,bR k4 b1];exact⟨a2,b2⟩
theorem YI{h:X6}{pl:Q X0}(hl:pl.length≤12)(H:E4 h pl):(BG pl).length≤1000000000000:=by
 have:∀(ql:Q X0),(∀o∈ql,o.Passages.length≤1048576)→(BG ql).length≤ql.length*1048576:=by
  intro ql
  induction ql with
  | nil=>intro _; simp[BG,BF]
  | cons o ql ih=>
   intro h;have h1:=ih fun x hx=>h x (yH _ hx)
   have h2:=h o (yJ ..);have e:BG (o::ql)=o.Passages++BG ql:=rfl;rw[e,zO,kS];omega
 have:=this pl fun o ho=>(H o ho).2
 omega
theorem Yl{h:X6}(s:HSmall h)(hh:Bh h=E){pl:Q X0}(hl:pl.length≤12)(H:E4 h pl):∃b,GV h pl=O b∧(b=E↔FitP h pl):=by
 obtain⟨_,hc,hfl,_,hw⟩:=Gb hh;obtain⟨m1,m2⟩:=TK hw;have hlm:pl.length≤maxLen:=Ah (by omega)
 have key:=BE (fun n i=>∀v2 v3,v2.length≤i*1048576→v3.length=i→GW pl h n (i:X) v2 v3=(ND h.Chart h.Fleet (v2++BG (pl.drop i))).bind fun r12=>
   if r12.2 then(GU 0 h.Crew.Moves r12.1 h.Crew.Tugs).bind fun r14=>if r14 then(GU h.Crew.Rest h.Crew.Moves (v3++BV h.Chart (pl.drop i)) h.Crew.Pilots).bind fun r16=>O r16 else O G else O G) hlm
  (fun n v2 v3 h1 h2=>by rw[GW,if_neg (by simp)]; simp[BG,BF,BV]) (fun n i hi ih v2 v3 h1 h2=> ?_) (zK _) [] [] (by simp) rfl
 ·have key:GV h pl=_:=key;rw[key,yX,kG,kG,(eR s.pn s.fn hc hfl (Ah (YI hl H)) (P9 H)).2,zB];unfold I4;by_cases h12:(BR h.Chart h.Fleet (BG pl)).length≤12
  ·obtain⟨n,k1,_,k3⟩:=KC (p:=0) s.mv h12 (VP hc (P9 H)) (by decide) m2;obtain⟨m,k4,_,k6⟩:=KC (p:=h.Crew.Rest) s.mv (l:=BV h.Chart pl) (by simpa[BV] using hl) (Vo hc H) m1 m2;simp only[h12,if_true,k3,k6,zB];refine⟨decide ((n:X)≤h.Crew.Tugs)&&decide ((m:X)≤h.Crew.Pilots),by by_cases q:(n:X)≤h.Crew.Tugs<;>simp[q],?_⟩;simp only[zE,decide_eq_true_eq];exact FitP.iff h12 k1 k4
  ·simp only[h12,if_false];exact⟨G,zA,⟨(fun h=>by cases h),fun F=>absurd F.1 h12⟩⟩
 ·obtain⟨g1,g2⟩:=H _ (zF hi);obtain⟨e1,e2⟩:=TR g1.ne;obtain⟨i1,i2,_⟩:=g1.duty hc;have hz:(0:X)<(pl[i].Passages.length:X):=by have:=zU.2 g1.ne; omega
  have h00:ix pl[i].Passages (0:X)=O (EU pl[i].Passages):=by have:=Ak pl[i].Passages 0; rw[← kC,e1] at this; exact this
  rw[GW];simp only[Ae,hi,decide_true,if_true,Af hi,zB,hz,h00,K2 (Ah (by omega)) e2,ak (DQ hc i1).2.1 (DQ hc i2).2.1];rw[if_pos (QF (by omega) (by omega)),if_pos (B0 (by omega) (by simp) (by omega)),An hi hlm,ih _ _ (by simp; omega) (by simp; omega)];simp only[zW hi,BG,BF,BV,List.map_cons,List.flatten_cons,yL,List.singleton_append]
theorem A3o{h:X6}(s:HSmall h)(hh:Bh h=E){pl:Q X0}(hl:pl.length≤12)(H:E4 h pl):∃b,Ox h.Crew h.Chart h.Fleet (BF pl)=O b∧(b=E↔FitP h pl):=by
 obtain⟨_,hc,hfl,_,hw⟩:=Gb hh;obtain⟨m1,m2⟩:=TK hw;have hlm:pl.length≤maxLen:=Ah (by omega);obtain⟨m,k4,⟨w4,k5⟩,_⟩:=KC (p:=h.Crew.Rest) s.mv (l:=BV h.Chart pl) (by simpa[BV] using hl) (Vo hc H) m1 m2
 have pil:OL h.Crew h.Chart h.Fleet (BF pl)=O (m:X):=by
  unfold OL;rw[Vx s.mv,hw,zB,if_pos rfl];have hcl:(BF pl).length=pl.length:=by simp[BF]
  refine BE (fun n i=>∀v,v.length=i→v++BV h.Chart (pl.drop i)=BV h.Chart pl→Hc h.Fleet (BF pl) h.Crew h.Chart n (i:X) v=O (m:X)) hlm (fun n v h1 h2=> ?_) (fun n i hi ih v h1 h2=> ?_) (zK _) [] rfl (by simp)
  ·rw[Hc,if_neg (by rw[hcl]; simp)];have:v=BV h.Chart pl:=by simpa[BV] using h2
   rw[this,k5];rfl
  ·obtain⟨g1,g2⟩:=H _ (zF hi);have hi':i<(BF pl).length:=by omega
   have hg:(BF pl)[i]=pl[i].Passages:=by simp[BF]
   have hz:((pl[i].Passages.length:X)==(0:X))=G:=beq_eq_false_iff_ne.2 (by have:=zU.2 g1.ne; omega);rw[Hc];simp only[Ae,hi',decide_true,if_true,Af hi',hg,zB,hz,zD,if_false,A1j s.pn s.fn hc hfl (by omega) g1];rw[if_pos (B0 (by omega) (by simp) (by omega)),An hi hlm];exact ih _ (by simp; omega) (by rw[← h2,zW hi,yL]; rfl)
 have hT:∃t:X,LL h.Crew h.Chart h.Fleet (BG pl)=O t∧((0≤t∧t≤h.Crew.Tugs)∧(m:X)≤h.Crew.Pilots↔FitP h pl):=by
  unfold LL;rw[(eR s.pn s.fn hc hfl (Ah (YI hl H)) (P9 H)).1,zB,Vx s.mv,hw,zB,if_pos rfl];unfold I4;by_cases h12:(BR h.Chart h.Fleet (BG pl)).length≤12
  ·obtain⟨n,k1,⟨w1,k2⟩,_⟩:=KC (p:=0) s.mv h12 (VP hc (P9 H)) (by decide) m2;simp only[h12,if_true,k2,zB];exact⟨n,rfl,by rw[← FitP.iff h12 k1 k4]; constructor<;>(rintro⟨a,b⟩; exact⟨by omega,b⟩)⟩
  ·simp only[h12,if_false];exact⟨-1,zA,⟨(fun h=>by omega),fun F=>absurd F.1 h12⟩⟩
 obtain⟨t,t1,t2⟩:=hT
 have:=(sW (L:=Jt h.Fleet (BF pl) h.Crew h.Chart) (BF pl) (O ((decide (0≤t)&&decide (t≤h.Crew.Tugs))&&decide ((m:X)≤h.Crew.Pilots))) (by simp[BF]; omega) (fun x hx=>by
  obtain⟨o,ho,rfl⟩:=kR.1 hx
  exact(H o ho).2) (fun n i acc hi ha=>by
   have:(BF pl)[i].length≤1048576:=by
    obtain⟨o,ho,e⟩:=kR.1 (zF hi);rw[← e]; exact(H o ho).2
   have hcl:(BF pl).length=pl.length:=by simp[BF]
   rw[Jt];simp only[Ae,hi,decide_true,if_true,Af hi,zB]
   rw[if_pos (QF (by omega) (by omega))]) fun n=>by
    rw[Jt,if_neg (by simp)];have t1:LL h.Crew h.Chart h.Fleet (BF pl).flatten=O t:=t1;rw[t1,zB,By,zB,pil,zB,By];cases decide (0≤t)&&decide (t≤h.Crew.Tugs)<;>simp).1
 refine⟨_,this,?_⟩;rw[← t2];simp only[zE,decide_eq_true_eq]
theorem ng{l:Q X0}(h:l.length≤1000):L3 l=O l:=by
 unfold L3 BM;rw[if_pos ⟨by omega,by omega,by omega,by omega⟩];simp only[zB,Int.toNat_zero,List.replicate_zero,kG];rw[if_pos (by simp only[Ad,List.length_nil,decide_eq_true_eq]; omega)]
def Td(h:X6)(l:Q X0)(o:X0):Prop:=∀x∈l,BA h.Chart h.Regime x.Passages o.Passages=G
theorem sU{h:X6}(s:HSmall h)(hh:Bh h=E){l:Q X0}{o:X0}(hl:l.length≤11)(H:E4 h (l++ [o])):∃b,Nx h l o=O b∧(b=E↔Td h l o∧FitP h (l++ [o])):=by
 obtain⟨_,hc,_,hr,_⟩:=Gb hh;obtain⟨b,b1,b2⟩:=Yl s hh (pl:=l++ [o]) (by simp; omega) H;have Ho:=H o (by simp)
 have e:=Fp (L:=II l h o) l (fun x=>BA h.Chart h.Regime x.Passages o.Passages) (O G) (O b) (Ah (by omega)) (fun n i hi=>by
  have Hi:=H l[i] (List.mem_append_left _ (zF hi));rw[II]
  simp only[Ae,hi,decide_true,if_true,Af hi,zB,(Y8 hc hr Hi.1.inn Ho.1.inn (Ah (by omega)) (Ah (by omega))).2]) fun n=>by
   rw[II,if_neg (by simp),ng (by omega),zB,if_pos (B0 (by omega) (by simp) (by omega)),b1];rfl
 have e:Nx h l o=_:=e;rw[e];cases ha:l.any fun x=>BA h.Chart h.Regime x.Passages o.Passages with
 | true=>
  obtain⟨x,x1,x2⟩:=kP.1 ha;exact⟨G,zA,(fun h=>by cases h),fun K=>by rw[K.1 x x1] at x2; cases x2⟩
 | false=>
  refine⟨b,zA,b2.trans ⟨fun F=>⟨fun x hx=> ?_,F⟩,fun K=>K.2⟩⟩;have:=List.any_eq_false.1 ha x hx;simpa using this
theorem FitP.nil{h:X6}(hh:Bh h=E):FitP h []:=by
 have hw:=(Gb hh).2.2.2.2;simp only[Fv,zE,decide_eq_true_eq] at hw
 exact⟨by simp[BR,BG,BF],⟨0,V2,hw.1.1⟩,0,V2,hw.2.1.1⟩
theorem TB{m n:Z}(h:m+n≤140737488355328):Ft m n=E:=by
 unfold Ft;simp only[decide_eq_true_eq];omega
theorem dz{xs:Q Xc}(h:xs.length≤1048576):EM xs=O xs:=by
 unfold EM;rw[Es h (by omega)];have:=GH (L:=Ja xs) xs id (F1 h) (fun n i acc hi ha=>by simp[Ja,Ak,hi,ha,Ra]) (fun n acc=>by simp[Ja]) (zI xs.length ⟨0,0,0,0,0⟩) (by simp);simpa using this
theorem rK{xs:Q Xc}(h:xs.length≤maxLen):NH xs xs=O E:=by
 unfold NH;have:=E5 (L:=IT xs xs) xs (fun _=>E) h (fun n i hi=>by simp[IT,Ak,hi,R4]) (fun n=>by simp[IT]);simp[this]
theorem yx(P:Z→Z→Prop){len:Z}(h0:∀n,P (n+1) len)(hs:∀n i,i<len→P n (i+1)→P (n+1) i):∀k i n,i+k=len→k<n→P n i:=by
 intro k
 induction k with
 | zero=>
  intro i n h1 h2;obtain⟨q,rfl⟩:=sn (n:=n) (by omega);obtain rfl:i=len:=by omega
  exact h0 q
 | succ k ih=>
  intro i n h1 h2;obtain⟨q,rfl⟩:=sn (n:=n) (by omega);exact hs q i (by omega) (ih _ _ (by omega) (by omega))
theorem XX:∃m,bigN=m+1∧1000000000000<m:=⟨1208925819614629174706175,by rw[C7],by omega⟩
def QI(y:X9):Z:=(Er y).countP fun b=> !b
theorem oB{l:Q Y}:∀{n:Z},l[n]?=O G→((l.set n E).countP fun b=> !b)+1=l.countP fun b=> !b:=by
 induction l with
 | nil=>intro n h; simp at h
 | cons a l ih=>
  intro n h;cases n with
  | zero=>simp only[yY,zG] at h; subst h; simp
  | succ n=>
   simp only[List.getElem?_cons_succ] at h;have:=ih h;simp only[List.set_cons_succ,List.countP_cons];omega
theorem Ya{y:X9}{a:X}(h:ix (Er y) a=O G):QI (X9.set y (Int.toNat a) E)+1=QI y∧0≤a∧a<8:=by
 have hg:=Am h;have hl:(Er y).length=8:=rfl
 have ha:0≤a:=by
  unfold ix at h;split at h
  ·rename_i h1; exact h1
  ·cases h
 have hn:a.toNat<8:=by
  have:=(kL.1 hg).1;omega
 refine⟨?_,ha,by omega⟩;unfold QI;rw[dA y hn];exact oB hg
theorem TD{l:Q X}(h:l.length≤1000):Ec l=O l:=by
 unfold Ec BM;rw[if_pos ⟨by omega,by omega,by omega,by omega⟩];simp only[zB,Int.toNat_zero,List.replicate_zero,kG];rw[if_pos (by simp only[Ad,List.length_nil,decide_eq_true_eq]; omega)]
structure Lead (c:X3) (a:X) (rt l:Q X):Prop where
 r:RtOk c rt l
 hd:l[0]?=O a
 fr:∀i (h:i+1<l.length),((l.take (i+1)).any fun z=>z==l[i+1])=G
theorem Lead.snoc{c:X3}{a:X}{rt l:Q X}(H:Lead c a rt l){x:X}(hx:l.getLast?=O x){i:Z}(hi:i<c.Segments.length)(he:idx (BW c.Segments[i] x) c.Points.length=E)(hf:(l.any fun z=>z==BW c.Segments[i] x)=G) :
  Lead c a (rt++ [(i:X)]) (l++ [BW c.Segments[i] x]):=by
 have hlen:=H.r.len;have hsi:idx (i:X) c.Segments.length=E:=M3.2 ⟨by omega,by omega⟩;have hsg:Av c (i:X)=c.Segments[i]:=by unfold Av; rw[zP,zC hi]; rfl
 refine⟨⟨by simp; omega,fun y hy=> ?_,fun j hj=> ?_,fun j hj=> ?_⟩,by rw[zH (by omega)]; exact H.hd,fun j hj=> ?_⟩
 ·rcases zV.1 hy with hy|hy
  ·exact H.r.pt y hy
  ·rw[zS] at hy; subst hy; exact he
 ·by_cases h:j<rt.length
  ·rw[zM h]; exact H.r.seg j h
  ·rw[yI (by omega)]; simpa using hsi
 ·simp only[zO,zY] at hj
  by_cases h:j<rt.length
  ·obtain⟨y,y1,y2,y3⟩:=H.r.stp j h;rw[zM h];exact⟨y,by rw[zH (by omega)]; exact y1,by rw[zH (by omega)]; exact y2,y3⟩
  ·obtain rfl:j=rt.length:=by omega
   rw[yI (by omega)];simp only[Nat.sub_self,List.getElem_singleton,hsg];exact⟨x,by rw[zH (by omega),← hx,zX,hlen]; rfl,by rw[zT (by omega),hlen]; simp,(M3.1 he).1⟩
 ·simp only[zO,zY] at hj
  by_cases h:j+1<l.length
  ·rw[kH (by omega),zM h];exact H.fr j h
  ·have e:j+1=l.length:=by omega
   rw[yI (by omega)];simp only[e,Nat.sub_self,List.getElem_singleton];rw[kH (by omega),yF];exact hf
theorem Lead.points{c:X3}{a:X}{rt l:Q X}(hc:AH c=E)(hl:rt.length≤1000000)(H:Lead c a rt l):Hf c a rt=O (l,E):=by
 have hlen:=H.r.len;have h10:=(Cf hc).2.1
 have h1:l.take 1= [a]:=by
  have h0:=H.hd;cases l with
  | nil=>cases h0
  | cons x l=>simp only[yY,zG] at h0; subst h0; rfl
 unfold Hf;rw[← h1];refine BE (fun n i=>Ei rt c n (i:X) (l.take (i+1))=O (l,E)) (Ah (by omega)) (fun n=> ?_) (fun n i hi ih=> ?_) (zK rt.length)
 ·rw[Ei,if_neg (by simp),← hlen,yF]
 ·obtain⟨x,x1,x2,x3⟩:=H.r.stp i hi;have hi1:i+1<l.length:=by omega
  have hlast:(l.take (i+1)).getLast?=O x:=by
   rw[zX,List.length_take,Nat.min_eq_left (by omega),List.getElem?_take_of_lt (by omega)];simpa using x1
  rw[zC hi1,zG] at x2
  have hfr:=H.fr i hi1;rw[x2] at hfr
  have hneg:¬BW (Av c rt[i]) x<0:=by omega
  rw[Ei];simp only[Ae,hi,decide_true,if_true,Af hi,zB,CK _ (show c.Segments.length≤1000 by omega),H.r.seg i hi,(BL (H.r.seg i hi)).1,K2 (Ah (n:=(l.take (i+1)).length) (by simp; omega)) hlast,Vg,hneg,decide_false,zD,if_false,U9 (Ah (n:=(l.take (i+1)).length) (by simp; omega)),hfr,Hg];rw[if_pos (B0 (by simp; omega) (by simp) (by omega)),An hi (Ah (by omega)),← x2];rw[show l.take (i+1)++ [l[i+1]]=l.take (i+1+1) by rw[zJ hi1]];exact ih
theorem A8i{c:X3}(hc:AH c=E){a0:X}:∀(u n:Z) (a b:X) (rt pts:Q X) (y:X9) (out:Q (Q X)),u<n→QI y≤u→ix (Er y) a=O G→Met (X9.set y a.toNat E) pts→pts.getLast?=O a→Lead c a0 rt pts→rt.length+u≤100→out.length+10 ^ u≤100000000→
  ∃r,GM n c a b rt y out=O r∧Hj n c pts rt b out=O r∧r.length≤out.length+10 ^ u∧∀x∈r,x∈out∨(x.length≤100∧∃p,Lead c a0 x p∧p.getLast?=O b):=by
 obtain⟨_,hs10,_,_⟩:=Cf hc;intro u
 induction u with
 | zero=>
  intro n a b rt pts y out hn hu hi;have:=(Ya hi).1;omega
 | succ u ih=>
  intro n a b rt pts y out hn hu hi hm hla hL hr ho;obtain⟨q,rfl⟩:=sn (n:=n) (by omega);obtain⟨hc1,ha0,ha8⟩:=Ya hi;have hp:10 ^ (u+1)=10*10 ^ u:=by rw[Nat.pow_succ]; omega
  have hp1:0<10 ^ u:=kK (by omega);have hpl:=hL.r.len;rw[GM,QQ,Hj,Ry,K2 (Ah (by omega)) hla,zB];by_cases hab:(a==b)=E
  ·have e:a=b:=by simpa using hab
   rw[if_pos hab,if_pos hab,TD (by omega),zB,if_pos (B0 (by omega) (by simp) (by omega)),if_pos (B0 (by simp) (by omega) (by omega))];refine⟨_,zA,zA,by simp; omega,fun x hx=> ?_⟩;rcases zV.1 hx with hx|hx
   ·exact Or.inl hx
   ·simp only[zS] at hx; subst hx; exact Or.inr ⟨by omega,pts,hL,e▸hla⟩
  ·rw[if_neg hab,if_neg hab,if_pos (by simp; omega)];generalize hy:X9.set y (Int.toNat a) E=y' at hm
   have hy':(⟨y'.i0,y'.i1,y'.i2,y'.i3,y'.i4,y'.i5,y'.i6,y'.i7⟩:X9)=y':=rfl;rw[hy'];rw[hy] at hc1
   obtain⟨r,e1,e2,e3,e4⟩:=BE (fun m i=>∀o:Q (Q X),o.length≤out.length+i*10 ^ u→(∀x∈o,x∈out∨(x.length≤100∧∃p,Lead c a0 x p∧p.getLast?=O b))→
     ∃r,GL (GM q) a b rt c y' m (i:X) o=O r∧Hh (Hj q) pts rt b a c m (i:X) o=O r∧r.length≤out.length+c.Segments.length*10 ^ u∧∀x∈r,x∈out∨(x.length≤100∧∃p,Lead c a0 x p∧p.getLast?=O b)) (Ah (n:=c.Segments.length) (by omega))
    (fun m o hl hx=>⟨o,by simp[GL],by simp[Hh],hl,hx⟩) (fun m i hlt ihk o hl hx=>by
     have hsucc:(i+1)*10 ^ u=i*10 ^ u+10 ^ u:=Nat.succ_mul i _;have hle:i*10 ^ u≤9*10 ^ u:=Nat.mul_le_mul_right _ (by omega);rw[GL,Hh];simp only[Ae,hlt,decide_true,if_true,Af hlt,zB,TQ,Vg];have he:=Yp hc (zF hlt) a;have hE:∃e,BW c.Segments[i] a=e:=⟨_,rfl⟩;obtain⟨e,hE⟩:=hE;rw[hE] at he ⊢
     by_cases h0:0≤e
     ·have hei:=he.resolve_left (by omega);have he':=M3.1 hei;have hp8:=(Cf hc).1;have hd:(decide (0≤e)&&decide (e<8))=E:=by simp; omega
      have hmE:=hm e h0 (by omega);have hmE':=hmE;unfold Er at hmE'
      simp only[h0,decide_true,if_true,U9 (Ah (n:=pts.length) (by omega)),zB];rw[if_pos (by simp; omega),hmE',zB];cases hb:pts.any fun z=>z==e with
      | true=>
       simp only[Im,JN,kX,zD,if_false,An hlt (Ah (n:=c.Segments.length) (by omega))];exact ihk o (by omega) hx
      | false=>
       simp only[Im,JN,Bool.not_false,if_true,An hlt (Ah (n:=c.Segments.length) (by omega))];rw[TD (by omega),zB,if_pos (B0 (by omega) (by simp) (by omega)),if_pos (B0 (by simp) (by omega) (by omega)),if_pos (B0 (by omega) (by simp) (by omega)),if_pos (B0 (by simp) (by omega) (by omega)),if_pos (B0 (by omega) (by simp) (by omega))];rw[hb] at hmE
       obtain⟨r,e1,e2,e3,e4⟩:=ih q e b (rt++ [(i:X)]) (pts++ [e]) y' o (by omega) (by omega) hmE (hm.snoc h0 (by omega)) (by simp) (by have:=hL.snoc hla hlt (by rw[hE]; exact hei) (by rw[hE]; exact hb); rw[hE] at this; exact this) (by simp; omega) (by omega);rw[e1,e2,zB,zB]
       exact ihk r (by omega) fun x h=>by
        rcases e4 x h with h|h
        ·exact hx x h
        ·exact Or.inr h
     ·simp only[h0,decide_false,zD,if_false,Im,JN,An hlt (Ah (n:=c.Segments.length) (by omega))];exact ihk o (by omega) hx) (zK _) out (by omega) fun x hx=>Or.inl hx
   have hle:c.Segments.length*10 ^ u≤10*10 ^ u:=Nat.mul_le_mul_right _ hs10;exact⟨r,e1,e2,by omega,e4⟩
theorem mp{c:X3}(hc:AH c=E){a b:X}(ha:idx a c.Points.length=E)(hb:idx b c.Points.length=E):∃r,ON c a b=O r∧Ni c a b=O r∧r.length≤100000000∧∀x∈r,x.length≤100∧∃p,Lead c a x p∧p.getLast?=O b:=by
 have hp8:=(Cf hc).1;have hn:=(Cf hc).2.2.1;have ha':=M3.1 ha
 have hi:ix (Er ⟨G,G,G,G,G,G,G,G⟩) a=O G:=by
  obtain⟨n,rfl⟩:∃n:Z,a=(n:X):=⟨a.toNat,by omega⟩;have:n=0∨n=1∨n=2∨n=3∨n=4∨n=5∨n=6∨n=7:=by omega
  rcases this with rfl|rfl|rfl|rfl|rfl|rfl|rfl|rfl<;>rfl
 have m0:Met ⟨G,G,G,G,G,G,G,G⟩ []:=fun x x0 x8=>by
  obtain⟨n,rfl⟩:∃n:Z,x=(n:X):=⟨x.toNat,by omega⟩;have:n=0∨n=1∨n=2∨n=3∨n=4∨n=5∨n=6∨n=7:=by omega
  rcases this with rfl|rfl|rfl|rfl|rfl|rfl|rfl|rfl<;>rfl
 obtain⟨r,e1,e2,e3,e4⟩:=A8i hc (a0:=a) 8 bigN a b [] [a] ⟨G,G,G,G,G,G,G,G⟩ [] (by rw[C7]; omega) (by decide) hi (m0.snoc ha'.1 (by omega)) rfl ⟨⟨rfl,by simpa using ha,fun i h=>by simp at h,fun i h=>by simp at h⟩,rfl,fun i h=>by simp at h⟩ (by simp) (by simp);refine⟨r,?_,?_,by simpa using e3,fun x hx=>(e4 x hx).resolve_left (by simp)⟩
 ·unfold ON TX;simp only[DB hn,hc,zB,if_true,CK _ (show c.Points.length≤1000 by omega),ha,hb,e2]
 ·unfold Ni TT;simp only[EW hn,hc,zB,if_true,En,ha,hb,e1]
theorem mn{c:X3}(hc:AH c=E){a b:X}(ha:idx a c.Points.length=E)(hb:idx b c.Points.length=E):∃rt q,Oo c a b=O (rt,q)∧MX c a b=O (rt,q)∧(q=G→rt= [])∧(q=E→rt.length≤100∧∃p,Lead c a rt p∧p.getLast?=O b):=by
 obtain⟨r,e1,e2,e3,e4⟩:=mp hc ha hb;unfold Oo MX;rw[e1,e2,zB,zB];cases hr0:r with
 | nil=>exact⟨[],G,by obtain⟨m,hm,_⟩:=XX; rw[hm]; rfl,rfl,fun _=>rfl,fun h=>by cases h⟩
 | cons r0 rs=>
  rw[← hr0];have hpos:0<r.length:=by rw[hr0]; simp
  have hz:((r.length:X)==(0:X))=G:=beq_eq_false_iff_ne.2 (by omega);have h00:ix r (0:X)=O r0:=by rw[hr0]; rfl
  have hm0:r0∈r:=by rw[hr0]; simp
  have hlm:r.length≤maxLen:=Ah (by omega);rw[hz,if_neg (by simp),h00,zB]
  have rm:∀x∈r,∃m,Hd c x=O m∧GS c x=O m:=fun x hx=>by
   obtain⟨h1,p,h2,_⟩:=e4 x hx;obtain⟨m,m1,m2,_⟩:=cn hc (rt:=x) (by omega) h2.r.seg;exact⟨m,m1,m2⟩
  have key:=yx (fun n i=>∀v∈r,∃rt∈r,FU r c n v E (i:X)=O (rt,E)∧Fw r c n v (i:X)=O (rt,E)) (len:=r.length)
   (fun n v hv=>⟨v,hv,by simp[FU],by simp[Fw]⟩) (fun n i hi ih v hv=>by
    obtain⟨m1,g1,g2⟩:=rm _ (zF hi);obtain⟨m2,g3,g4⟩:=rm v hv;rw[FU,Fw];simp only[Ae,hi,decide_true,if_true,Af hi,zB,g1,g2,g3,g4,An hi hlm,Lv];by_cases hlt:m1<m2
    ·simp only[hlt,decide_true,if_true];exact ih _ (zF hi)
    ·simp only[hlt,decide_false,zD,if_false];exact ih v hv)
  obtain⟨m,hm,hm1⟩:=XX;obtain⟨rt,hrt,k1,k2⟩:=key (r.length - 1) 1 m (by omega) (by omega) r0 hm0;obtain⟨m1,g1,g2⟩:=rm r0 hm0;refine⟨rt,E,?_,?_,(fun h=>by cases h),fun _=>e4 rt hrt⟩
  ·rw[hm,FU];have hd:(decide ((0:X)<(r.length:X)))=E:=by simp; omega
   simp only[hd,if_true,h00,zB,zD,if_false,Lv];exact k1
  ·rw[hm,Fw];have hd:(decide ((0:X)<(r.length:X)))=E:=by simp; omega
   simp only[hd,if_true,h00,zB,g2,show ¬m1<m1 by omega,decide_false,zD,if_false];exact k2
def I6(h:X6)(o:X0):Prop:=(GoodP h.Chart h.Fleet o.Passages∧o.Passages.length≤1048576)∧0≤o.Cost∧o.Cost≤2880
theorem AtOk.optG{h:X6}{a:Xc}{rt:Q X}{st:X}{o:X0}(hh:Bh h=E)(hl:rt.length≤100)(H:AtOk h a rt st o)(h1:0≤o.Cost)(h2:o.Cost≤2880):I6 h o:=by
 obtain⟨ha,pts,l,hr,S,hp⟩:=H
 have e:rt=o.Passages.map fun p=>p.Segment:=by
  refine List.ext_getElem (by simp[hp.1]) fun i g1 g2=> ?_
  obtain⟨x,y,_,_,_,_,q⟩:=hp.2 i g1 g1;simp only[List.length_map] at g2
  rw[zC g2,zG] at q
  simp[q]
 have hlen:=hp.1;subst e;exact⟨⟨AtOk.good hh ⟨ha,pts,l,hr,S,hp⟩,by omega⟩,h1,h2⟩
theorem cI{h:X6}(s:HSmall h)(hh:Bh h=E){a:Xc}(ha:Cl h a=E):∃L,OG h a=O L∧DE h a=O L∧L.length≤8∧∀o∈L,I6 h o:=by
 obtain⟨hf,hc,hfl,_,_⟩:=Gb hh;have ha':=ha;simp only[Cl,Ca,zE,decide_eq_true_eq] at ha'
 obtain⟨q1,q2,q3,q4,⟨q5,q6⟩,q7,q8⟩:=ha';obtain⟨s1,s2⟩:=JZ q1;have hso:=(Pa hfl).2 _ s2;have hsn:=s.fn _ s2;obtain⟨rt,q,b1,b2,b3,b4⟩:=mn hc q2 q3;have nil_:∃L,O ([]:Q X0)=O L∧O ([]:Q X0)=O L∧L.length≤8∧∀o∈L,I6 h o:=⟨[],rfl,rfl,by simp,fun o h=>by cases h⟩;unfold OG DE;simp only[SL s,UH s,hh,ha,Bool.and_self,zB,if_true,b1,b2];cases q with
 | false=>
  rw[b3 rfl];obtain⟨pts,bb,g1,g2,g3,g4,_,_⟩:=co hc (rt:= []) (a:=a.From) (by simp)
  have hv:∃v,ID h a []=O v:=by
   unfold ID;rw[g4,zB];split
   ·exact⟨_,zA⟩
   ·have hl:pts.length≤1:=by
     have:=g4;obtain⟨p,b',e1,e2,e3,e4⟩:=cT hc q2 (rt:= []) (by simp);have hn:=(Cf hc).2.2.1;unfold Eb at this
     rw[EW hn,hc,zB,if_pos rfl,e2,zB,zG] at this
     subst this;cases b' with
     | false=>rw[e3 rfl]; simp
     | true=>rw[(e4 rfl).len]; simp
    rename_i hne
    have:∃x,pts.getLast?=O x:=by
     cases hp:pts.getLast? with
     | none=>rw[kM] at hp; rw[hp] at hne; simp at hne
     | some x=>exact⟨x,rfl⟩
    obtain⟨x,hx⟩:=this;rw[K2 (Ah (by omega)) hx,zB];unfold L2;split
    ·exact⟨_,zA⟩
    ·rw[s1,zB]
     have:∃w,IN h.Forecast h.Chart (AR h.Fleet a.Ship) a.From []=O w:=by
      unfold IN;simp only[Pq,HC hsn,hf,hso,g2,zB,if_true];split<;>exact⟨_,rfl⟩
     obtain⟨w,hw⟩:=this;rw[hw];exact⟨_,zA⟩
  obtain⟨v,hv⟩:=hv;simp only[hv,zB,zD,if_false];exact nil_
 | true=>
  obtain⟨hl,p,P,hp⟩:=b4 rfl;obtain⟨pts,bb,g1,g2,g3,g4,g5,g6⟩:=co hc (rt:=rt) (a:=a.From) (by omega)
  have hpts:bb=E∧pts=p:=by
   have e:=P.points hc (by omega);have hn:=(Cf hc).2.2.1;have h8:=(Cf hc).1;unfold EQ at g1
   simp only[DB hn,hc,zB,if_true,CK _ (show h.Chart.Points.length≤1000 by omega),q2,e,zG] at g1
   subst g1;unfold FZ EQ at g3
   simp only[DB hn,hc,zB,if_true,CK _ (show h.Chart.Points.length≤1000 by omega),q2,e,zG] at g3
   exact⟨zA,g3.symm⟩
  obtain⟨rfl,rfl⟩:=hpts;have hr:=g6 rfl;have hpl:=hr.len
  have h0:rt≠ []:=fun e=>by
   subst e;have hd:=P.hd;rw[zX,hpl] at hp
   rw[show([]:Q X).length+1 - 1=0 from rfl,hd] at hp
   exact q4 (kW hp)
  obtain⟨v,v1,V⟩:=A56 hf hc hso hsn (by omega) hr h0 g2 g4;have hz:((pts.length:X)==(0:X))=G:=beq_eq_false_iff_ne.2 (by omega)
  have hcv:ID h a rt=O (v,E):=by
   unfold ID;simp only[g4,zB,hz,zD,if_false,K2 (Ah (by omega)) hp,bne_self_eq_false,L2,s1,v1]
  simp only[hcv,zB,if_true,s1,V.st,g3]
  have key:∀(k n:Z) (m:X) (acc:Q X0),2880<m+15*(k:X)→k<n→a.Ready≤m→m≤2880+15→acc.length≤8→(∀o∈acc,I6 h o)→
    ∃L,FY (rt,E) h a (AR h.Fleet a.Ship) v.sure pts n m acc=O L∧EI (rt,E) h a (v,E) n m acc=O L∧L.length≤8∧∀o∈L,I6 h o:=by
   intro k
   induction k with
   | zero=>
    intro n m acc h1 h2 h3 h4 h5 h6;obtain⟨q,rfl⟩:=sn (n:=n) (by omega);have:¬m≤a.Due:=by omega
    exact⟨acc,by simp[FY,this],by simp[EI,this],h5,h6⟩
   | succ k ih=>
    intro n m acc h1 h2 h3 h4 h5 h6;obtain⟨q,rfl⟩:=sn (n:=n) (by omega);rw[FY,EI];by_cases hd:m≤a.Due
    ·by_cases h8:(acc.length:X)<8
     ·have hw:kY .i64 (m+15)=m+15:=Aj (by omega) (by omega);obtain⟨l,b,c1,c2,c3⟩:=A04 ha hc hso hsn (by omega) V g1 g2 g3 g4 h3 (by omega);simp only[hd,h8,decide_true,if_true,c1,zB];cases b with
      | false=>
       obtain⟨o,o1⟩:=c2 rfl;simp only[o1,zB,zD,if_false,JA,GR,hw];exact ih q _ acc (by omega) (by omega) (by omega) (by omega) h5 h6
      | true=>
       obtain⟨o,o1,o2,o3,_,o4,o5,_⟩:=c3 rfl;simp only[o1,o2,zB,if_true,JA,GR,hw];rw[if_pos (B0 (by omega) (by simp) (by omega)),if_pos (B0 (by omega) (by simp) (by omega))]
       exact ih q _ _ (by omega) (by omega) (by omega) (by omega) (by simp; omega) fun x hx=>by
        rcases zV.1 hx with hx|hx
        ·exact h6 x hx
        ·rw[zS] at hx; subst hx; exact o3.optG hh hl o4 o5
     ·simp only[hd,h8,decide_true,decide_false,if_true,zD,if_false];exact⟨acc,zA,zA,h5,h6⟩
    ·simp only[hd,decide_false,zD,if_false];exact⟨acc,zA,zA,h5,h6⟩
  exact key 200 bigN a.Ready [] (by omega) (by rw[C7]; omega) (Int.le_refl _) (by omega) (by simp) fun o h=>by cases h
structure CallsGood (h:X6) (cs:Q Xc):Prop where
 ok:∀a∈cs,Cl h a=E
 six:cs.length≤6
def CP(l:Q X0):X:=(l.map X0.Cost).sum
def T5(l:Q X0):Prop:=∀o∈l,0≤o.Cost∧o.Cost≤2880
theorem VB{l:Q X0}(h:T5 l):0≤CP l∧CP l≤2880*(l.length:X):=by
 induction l with
 | nil=>simp[CP]
 | cons x l ih=>
  have:=h x (by simp);have:=ih fun o ho=>h o (by simp[ho])
  simp only[CP,List.map_cons,List.sum_cons,kS] at *
  omega
theorem SM(l:Q X0)(o:X0):CP (l++ [o])=CP l+o.Cost:=by simp[CP]
theorem ny{l:Q X0}(hl:l.length≤1000)(h:T5 l):N0 l=O (CP l):=by
 have key:∀(k i n:Z),i+k=l.length→k<n→Ip l n (CP (l.take i)) (i:X)=O (CP l):=by
  intro k
  induction k with
  | zero=>
   intro i n hi hn;obtain⟨q,rfl⟩:=sn (n:=n) (by omega);have:i=l.length:=by omega
   subst this;rw[yF];simp[Ip]
  | succ k ih=>
   intro i n hi hn;obtain⟨q,rfl⟩:=sn (n:=n) (by omega);have hlt:i<l.length:=by omega
   have b1:=VB (l:=l.take i) fun o ho=>h o (List.mem_of_mem_take ho)
   have b2:=h _ (zF hlt);have b3:((l.take i).length:X)≤1000:=by simp only[List.length_take]; omega
   have e:=ih (i+1) q (by omega) (by omega);rw[zJ hlt,SM] at e
   rw[Ip];simp only[Ae,hlt,decide_true,if_true,Af hlt,zB,An hlt (Ah (by omega))];rw[Aj (by omega) (by omega)];exact e
 exact key l.length 0 bigN (by omega) (Bm (Ah (by omega)))
structure Fnd where
 f:Y
 b:Q X
 w:Xk
def wl(a b:Xk):Y:=decide (a.i0<b.i0) || (decide (a.i0=b.i0)&&decide (a.i1<b.i1))
def HU(A:Fnd)(ch:Q X)(w:Xk):Fnd:=if(A.f&& !wl w A.w)=E then A else⟨E,ch,w⟩
def CI(h:X6)(pl:Q X0):Y:=(GV h pl).getD G
def Db(h:X6)(pl:Q X0)(o:X0):Y:= !(pl.any fun x=>BA h.Chart h.Regime x.Passages o.Passages)
def CW(F:X0→X→Fnd→Fnd):Q X0→Z→Fnd→Fnd
 | [],_,A=>A
 | o::l,n,A=>CW F l (n+1) (F o (n:X) A)
def AX(h:X6)(wv:Q X0→Xk):Q (Q X0)→Q X0→Q X→Fnd→Fnd
 | [],pl,ch,A=>if CI h pl=E then HU A ch (wv pl) else A
 | l::ls,pl,ch,A=>CW (fun o n A=>if Db h pl o=E then AX h wv ls (pl++ [o]) (ch++ [n]) A else A) l 0 A
theorem TP{F:X0→X→Fnd→Fnd}{A:Fnd}:∀{l:Q X0} {n:Z},(∀o∈l,∀n,F o n A=A)→CW F l n A=A:=by
 intro l
 induction l with
 | nil=>intro n _; rfl
 | cons o l ih=>
  intro n H;rw[CW,H o (yJ ..)];exact ih fun x hx=>H x (yH _ hx)
section
variable {h : X6} {cs : Q Xc} {os : Q (Q X0)}
def GoodC(h:X6)(pl:Q X0):Prop:=∀o∈pl,I6 h o
theorem GoodC.pl{pl:Q X0}(H:GoodC h pl):E4 h pl:=fun o ho=>(H o ho).1
theorem GoodC.cost{pl:Q X0}(H:GoodC h pl):T5 pl:=fun o ho=>(H o ho).2
theorem GoodC.snoc{pl:Q X0}{o:X0}(H:GoodC h pl)(ho:I6 h o):GoodC h (pl++ [o]):=fun x hx=>by
 rcases zV.1 hx with hx|hx
 ·exact H x hx
 ·rw[zS] at hx; subst hx; exact ho
theorem LU(s:HSmall h)(hh:Bh h=E){pl:Q X0}(hl:pl.length≤12)(H:E4 h pl):GV h pl=O (CI h pl)∧(CI h pl=E↔FitP h pl):=by
 obtain⟨b,b1,b2⟩:=Yl s hh hl H;have:CI h pl=b:=by unfold CI; rw[b1]; rfl
 rw[this];exact⟨b1,b2⟩
theorem oF(s:HSmall h)(hh:Bh h=E){pl:Q X0}(hl:pl.length≤12)(H:E4 h pl):Ox h.Crew h.Chart h.Fleet (BF pl)=O (CI h pl):=by
 obtain⟨b,b1,b2⟩:=A3o s hh hl H;have:b=CI h pl:=by rw[zR,b2,(LU s hh hl H).2]
 rw[b1,this]
theorem A3w(s:HSmall h)(hh:Bh h=E){wv:Q X0→Xk}:∀(ls:Q (Q X0)) (pl:Q X0) (ch:Q X) (A:Fnd),(∀l∈ls,GoodC h l)→GoodC h pl→pl.length+ls.length≤12→CI h pl=G→AX h wv ls pl ch A=A:=by
 intro ls
 induction ls with
 | nil=>intro pl ch A _ _ _ hf; rw[AX,if_neg (by rw[hf]; simp)]
 | cons l ls ih=>
  intro pl ch A hg hp hl hf;simp only[kS] at hl
  rw[AX];refine TP fun o ho n=> ?_
  have ho':=hg l (yJ ..) o ho;split
  ·refine ih _ _ _ (fun l hm=>hg l (yH _ hm)) (hp.snoc ho') (by simp; omega) ?_;cases e:CI h (pl++ [o]) with
   | false=>rfl
   | true=>
    have F:=(LU s hh (by simp; omega) (hp.snoc ho').pl).2.1 e;have:=(LU s hh (by omega) hp.pl).2.2 (FitP.app hh s (hp.snoc ho').pl (by omega) F);rw[hf] at this
    cases this
  ·rfl
theorem A8w{a b c:Xk}(h1:wl a b=G)(h2:wl b c=G):wl a c=G:=by
 simp only[wl,Bool.or_eq_false_iff,Bool.and_eq_false_iff,decide_eq_false_iff_not] at *
 omega
def EG(h:X6)(os:Q (Q X0)):Q (Q (Q (Q Y))):=os.map fun a=>os.map fun b=>a.map fun o=>b.map fun p=>BA h.Chart h.Regime o.Passages p.Passages
theorem nb(hh:Bh h=E)(h6:os.length≤6)(h8:∀l∈os,l.length≤8)(hg:∀l∈os,GoodC h l):P6 h os=O (EG h os):=by
 obtain⟨_,hc,_,hr,_⟩:=Gb hh;unfold P6;refine Gr (L:=Do os h) os (fun a=>os.map fun b=>a.map fun o=>b.map fun p=>BA h.Chart h.Regime o.Passages p.Passages) O (Ah (by omega)) (fun n i acc hi ha=> ?_) fun n acc _=>by rw[Do,if_neg (by simp)]
 rw[Do];simp only[Ae,hi,decide_true,if_true,Af hi,zB];have g1:=h8 _ (zF hi);refine(Gr (L:=Ek os os[i] (i:X) h acc (Do os h n)) os (fun b=>os[i].map fun o=>b.map fun p=>BA h.Chart h.Regime o.Passages p.Passages) (fun v=>if Ad acc.length [v].length 24=E then Do os h n (kY .i64 ((i:X)+1)) (acc++ [v]) else none) (Ah (by omega)) (fun n2 j ac2 hj ha2=> ?_) fun n2 ac2 _=>by rw[Ek,if_neg (by simp)]).trans (by rw[if_pos (B0 (by omega) (by simp) (by omega))]);rw[Ek];simp only[Ae,hj,decide_true,if_true,Af hj,zB];have g2:=h8 _ (zF hj);refine(Gr (L:=G7 os os[i] os[j] (i:X) (j:X) h acc ac2 (Ek os os[i] (i:X) h acc (Do os h n) n2)) os[i] (fun o=>os[j].map fun p=>BA h.Chart h.Regime o.Passages p.Passages) (fun v=>if Ad ac2.length [v].length 24=E then Ek os os[i] (i:X) h acc (Do os h n) n2 (kY .i64 ((j:X)+1)) (ac2++ [v]) else none) (Ah (by omega)) (fun n3 k ac3 hk ha3=> ?_) fun n3 ac3 _=>by rw[G7,if_neg (by simp)]).trans (by rw[if_pos (B0 (by omega) (by simp) (by omega))]);rw[G7];simp only[Ae,hk,decide_true,if_true,Af hk,zB];have o1:=(hg _ (zF hi) _ (zF hk)).1;refine(Gr (L:=JS os os[i] os[j] (i:X) (j:X) (k:X) h os[i][k] acc ac2 ac3 (G7 os os[i] os[j] (i:X) (j:X) h acc ac2 (Ek os os[i] (i:X) h acc (Do os h n) n2) n3)) os[j] (fun p=>BA h.Chart h.Regime os[i][k].Passages p.Passages) (fun v=>if Ad ac3.length [v].length 24=E then G7 os os[i] os[j] (i:X) (j:X) h acc ac2 (Ek os os[i] (i:X) h acc (Do os h n) n2) n3 (kY .i64 ((k:X)+1)) (ac3++ [v]) else none) (Ah (by omega)) (fun n4 m ac4 hm ha4=> ?_) fun n4 ac4 _=>by rw[JS,if_neg (by simp)]).trans (by rw[if_pos (B0 (by omega) (by simp) (by omega))]);have o2:=(hg _ (zF hj) _ (zF hm)).1;rw[JS];simp only[Ae,hm,decide_true,if_true,Af hm,zB,(Y8 hc hr o1.1.inn o2.1.inn (Ah (by omega)) (Ah (by omega))).1];rw[if_pos (B0 (by omega) (by simp) (by omega))]
def Chos(os:Q (Q X0))(pl:Q X0)(ch:Q X):Prop:=pl.length=ch.length∧∀i (h:i<pl.length),∃(l:Q X0) (c:Z),os[i]?=O l∧ch[i]?=O (c:X)∧l[c]?=O pl[i]
theorem Chos.snoc{pl:Q X0}{ch:Q X}(H:Chos os pl ch){l:Q X0}(hl:os[pl.length]?=O l){i:Z}(hi:i<l.length):Chos os (pl++ [l[i]]) (ch++ [(i:X)]):=by
 obtain⟨h1,h2⟩:=H;refine⟨by simp; omega,fun j hj=> ?_⟩;simp only[zO,zY] at hj
 by_cases h:j<pl.length
 ·obtain⟨l',c,c1,c2,c3⟩:=h2 j h;exact⟨l',c,c1,by rw[zH (by omega)]; exact c2,by rw[zM h]; exact c3⟩
 ·obtain rfl:j=pl.length:=by omega
  exact⟨l,i,hl,by rw[h1,zT (by omega)]; simp,by rw[yI (by omega),zC hi]; simp⟩
theorem bV(a b:Xk):NF a b=O (wl a b):=by
 unfold NF wl;by_cases h1:a.i0<b.i0
 ·simp[h1]
 ·by_cases h2:a.i0=b.i0
  ·simp[h2]
  ·simp[h1,h2]
theorem cE{pl:Q X0}{o:X0}:Db h pl o=E↔Td h pl o:=by
 simp only[Db,Td,Bool.not_eq_true',List.any_eq_false];exact⟨fun H x hx=>by simpa using H x hx,fun H x hx=>by simpa using H x hx⟩
end
theorem qj{F:X0→X→Fnd→Fnd}(p:Fnd→Prop)(H:∀o n A,p A→p (F o n A)):∀(l:Q X0) (n:Z) (A:Fnd),p A→p (CW F l n A):=by
 intro l
 induction l with
 | nil=>intro n A h; exact h
 | cons o l ih=>intro n A h; exact ih _ _ (H _ _ _ h)
theorem nQ{m n:Z}(h:m+n≤140737488355328):Ft m n=E:=by
 unfold Ft;rw[decide_eq_true_eq];omega
theorem ifc{α:Type}{m n:Z}(h:m+n≤140737488355328)(x y:α):(if Ft m n=E then x else y)=x:=by rw[if_pos (nQ h)]
end Go.Vi
