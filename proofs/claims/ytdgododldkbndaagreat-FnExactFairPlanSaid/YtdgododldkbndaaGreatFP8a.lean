/-
Plain laws. No condition.
-/
import Derived.Test.YtdgododldkbndaaGreatFNf
import Derived.Test.YtdgododldkbndaaGreatFVi33
import Derived.KernelRfl
namespace Go.Vi
set_option linter.all false
open Option renaming bind_some → X, some → G
open List renaming getElem?_eq_getElem → Y, getElem_mem → I, replicate → zA, range → zB, take_succ_eq_append_getElem → zH, getElem_append_left → zJ, getElem?_set_ne → zL, all_eq_true → zM, getElem?_set_self → zN, length_append → zO, mem_singleton → zP, range' → zQ, length_singleton → zS, getElem_of_mem → zX, mem_append → zZ, getElem?_map → yE, map → yG, getElem_set_self → yH, foldr_cons → yI, flatten_append → yJ, range'_succ → yL, take_length → yM, mem_range → yP
open Bool renaming and_eq_true → Z, false_eq_true → C, true_and → zC, eq_iff_iff → zE, or_eq_true → yO, true → F, false → E
open Int renaming toNat_natCast → zD, tdiv → zF, tmod_eq_emod_of_nonneg → zW, tmod → yB
open Nat renaming mod_two_eq_zero_or_one → zG, lt_or_ge → zI, lt_trans → zK, testBit_or → zR, pow_le_pow_right → zT, eq_of_testBit_eq → zU, pow_lt_pow_right → zV, testBit_and → zY, lt_of_lt_of_le → yA, mul_le_mul → yC, or_lt_two_pow → yD, le_refl → yF, lt_of_le_of_lt → yK, and_div_two → yN
open IntKind renaming wrap → yQ
open _root_ renaming List → H, Option → O, Int → P, Bool → Q, Nat → U, UInt8 → V
def AG(a b:U):U:=a ^^^ (a &&& b)
theorem ER(a b i:U):(AG a b).testBit i=(a.testBit i&& !b.testBit i):=by
 simp only[AG,Nat.testBit_xor,zY];cases a.testBit i<;>cases b.testBit i<;>rfl
theorem Jk(n i:U):(2 ^ n).testBit i=decide (n=i):=Nat.testBit_two_pow
theorem H9{s n i:U}(h:s<2 ^ n)(hi:s.testBit i=F):i<n:=by
 rcases zI i n with h1|h1
 ·exact h1
 ·have:s<2 ^ i:=yA h (zT (by omega) h1);rw[Nat.testBit_lt_two_pow this] at hi
  cases hi
theorem wM{s i:U}(hi:s.testBit i=F):i<s:=H9 Nat.lt_two_pow_self hi
theorem XW(p:U→Q):∀k:U,∃q:U,∀i,q.testBit i=(decide (i<k)&&p i)
 | 0=>⟨0,fun i=>by simp⟩
 | k+1=>by
  obtain⟨q,hq⟩:=XW p k;refine⟨q ||| (if p k then 2 ^ k else 0),fun i=> ?_⟩;rw[zR,hq];by_cases hp:p k=F
  ·rw[if_pos hp,Jk];by_cases h:k=i
   ·subst h; simp[hp]
   ·have:decide (i<k+1)=decide (i<k):=by simp; omega
    simp[h,this]
  ·rw[if_neg hp,Nat.zero_testBit];by_cases h:k=i
   ·subst h; simp[hp]
   ·have:decide (i<k+1)=decide (i<k):=by simp; omega
    simp[this]
theorem vo{q r:U}(h:q &&& r=q){i:U}(hi:q.testBit i=F):r.testBit i=F:=by
 have:=congrArg (fun x=>x.testBit i) h;simp only[zY,hi,zC] at this
 exact this
theorem SK{q r:U}(h:∀i,q.testBit i=F→r.testBit i=F):q &&& r=q:=by
 apply zU
 intro i;rw[zY];cases hq:q.testBit i with
 | false=>rfl
 | true=>rw[h i hq]; rfl
theorem sY:∀(n r p q:U),r≤n→p &&& r=p→q &&& r=q→q<p→q≤(p - 1) &&& r:=by
 intro n
 induction n with
 | zero=>
  intro r p q hr hp hq hlt;have:r=0:=by omega
  subst this;rw[Nat.and_zero] at hp hq
  omega
 | succ n ih=>
  intro r p q hr hp hq hlt;by_cases h0:r=0
  ·subst h0;rw[Nat.and_zero] at hp hq
   omega
  have hp2:(p / 2) &&& (r / 2)=p / 2:=by rw[← yN,hp]
  have hq2:(q / 2) &&& (r / 2)=q / 2:=by rw[← yN,hq]
  have e2:∀a b:U,(a &&& b) % 2=(a % 2)*(b % 2):=fun a b=>by
   have h:=zY a b 0;simp only[Nat.testBit_zero] at h;rcases zG a with ha|ha<;>rcases zG b with hb|hb<;>rcases zG (a &&& b) with hc|hc<;>simp_all
  have hpm:=e2 p r;have hqm:=e2 q r;rw[hp] at hpm
  rw[hq] at hqm
  have hd:((p - 1) &&& r) / 2=((p - 1) / 2) &&& (r / 2):=yN;have hm:=e2 (p - 1) r;rcases zG p with h1|h1
  ·-- an even one
   have i1:=ih (r / 2) (p / 2) (q / 2) (by omega) hp2 hq2 (by omega);have e3:(p - 1) / 2=p / 2 - 1:=by omega
   rw[e3] at hd
   have e4:(p - 1) % 2=1:=by omega
   rw[e4,Nat.one_mul] at hm
   have hqr:q % 2≤r % 2:=by
    rcases zG q with h2|h2
    ·omega
    ·rw[h2,Nat.one_mul] at hqm; omega
   omega
  ·have e3:(p - 1) / 2=p / 2:=by omega
   rw[e3,hp2] at hd
   omega
theorem ef{p r:U}(h:0<p):(p - 1) &&& r<p:=by
 have:= @Nat.and_le_left (p - 1) r;omega
theorem eh(p r:U):(p &&& r) &&& r=p &&& r:=by rw[Nat.and_assoc,Nat.and_self]
def Ei(B:U→U→Q)(S m:U):Prop:=∃f:U→U,(∀i,S.testBit i=F→f i<m)∧∀i j,S.testBit i=F→S.testBit j=F→i≠j→f i=f j→B i j=F
def EX(B:U→U→Q)(S:U):Prop:=∀i j,S.testBit i=F→S.testBit j=F→i≠j→B i j=F
def Cn(B:U→U→Q)(S n:U):Prop:=Ei B S n∧∀m,Ei B S m→n≤m
theorem Pa{B:U→U→Q}{S n:U}(h:S<2 ^ n):Ei B S n:=⟨id,fun i hi=>H9 h hi,fun i j _ _ hne e=>absurd e hne⟩
theorem SC{B:U→U→Q}:Cn B 0 0:=⟨⟨id,fun i hi=>by simp at hi,fun i j hi=>by simp at hi⟩,fun m _=>Nat.zero_le m⟩
theorem gi{B:U→U→Q}{S t rest q n:U}(hS:∀i,S.testBit i=F→i=t∨rest.testBit i=F)(hq:EX B (q ||| 2 ^ t))(h:Ei B (AG rest q) n):Ei B S (1+n):=by
 obtain⟨f,f1,f2⟩:=h
 have key:∀i,S.testBit i=F→(i=t∨q.testBit i=F)∨(AG rest q).testBit i=F:=fun i hi=>by
  rcases hS i hi with h|h
  ·exact .inl (.inl h)
  ·cases hb:q.testBit i with
   | true=>exact .inl (.inr rfl)
   | false=>right; rw[ER,h,hb]; rfl
 have hin:∀i,(i=t∨q.testBit i=F)→(q ||| 2 ^ t).testBit i=F:=fun i hi=>by
  rw[zR,Jk];rcases hi with h|h
  ·simp[h]
  ·simp[h]
 refine⟨fun i=>if i=t∨q.testBit i=F then n else f i,fun i hi=> ?_,fun i j hi hj hne e=> ?_⟩
 ·by_cases hx:i=t∨q.testBit i=F
  ·simp only[hx,if_true]; omega
  ·simp only[hx,if_false];rcases key i hi with h|h
   ·exact absurd h hx
   ·have:=f1 i h; omega
 ·by_cases hx:i=t∨q.testBit i=F
  ·by_cases hy:j=t∨q.testBit j=F
   ·exact hq i j (hin i hx) (hin j hy) hne
   ·simp only[hx,hy,if_true,if_false] at e
    have:=f1 j ((key j hj).resolve_left hy);omega
  ·by_cases hy:j=t∨q.testBit j=F
   ·simp only[hx,hy,if_true,if_false] at e
    have:=f1 i ((key i hi).resolve_left hx);omega
   ·simp only[hx,hy,if_false] at e
    exact f2 i j ((key i hi).resolve_left hx) ((key j hj).resolve_left hy) hne e
theorem gj{B:U→U→Q}{S t rest m:U}(hS:S.testBit t=F)(hr:∀i,rest.testBit i=F→S.testBit i=F)(h:Ei B S m):∃q n,q &&& rest=q∧EX B (q ||| 2 ^ t)∧n+1=m∧Ei B (AG rest q) n:=by
 obtain⟨f,f1,f2⟩:=h;obtain⟨q,hq⟩:=XW (fun i=>rest.testBit i&&decide (f i=f t)) rest
 have hq2:∀i,q.testBit i=F↔rest.testBit i=F∧f i=f t:=fun i=>by
  rw[hq i];constructor
  ·intro h;simp only[Z,decide_eq_true_eq] at h;exact h.2
  ·intro⟨h1,h2⟩;simp only[Z,decide_eq_true_eq];exact⟨wM h1,h1,h2⟩
 have hm:=f1 t hS;refine⟨q,m - 1,SK fun i hi=>((hq2 i).1 hi).1,fun i j hi hj hne=> ?_,by omega,fun i=>if f i=m - 1 then f t else f i,fun i hi=> ?_,fun i j hi hj hne e=> ?_⟩
 ·have side:∀i,(q ||| 2 ^ t).testBit i=F→S.testBit i=F∧f i=f t:=fun i hi=>by
   rw[zR,Jk,yO,decide_eq_true_eq] at hi
   rcases hi with h|h
   ·exact⟨hr i ((hq2 i).1 h).1,((hq2 i).1 h).2⟩
   ·subst h; exact⟨hS,rfl⟩
  obtain⟨i1,i2⟩:=side i hi;obtain⟨j1,j2⟩:=side j hj;exact f2 i j i1 j1 hne (i2.trans j2.symm)
 ·rw[ER,Z] at hi
  have hne:f i≠f t:=fun e=>by
   have:=(hq2 i).2 ⟨hi.1,e⟩;rw[this] at hi
   simp at hi
  have:=f1 i (hr i hi.1);show(if f i=m - 1 then f t else f i)<m - 1
  split<;>omega
 ·rw[ER,Z] at hi hj
  have hni:f i≠f t:=fun e=>by
   have:=(hq2 i).2 ⟨hi.1,e⟩;rw[this] at hi
   simp at hi
  have hnj:f j≠f t:=fun e=>by
   have:=(hq2 j).2 ⟨hj.1,e⟩;rw[this] at hj
   simp at hj
  have e2:f i=f j:=by
   have e:(if f i=m - 1 then f t else f i)=(if f j=m - 1 then f t else f j):=e;split at e<;>split at e<;>omega
  exact f2 i j (hr i hi.1) (hr j hj.1) hne e2
def D2(B:U→U→Q)(N m:U)(w:H U):Prop:=∃f:U→U,(∀(j:U) (h:j<w.length),f j=w[j])∧(∀j,j<N→f j<m)∧∀i j,i<N→j<N→i≠j→f i=f j→B i j=F
def Ju(B:U→U→Q)(w:H U)(c:U):Prop:=∀(k:U) (h:k<w.length),w[k]=c→B w.length k=F
theorem lW{B:U→U→Q}{N m:U}{w:H U}{c:U}(h:D2 B N m (w++ [c])):D2 B N m w:=by
 obtain⟨f,f1,f2⟩:=h;exact⟨f,fun j hj=>by rw[f1 j (by simp; omega),zJ hj],f2⟩
theorem lY{B:U→U→Q}{N m u:U}{w:H U}(hw:w.length<N)(hu:∀x∈w,x<u)(h:D2 B N m w):∃c,c≤u∧c<m∧Ju B w c∧D2 B N m (w++ [c]):=by
 obtain⟨f,f1,f2,f3⟩:=h
 have done:∀f:U→U,(∀(j:U) (h:j<w.length),f j=w[j])→(∀j,j<N→f j<m)→(∀i j,i<N→j<N→i≠j→f i=f j→B i j=F)→f w.length≤u→∃c,c≤u∧c<m∧Ju B w c∧D2 B N m (w++ [c]):=by
  intro f f1 f2 f3 hle;refine⟨f w.length,hle,f2 _ hw,fun k hk e=>f3 _ _ hw (by omega) (by omega) ((e.symm.trans (f1 k hk).symm)),f,fun j hj=> ?_,f2,f3⟩;rcases zI j w.length with h|h
  ·rw[zJ h]; exact f1 j h
  ·have:j=w.length:=by simp at hj; omega
   subst this;simp
 by_cases hc:f w.length≤u
 ·exact done f f1 f2 f3 hc
 ·have hm:=f2 _ hw;refine done (fun x=>if f x=f w.length then u else if f x=u then f w.length else f x) (fun j hj=> ?_) (fun j hj=> ?_) (fun i j hi hj hne e=>f3 i j hi hj hne ?_) (by simp)
  ·have e1:=f1 j hj;have e2:=hu _ (I hj);show(if f j=f w.length then u else if f j=u then f w.length else f j)=w[j]
   rw[if_neg (by omega),if_neg (by omega),e1]
  ·have:=f2 j hj;show(if f j=f w.length then u else if f j=u then f w.length else f j)<m
   split
   ·omega
   ·split<;>omega
  ·have e:(if f i=f w.length then u else if f i=u then f w.length else f i)=(if f j=f w.length then u else if f j=u then f w.length else f j):=e;split at e<;>split at e<;>(try split at e)<;>(try split at e)<;>omega
theorem lX{B:U→U→Q}{N m:U}{w:H U}(hl:w.length=N)(hm:∀x∈w,x<m)(hB:∀i j,B i j=B j i)(hv:∀(i k:U) (hi:i<w.length) (hk:k<i),w[i]=w[k]→B i k=F):D2 B N m w:=by
 subst hl;have e:∀(j:U) (h:j<w.length),w[j]?.getD 0=w[j]:=fun j h=>by rw[Y h]; rfl
 refine⟨fun j=>w[j]?.getD 0,fun j hj=>e j hj,fun j hj=> ?_,fun i j hi hj hne h=> ?_⟩
 ·show w[j]?.getD 0<m
  rw[e j hj]; exact hm _ (I hj)
 ·have h:w[i]?.getD 0=w[j]?.getD 0:=h;rw[e i hi,e j hj] at h;rcases zI j i with hlt|hge
  ·exact hv i j hi hlt h
  ·rw[hB]; exact hv j i hj (by omega) h.symm
theorem UR{B:U→U→Q}{N m:U}:Ei B (2 ^ N - 1) m↔D2 B N m []:=by
 have ht:∀i,(2 ^ N - 1).testBit i=decide (i<N):=fun i=>Nat.testBit_two_pow_sub_one N i
 constructor
 ·rintro⟨f,f1,f2⟩
  exact⟨f,fun j h=>by simp at h,fun j hj=>f1 j (by rw[ht]; simpa using hj),fun i j hi hj hne e=>f2 i j (by rw[ht]; simpa using hi) (by rw[ht]; simpa using hj) hne e⟩
 ·rintro⟨f,_,f1,f2⟩
  exact⟨f,fun j hj=>f1 j (by rw[ht] at hj; simpa using hj),fun i j hi hj hne e=>f2 i j (by rw[ht] at hi; simpa using hi) (by rw[ht] at hj; simpa using hj) hne e⟩
theorem BB(n lo hi:P):Ax n lo hi=G (decide (lo≤n)&&decide (n≤hi)):=by
 unfold Ax;by_cases h:lo≤n<;>simp[h]
theorem Dw(n lo hi:P):BN n lo hi=G (decide (lo≤n)&&decide (n≤hi)):=by
 unfold BN;by_cases h:lo≤n<;>simp[h]
theorem Eb{n bytes:U}(h:n≤1048576)(hb:bytes≤1000):Br (n:P) (n:P) bytes=G n:=by
 unfold Br
 have:(n:P)*(bytes:P)≤140737488355328:=by
  have:n*bytes≤1048576*1000:=yC h hb;have e:((n*bytes:U):P)=(n:P)*(bytes:P):=by simp
  omega
 rw[if_pos ⟨by omega,by omega,this,by omega⟩];simp
theorem FP{n:U}(h:n≤1048576):n≤maxLen:=by rw[AA]; omega
theorem wU{xs:H P}(h:xs.length≤1048576):MQ xs=G xs:=by
 unfold MQ;rw[Eb h (by omega)];have:=Hn (L:=Ib xs) xs id (FP h) (fun n i acc hi ha=>by simp[Ib,Al,hi,ha]) (fun n acc=>by simp[Ib]) (zA xs.length 0) (by simp);simpa using this
theorem UY{xs ys:H P}(h:xs.length≤maxLen):Fj xs ys=G (decide (xs=ys)):=by
 unfold Fj;by_cases hl:xs.length=ys.length
 ·have:=JN (L:=I1 xs ys) xs ys h hl (fun n i h1 h2=>by simp[I1,Al,h1,h2]) (fun n=>by simp[I1]);simp[hl,this]
 ·have:¬(xs.length:P)=ys.length:=by omega
  have:xs≠ys:=fun e=>hl (by rw[e])
  simp_all
theorem GV{α:Type}{row:α→H D}{xs:H α}(h:(D.sl (yG row xs)).Ok):xs.length≤maxLen:=by simpa using h.sl.1
theorem GT(n:P):D4 n=G (decide (0≤n)&&decide (n≤2880)):=by simp[D4,Dw]
theorem Vh{len:U}(p:U→Q)(K:O Q):∀(k i:U),(zQ i k).foldr (fun i r=>if p i=F then r else G E) K=if(zQ i k).all p=F then K else G E
 | 0,i=>by simp
 | k+1,i=>by
  rw[yL,yI,Vh (len:=len) p K k (i+1),List.all_cons];cases p i<;>rfl
theorem Vj{len:U}(p:U→Q)(K:O Q):∀(k i:U),(zQ i k).foldr (fun i r=>if p i=F then G E else r) K=if(zQ i k).any p=F then G E else K
 | 0,i=>by simp
 | k+1,i=>by
  rw[yL,yI,Vj (len:=len) p K k (i+1),List.any_cons];cases p i<;>rfl
theorem G8{L:U→P→O Q}(len:U)(p:U→Q)(K:O Q)(hl:len≤maxLen)
  (hs:∀(n i:U),i<len→L (n+1) (i:P)=if p i=F then L n (yQ .i64 ((i:P)+1)) else G E) (he:∀n,L (n+1) (len:P)=K):L bigN 0=if(zB len).all p=F then K else G E:=by
 have:=Jb L len hl (fun i r=>if p i=F then r else G E) K hs he len 0 bigN (by omega) (Bx hl);rw[Vh (len:=len),← List.range_eq_range'] at this
 exact this
theorem Ui{L:U→P→O Q}(len:U)(p:U→Q)(K:O Q)(hl:len≤maxLen)
  (hs:∀(n i:U),i<len→L (n+1) (i:P)=if p i=F then G E else L n (yQ .i64 ((i:P)+1))) (he:∀n,L (n+1) (len:P)=K):L bigN 0=if(zB len).any p=F then G E else K:=by
 have:=Jb L len hl (fun i r=>if p i=F then G E else r) K hs he len 0 bigN (by omega) (Bx hl);rw[Vj (len:=len),← List.range_eq_range'] at this
 exact this
def J7(s:H V)(i:U):Q:=match s[i]? with
 | some b=>(decide (97≤(b.toNat:P))&&decide ((b.toNat:P)≤122)) || (!(decide (i=0))&&(decide (48≤(b.toNat:P))&&decide ((b.toNat:P)≤57)))
 | none=>E
def Oj(s:H V):Q:=decide (1≤(s.length:P))&&decide ((s.length:P)≤8)
def EC(s:H V):Q:=Oj s&&(zB s.length).all (J7 s)
theorem Y7(c:P)(K:O Q)(z':Q)(z:P)(i:U)(hz:z=(i:P)) :
  (if decide (97≤c)=F then(if decide (c≤122)=F then K else if(z==0)=F then G E else if decide (c<48)=F then G E else if decide (57<c)=F then G E else K)
   else if E=F then K else if(z==0)=F then G E else if decide (c<48)=F then G E else if decide (57<c)=F then G E else K) =
  if((decide (97≤c)&&decide (c≤122)) || (!(decide (i=0))&&(decide (48≤c)&&decide (c≤57))))=F then K else G E:=by
 subst hz;have e0:(((i:U):P)==0)=decide (i=0):=by rw[zE]; simp
 have e1:decide (c<48)= !decide (48≤c):=by rw[zE]; simp
 have e2:decide (57<c)= !decide (c≤57):=by rw[zE]; simp
 rw[e0,e1,e2];cases decide (i=0)<;>cases decide (97≤c)<;>cases decide (c≤122)<;>cases decide (48≤c)<;>cases decide (c≤57)<;>rfl
theorem YQ{s:H V}(h:s.length≤maxLen):Kz s=G (EC s):=by
 unfold Kz;rw[G8 (L:=Gz s) s.length (J7 s) (G (Oj s)) h (fun n i hi=> ?_) (fun n=>by simp[Gz,BB,Oj])]
 ·unfold EC;cases(zB s.length).all (J7 s)<;>simp
 ·simp only[Gz,N8,N9,Al,J7,Y hi,X,Af,hi,decide_true,if_true];exact Y7 _ _ F (i:P) i rfl
theorem WM{s:H V}(h:s.length≤maxLen):JT s=G (EC s):=by
 unfold JT;rw[Dw];rw[G8 (L:=Gh s) s.length (J7 s) (G F) h (fun n i hi=> ?_) (fun n=>by simp[Gh])]
 ·unfold EC Oj;simp only[X];cases(zB s.length).all (J7 s)<;>cases(decide (1≤(s.length:P))&&decide ((s.length:P)≤8))<;>simp
 ·simp only[Gh,LO,LP,Al,J7,Y hi,X,Af,hi,decide_true,if_true];exact Y7 _ _ F (i:P) i rfl
theorem NI{R:Type}(p:U→Q)(f:U→R)(z:R):∀(k i:U),(zQ i k).foldr (fun i r=>if p i=F then G (f i) else r) (G z)=G ((zQ i k).foldr (fun i r=>if p i=F then f i else r) z)
 | 0,i=>by simp
 | k+1,i=>by
  rw[yL,yI,NI p f z k (i+1),yI];cases p i<;>simp
def Ov(xs:H X7)(s:H V)(i:U):Q:=match xs[i]? with
 | some x=>decide (x.Name=s)
 | none=>E
def Ow(xs:H X7)(s:H V):P:=(zQ 0 xs.length).foldr (fun i r=>if Ov xs s i=F then(i:P) else r) (-1)
theorem uy{c:X1}{s:H V}(h:c.Points.length≤maxLen):Nj c s=G (Ow c.Points s):=by
 unfold Nj;exact(Jb (Iz s c) c.Points.length h (fun i r=>if Ov c.Points s i=F then G (i:P) else r) (G (-1)) (fun n i hi=>by simp[Iz,Al,hi,Ov]) (fun n=>by simp[Iz]) c.Points.length 0 bigN (by omega) (Bx h)).trans (NI _ _ _ _ _)
theorem pX{c:X1}{s:H V}(h:c.Points.length≤maxLen):LZ c s=G (Ow c.Points s):=by
 unfold LZ;exact(Jb (HF s c) c.Points.length h (fun i r=>if Ov c.Points s i=F then G (i:P) else r) (G (-1)) (fun n i hi=>by simp[HF,Al,hi,Ov]) (fun n=>by simp[HF]) c.Points.length 0 bigN (by omega) (Bx h)).trans (NI _ _ _ _ _)
def jn(y:X2)(a b:P):Q:=(decide (y.A=a)&&decide (y.B=b)) || (decide (y.A=b)&&decide (y.B=a))
theorem vF(y:X2)(a b:P):Nv y a b=G (jn y a b):=by
 unfold Nv jn;by_cases h1:y.A=a<;>by_cases h2:y.B=b<;>by_cases h3:y.A=b<;>by_cases h4:y.B=a<;>simp_all
theorem pg(y:X2)(a b:P):M1 y a b=G (jn y a b):=by
 unfold M1 jn;by_cases h1:y.A=a<;>by_cases h2:y.B=b<;>by_cases h3:y.A=b<;>by_cases h4:y.B=a<;>simp_all
theorem vz{xs:H P}{l:P}(h0:0≤l)(h1:l≤1048576)(hx:xs.length≤maxLen):∃r,MG xs l=G r∧(0≤r→r≤l∧xs.length≤1048576):=by
 unfold MG;rw[AA] at hx
 rw[Am (by omega) (by omega)];by_cases h:l - (xs.length:P)<0
 ·exact⟨-1,by simp[h],by omega⟩
 ·exact⟨l - xs.length,by simp[h],by omega⟩
theorem KZ(i n:P):Bz i n=G (decide (0≤i)&&decide (i<n)):=by
 unfold Bz;by_cases h:0≤i<;>simp[h]
def idx(i:P)(n:U):Q:=decide (0≤i)&&decide (i<(n:P))
theorem WT(i:P){n:U}(h:n≤1000):(decide (0≤i)&&decide (i≤yQ .i64 ((n:P) - 1)))=idx i n:=by
 rw[Am (by omega) (by omega)];unfold idx;congr 1
 rw[zE];simp;omega
def DP(c:X1)(i:U):Q:=match c.Segments[i]? with
 | some x=>idx x.A c.Points.length&&(idx x.B c.Points.length&&(!(decide (x.A=x.B))&&((decide (0≤x.Depth)&&decide (x.Depth≤3000))&&((decide (1≤x.Minutes)&&decide (x.Minutes≤240))&& !((zB i).any fun j=>match c.Segments[j]? with | some y=>jn y x.A x.B | none=>E)))))
 | none=>E
def H3(c:X1)(i:U):Q:=match c.Points[i]? with
 | some x=>EC x.Name&&decide (Ow c.Points x.Name=(i:P))
 | none=>E
def AO(c:X1):Q:=decide (c.Points.length≤8)&&(decide (c.Segments.length≤10)&&((zB c.Points.length).all (H3 c)&&(zB c.Segments.length).all (DP c)))
theorem F3{n i:U}(h:i≤n):bnd (n:P) (i:P) (0:P) n=G (0,i):=by
 unfold bnd;rw[if_pos ⟨by omega,by omega,by omega,by omega⟩];simp
theorem Zr{α:Type}{l:H α}{i j:U}(hj:j<i):(l.take i)[j]?=l[j]?:=by simp[List.getElem?_take,hj]
theorem DQ{c:X1}(hn:∀x∈c.Points,x.Name.length≤maxLen):Df c=G (AO c):=by
 unfold Df AO;by_cases h1:c.Points.length≤8
 ·have h1':¬(8:P)<c.Points.length:=by omega
  by_cases h2:c.Segments.length≤10
  ·have h2':¬(10:P)<c.Segments.length:=by omega
   have hp:c.Points.length≤maxLen:=by rw[AA]; omega
   have hs:c.Segments.length≤maxLen:=by rw[AA]; omega
   have inner:Eu c bigN 0=G ((zB c.Segments.length).all (DP c)):=by
    rw[G8 (L:=Eu c) c.Segments.length (DP c) (G F) hs (fun n i hi=> ?_) (fun n=>by simp[Eu])]
    ·cases(zB c.Segments.length).all (DP c)<;>rfl
    ·simp only[Eu,Al,Y hi,X,Af,hi,decide_true,if_true,BB,WT _ (show c.Points.length≤1000 by omega),F3 (Nat.le_of_lt hi),DP,List.drop_zero,Nat.sub_zero];have hl:(c.Segments.take i).length=i:=by simp; omega
     rw[hl]
     rw[Ui (L:=Ik c i c.Segments[i] (c.Segments.take i) (i:P) (Eu c n)) i (fun j=>match c.Segments[j]? with | some y=>jn y c.Segments[i].A c.Segments[i].B | none=>E)
      (Eu c n (yQ .i64 ((i:P)+1))) (by omega) (fun m j hj=>by
       have hj2:j<c.Segments.length:=by omega
       simp only[Ik,Al,Zr hj,Y hj2,X,Af,hj,decide_true,if_true,vF]) (fun m=>by simp[Ik])]
     have e:(c.Segments[i].A==c.Segments[i].B)=decide (c.Segments[i].A=c.Segments[i].B):=rfl;rw[e]
     cases idx c.Segments[i].A c.Points.length<;>cases idx c.Segments[i].B c.Points.length<;>cases decide (c.Segments[i].A=c.Segments[i].B)<;>cases(decide (0≤c.Segments[i].Depth)&&decide (c.Segments[i].Depth≤3000)) <;>
      cases(decide (1≤c.Segments[i].Minutes)&&decide (c.Segments[i].Minutes≤240))<;>cases((zB i).any fun j=>match c.Segments[j]? with | some y=>jn y c.Segments[i].A c.Segments[i].B | none=>E)<;>rfl
   rw[G8 (L:=Ij c) c.Points.length (H3 c) _ hp (fun n i hi=> ?_) (fun n=>by simp only[Ij,Int.lt_irrefl,decide_false,C,if_false]; exact inner)]
   ·simp only[h1,h2,h1',h2',decide_true,decide_false,zC,C,if_false];cases(zB c.Points.length).all (H3 c)<;>rfl
   ·simp only[Ij,Al,Y hi,X,Af,hi,decide_true,if_true,YQ (hn _ (I hi)),uy hp,H3];by_cases e:Ow c.Points c.Points[i].Name=(i:P)<;>cases EC c.Points[i].Name<;>simp[e]
  ·have h2':(10:P)<c.Segments.length:=by omega
   simp[h1,h1',h2,h2']
 ·have h1':(8:P)<c.Points.length:=by omega
  simp[h1,h1']
theorem FM{c:X1}(hn:∀x∈c.Points,x.Name.length≤maxLen):DB c=G (AO c):=by
 unfold DB AO;by_cases h1:c.Points.length≤8
 ·have h1':¬(8:P)<c.Points.length:=by omega
  by_cases h2:c.Segments.length≤10
  ·have h2':¬(10:P)<c.Segments.length:=by omega
   have hp:c.Points.length≤maxLen:=by rw[AA]; omega
   have hs:c.Segments.length≤maxLen:=by rw[AA]; omega
   have inner:En c bigN 0=G ((zB c.Segments.length).all (DP c)):=by
    rw[G8 (L:=En c) c.Segments.length (DP c) (G F) hs (fun n i hi=> ?_) (fun n=>by simp[En])]
    ·cases(zB c.Segments.length).all (DP c)<;>rfl
    ·simp only[En,Al,Y hi,X,Af,hi,decide_true,if_true,Dw,KZ,show ∀(a:P) (n:U),(decide (0≤a)&&decide (a<(n:P)))=idx a n from fun _ _=>rfl,F3 (Nat.le_of_lt hi),DP,List.drop_zero,Nat.sub_zero];have hl:(c.Segments.take i).length=i:=by simp; omega
     rw[hl]
     rw[Ui (L:=Hr c i c.Segments[i] (c.Segments.take i) (i:P) (En c n)) i (fun j=>match c.Segments[j]? with | some y=>jn y c.Segments[i].A c.Segments[i].B | none=>E)
      (En c n (yQ .i64 ((i:P)+1))) (by omega) (fun m j hj=>by
       have hj2:j<c.Segments.length:=by omega
       simp only[Hr,Al,Zr hj,Y hj2,X,Af,hj,decide_true,if_true,pg]) (fun m=>by simp[Hr])]
     have e:(c.Segments[i].A==c.Segments[i].B)=decide (c.Segments[i].A=c.Segments[i].B):=rfl;rw[e]
     cases idx c.Segments[i].A c.Points.length<;>cases idx c.Segments[i].B c.Points.length<;>cases decide (c.Segments[i].A=c.Segments[i].B)<;>cases(decide (0≤c.Segments[i].Depth)&&decide (c.Segments[i].Depth≤3000)) <;>
      cases(decide (1≤c.Segments[i].Minutes)&&decide (c.Segments[i].Minutes≤240))<;>cases((zB i).any fun j=>match c.Segments[j]? with | some y=>jn y c.Segments[i].A c.Segments[i].B | none=>E)<;>rfl
   rw[G8 (L:=Hq c) c.Points.length (H3 c) _ hp (fun n i hi=> ?_) (fun n=>by simp only[Hq,Int.lt_irrefl,decide_false,C,if_false]; exact inner)]
   ·simp only[h1,h2,h1',h2',decide_true,decide_false,zC,C,if_false];cases(zB c.Points.length).all (H3 c)<;>rfl
   ·simp only[Hq,Al,Y hi,X,Af,hi,decide_true,if_true,WM (hn _ (I hi)),pX hp,H3];by_cases e:Ow c.Points c.Points[i].Name=(i:P)<;>cases EC c.Points[i].Name<;>simp[e]
  ·have h2':(10:P)<c.Segments.length:=by omega
   simp[h1,h1',h2,h2']
 ·have h1':(8:P)<c.Points.length:=by omega
  simp[h1,h1']
theorem wW{xs:H X7}(h:xs.length≤1048576):MS xs=G xs:=by
 unfold MS;rw[Eb h (by omega)];have:=Hn (L:=Ie xs) xs id (FP h) (fun n i acc hi ha=>by simp[Ie,Al,hi,ha,PC]) (fun n acc=>by simp[Ie]) (zA xs.length ⟨[],E⟩) (by simp);simpa using this
theorem wX{xs:H X2}(h:xs.length≤1048576):MT xs=G xs:=by
 unfold MT;rw[Eb h (by omega)];have:=Hn (L:=If xs) xs id (FP h) (fun n i acc hi ha=>by simp[If,Al,hi,ha,PE]) (fun n acc=>by simp[If]) (zA xs.length ⟨0,0,0,0,E⟩) (by simp);simpa using this
theorem wP{c:X1}(h1:c.Points.length≤1048576)(h2:c.Segments.length≤1048576):MO c=G c:=by
 simp[MO,wW h1,wX h2]
theorem lH(x y:X7):Mu x y=G (decide (x=y)):=by
 unfold Mu;cases x; cases y;simp only[X7.mk.injEq];repeat' split
 all_goals simp_all
theorem lG{xs ys:H X7}(h:xs.length≤maxLen):Mv xs ys=G (decide (xs=ys)):=by
 unfold Mv;by_cases hl:xs.length=ys.length
 ·have:=JN (L:=I3 xs ys) xs ys h hl (fun n i h1 h2=>by simp[I3,Al,h1,h2,lH]) (fun n=>by simp[I3]);simp[hl,this]
 ·have:¬(xs.length:P)=ys.length:=by omega
  have:xs≠ys:=fun e=>hl (by rw[e])
  simp_all
theorem lJ(x y:X2):Mw x y=G (decide (x=y)):=by
 unfold Mw;cases x; cases y;simp only[X2.mk.injEq];repeat' split
 all_goals simp_all
theorem lI{xs ys:H X2}(h:xs.length≤maxLen):Mx xs ys=G (decide (xs=ys)):=by
 unfold Mx;by_cases hl:xs.length=ys.length
 ·have:=JN (L:=I4 xs ys) xs ys h hl (fun n i h1 h2=>by simp[I4,Al,h1,h2,lJ]) (fun n=>by simp[I4]);simp[hl,this]
 ·have:¬(xs.length:P)=ys.length:=by omega
  have:xs≠ys:=fun e=>hl (by rw[e])
  simp_all
theorem ky{c:X1}(h1:c.Points.length≤maxLen)(h2:c.Segments.length≤maxLen):Mo c c=G F:=by
 simp[Mo,lG h1,lI h2]
theorem wC{x:X7}{l:P}(h0:0≤l)(h1:l≤1048576)(hx:x.Name.length≤maxLen):∃r,MI x l=G r∧(0≤r→r≤l):=by
 unfold MI;rw[AA] at hx
 rw[Am (by omega) (by omega)];by_cases h:l - (x.Name.length:P)<0
 ·exact⟨-1,by simp[h],by omega⟩
 ·exact⟨l - x.Name.length,by simp[h],by omega⟩
theorem wB{xs:H X7}{l:P}(h0:0≤l)(h1:l≤1048576)(hx:xs.length≤maxLen)(hn:∀x∈xs,x.Name.length≤maxLen):∃r,MJ xs l=G r∧(0≤r→r≤l∧xs.length≤1048576):=by
 unfold MJ;have hx':=hx;rw[AA] at hx'
 rw[Am (by omega) (by omega)];by_cases h:l - (xs.length:P)<0
 ·exact⟨-1,by simp[h],by omega⟩
 ·have key:∀(k i n:U) (v:P),i+k=xs.length→k<n→0≤v→v≤l→∃r,Gs xs n v (i:P)=G r∧(0≤r→r≤l):=by
   intro k
   induction k with
   | zero=>
    intro i n v hi hn2 hv hv2;obtain⟨m,rfl⟩:∃m,n=m+1:=⟨n - 1,by omega⟩;have:i=xs.length:=by omega
    subst this;exact⟨v,by simp[Gs],fun _=>hv2⟩
   | succ k ih=>
    intro i n v hi hn2 hv hv2;obtain⟨m,rfl⟩:∃m,n=m+1:=⟨n - 1,by omega⟩;have hlt:i<xs.length:=by omega
    obtain⟨r,e,hr⟩:=wC (x:=xs[i]) hv (by omega) (hn _ (I hlt));by_cases hr0:r<0
    ·exact⟨-1,by simp[Gs,Al,hlt,e,hr0],by omega⟩
    ·obtain⟨r2,e2,h2⟩:=ih (i+1) m r (by omega) (by omega) (by omega) (by have:=hr (by omega); omega);refine⟨r2,?_,h2⟩;rw[← Aw hlt hx] at e2
     simp only[Gs,Al,Y hlt,X,Af,hlt,decide_true,if_true,e,hr0,decide_false,C,if_false];exact e2
  obtain⟨r,e,hr⟩:=key xs.length 0 bigN (l - xs.length) (by omega) (Bx hx) (by omega) (by omega);refine⟨r,?_,fun h=>⟨hr h,by omega⟩⟩;simp only[h,decide_false,C,if_false];exact e
theorem wD{xs:H X2}{l:P}(h0:0≤l)(h1:l≤1048576)(hx:xs.length≤maxLen):∃r,MK xs l=G r∧(0≤r→r≤l∧xs.length≤1048576):=by
 unfold MK;rw[AA] at hx
 rw[Am (by omega) (by omega)];by_cases h:l - (xs.length:P)<0
 ·exact⟨-1,by simp[h],by omega⟩
 ·exact⟨l - xs.length,by simp[h],by omega⟩
theorem vt{c:X1}{l:P}(h0:0≤l)(h1:l≤1048576)(hp:c.Points.length≤maxLen)(hs:c.Segments.length≤maxLen)(hn:∀x∈c.Points,x.Name.length≤maxLen) :
  ∃r,MD c l=G r∧(0≤r→r≤l∧c.Points.length≤1048576∧c.Segments.length≤1048576):=by
 unfold MD;obtain⟨r,e,h⟩:=wB h0 h1 hp hn;by_cases hr:r<0
 ·exact⟨-1,by simp[e,hr],by omega⟩
 ·obtain⟨k1,k2⟩:=h (by omega);obtain⟨r',e',h'⟩:=wD (xs:=c.Segments) (l:=r) (by omega) (by omega) hs;by_cases hr':r'<0
  ·exact⟨-1,by simp[e,hr,e',hr'],by omega⟩
  ·obtain⟨k3,k4⟩:=h' (by omega);exact⟨r',by simp[e,hr,e',hr'],fun _=>⟨by omega,k2,k4⟩⟩
def Cj(s:X4):Q:=EC s.Name&&((decide (10≤s.Length)&&decide (s.Length≤400))&&((decide (100≤s.Draught)&&decide (s.Draught≤2000))&&((decide (0≤s.Line)&&decide (s.Line≤3))&&(decide (0≤s.Tugs)&&decide (s.Tugs≤4)))))
theorem WJ(a b:Q):(if a=F then G b else G E)=G (a&&b):=by cases a<;>rfl
theorem Lg{s:X4}(h:s.Name.length≤maxLen):E2 s=G (Cj s):=by
 simp only[E2,YQ h,BB,X,WJ,Cj]
theorem GS{s:X4}(h:s.Name.length≤maxLen):Eo s=G (Cj s):=by
 have e:(decide (0≤s.Line)&&decide (s.Line<4))=(decide (0≤s.Line)&&decide (s.Line≤3)):=by
  congr 1
  rw[zE]; simp; omega
 simp only[Eo,WM h,Dw,KZ,X,WJ,Cj,e]
def OA(xs:H X4)(s:H V)(i:U):Q:=match xs[i]? with
 | some x=>decide (x.Name=s)
 | none=>E
def OB(xs:H X4)(s:H V):P:=(zQ 0 xs.length).foldr (fun i r=>if OA xs s i=F then(i:P) else r) (-1)
theorem uz{xs:H X4}{s:H V}(h:xs.length≤maxLen):Nl xs s=G (OB xs s):=by
 unfold Nl;exact(Jb (IC s xs) xs.length h (fun i r=>if OA xs s i=F then G (i:P) else r) (G (-1)) (fun n i hi=>by simp[IC,Al,hi,OA]) (fun n=>by simp[IC]) xs.length 0 bigN (by omega) (Bx h)).trans (NI _ _ _ _ _)
theorem pY{xs:H X4}{s:H V}(h:xs.length≤maxLen):M2 xs s=G (OB xs s):=by
 unfold M2;exact(Jb (HH s xs) xs.length h (fun i r=>if OA xs s i=F then G (i:P) else r) (G (-1)) (fun n i hi=>by simp[HH,Al,hi,OA]) (fun n=>by simp[HH]) xs.length 0 bigN (by omega) (Bx h)).trans (NI _ _ _ _ _)
def KP(xs:H X4)(i:U):Q:=match xs[i]? with
 | some x=>Cj x&&decide (OB xs x.Name=(i:P))
 | none=>E
def DH(xs:H X4):Q:=decide (xs.length≤6)&&(zB xs.length).all (KP xs)
theorem Lx(a b:P):(a !=b)= !decide (a=b):=rfl
theorem YN{xs:H X4}(hn:∀x∈xs,x.Name.length≤maxLen):Kv xs=G (DH xs):=by
 unfold Kv DH;by_cases h:xs.length≤6
 ·have h':¬(6:P)<xs.length:=by omega
  have hm:xs.length≤maxLen:=by rw[AA]; omega
  simp only[h,h',decide_true,decide_false,C,if_false,zC];refine Lu (L:=Iq xs) xs.length (KP xs) hm (fun n i hi=> ?_) (fun n=>by simp[Iq]);simp only[Iq,Af,hi,decide_true,if_true,Ai hi,X,Lg (hn _ (I hi)),uz hm,KP,Y hi,Lx];cases Cj xs[i]<;>by_cases e:OB xs xs[i].Name=(i:P)<;>simp[e]
 ·have h':(6:P)<xs.length:=by omega
  simp[h,h']
theorem WK{xs:H X4}(hn:∀x∈xs,x.Name.length≤maxLen):JR xs=G (DH xs):=by
 unfold JR DH;by_cases h:xs.length≤6
 ·have h':¬(6:P)<xs.length:=by omega
  have hm:xs.length≤maxLen:=by rw[AA]; omega
  simp only[h,h',decide_true,decide_false,C,if_false,zC];refine Lu (L:=HA xs) xs.length (KP xs) hm (fun n i hi=> ?_) (fun n=>by simp[HA]);simp only[HA,Af,hi,decide_true,if_true,Ai hi,X,GS (hn _ (I hi)),pY hm,KP,Y hi,Lx];cases Cj xs[i]<;>by_cases e:OB xs xs[i].Name=(i:P)<;>simp[e]
 ·have h':(6:P)<xs.length:=by omega
  simp[h,h']
theorem IU{xs:H X4}(h:DH xs=F):xs.length≤6∧∀x∈xs,Cj x=F:=by
 simp only[DH,Z,decide_eq_true_eq,zM,yP] at h;refine⟨h.1,fun x hx=> ?_⟩;obtain⟨i,hi,rfl⟩:=zX hx;have:=h.2 i hi;simp only[KP,Y hi,Z] at this
 exact this.1
def AF(x:X2)(s:X4):P:=if s.Slow=F then yQ .i64 (2*x.Minutes) else x.Minutes
theorem OD(x:X2)(s:X4):FB x s=G (AF x s):=by unfold FB AF; split<;>rfl
theorem NT(x:X2)(s:X4):Fa s x=G (AF x s):=by unfold Fa AF; split<;>rfl
def Aq(c:X1)(i:P):X2:=c.Segments[i.toNat]?.getD ⟨0,0,0,0,E⟩
def AL(l:H X4)(i:P):X4:=l[i.toNat]?.getD ⟨[],0,0,0,0,E⟩
theorem L0{α:Type}{l:H α}{i:P}(d:α)(h:idx i l.length=F):ix l i=G (l[i.toNat]?.getD d)∧l[i.toNat]?.getD d∈l:=by
 simp only[idx,Z,decide_eq_true_eq] at h;obtain⟨k,rfl⟩:∃k:U,i=(k:P):=⟨i.toNat,by omega⟩;have hk:k<l.length:=by omega
 have e:l[((k:U):P).toNat]?.getD d=l[k]:=by simp[hk]
 rw[Ai hk,e];exact⟨rfl,I hk⟩
theorem BJ{c:X1}{i:P}(h:idx i c.Segments.length=F):ix c.Segments i=G (Aq c i)∧Aq c i∈c.Segments:=L0 _ h
theorem ED{l:H X4}{i:P}(h:idx i l.length=F):ix l i=G (AL l i)∧AL l i∈l:=L0 _ h
theorem CP(i:P){n:U}(h:n≤1000):Ax i 0 (yQ .i64 ((n:P) - 1))=G (idx i n):=by rw[BB,WT i h]
theorem E7(i:P)(n:U):Bz i (n:P)=G (idx i n):=KZ i n
theorem wY{xs:H X4}(h:xs.length≤1048576):MU xs=G xs:=by
 unfold MU;rw[Eb h (by omega)];have:=Hn (L:=Ig xs) xs id (FP h) (fun n i acc hi ha=>by simp[Ig,Al,hi,ha,PF]) (fun n acc=>by simp[Ig]) (zA xs.length ⟨[],0,0,0,0,E⟩) (by simp);simpa using this
theorem lL(x y:X4):My x y=G (decide (x=y)):=by
 unfold My;cases x; cases y;simp only[X4.mk.injEq];repeat' split
 all_goals simp_all
theorem lK{xs ys:H X4}(h:xs.length≤maxLen):Mz xs ys=G (decide (xs=ys)):=by
 unfold Mz;by_cases hl:xs.length=ys.length
 ·have:=JN (L:=I5 xs ys) xs ys h hl (fun n i h1 h2=>by simp[I5,Al,h1,h2,lL]) (fun n=>by simp[I5]);simp[hl,this]
 ·have:¬(xs.length:P)=ys.length:=by omega
  have:xs≠ys:=fun e=>hl (by rw[e])
  simp_all
theorem wF{x:X4}{l:P}(h0:0≤l)(h1:l≤1048576)(hx:x.Name.length≤maxLen):∃r,ML x l=G r∧(0≤r→r≤l):=by
 unfold ML;rw[AA] at hx
 rw[Am (by omega) (by omega)];by_cases h:l - (x.Name.length:P)<0
 ·exact⟨-1,by simp[h],by omega⟩
 ·exact⟨l - x.Name.length,by simp[h],by omega⟩
theorem wE{xs:H X4}{l:P}(h0:0≤l)(h1:l≤1048576)(hx:xs.length≤maxLen)(hn:∀x∈xs,x.Name.length≤maxLen):∃r,MM xs l=G r∧(0≤r→r≤l∧xs.length≤1048576):=by
 unfold MM;have hx':=hx;rw[AA] at hx'
 rw[Am (by omega) (by omega)];by_cases h:l - (xs.length:P)<0
 ·exact⟨-1,by simp[h],by omega⟩
 ·have key:∀(k i n:U) (v:P),i+k=xs.length→k<n→0≤v→v≤l→∃r,Gt xs n v (i:P)=G r∧(0≤r→r≤l):=by
   intro k
   induction k with
   | zero=>
    intro i n v hi hn2 hv hv2;obtain⟨m,rfl⟩:∃m,n=m+1:=⟨n - 1,by omega⟩;have:i=xs.length:=by omega
    subst this;exact⟨v,by simp[Gt],fun _=>hv2⟩
   | succ k ih=>
    intro i n v hi hn2 hv hv2;obtain⟨m,rfl⟩:∃m,n=m+1:=⟨n - 1,by omega⟩;have hlt:i<xs.length:=by omega
    obtain⟨r,e,hr⟩:=wF (x:=xs[i]) hv (by omega) (hn _ (I hlt));by_cases hr0:r<0
    ·exact⟨-1,by simp[Gt,Al,hlt,e,hr0],by omega⟩
    ·obtain⟨r2,e2,h2⟩:=ih (i+1) m r (by omega) (by omega) (by omega) (by have:=hr (by omega); omega);refine⟨r2,?_,h2⟩;rw[← Aw hlt hx] at e2
     simp only[Gt,Al,Y hlt,X,Af,hlt,decide_true,if_true,e,hr0,decide_false,C,if_false];exact e2
  obtain⟨r,e,hr⟩:=key xs.length 0 bigN (l - xs.length) (by omega) (Bx hx) (by omega) (by omega);refine⟨r,?_,fun h=>⟨hr h,by omega⟩⟩;simp only[h,decide_false,C,if_false];exact e
theorem ui{xs:H X4}(ok:(D.sl (yG X4.row xs)).Ok):xs.length≤maxLen∧∀x∈xs,x.Name.length≤maxLen:=
 ⟨GV ok,fun x hx=>(ok.sl.2 (X4.row x) (List.mem_map_of_mem hx) (.str x.Name) (by simp[X4.row_eq])).str⟩
def FX(p:P):Q:=(decide (4≤p)&&decide (p≤2880))&&(yQ .i64 (yB p 4)==0)
def H2(x:Xc):Q:=(decide (0≤x.Amp)&&decide (x.Amp≤1000))&&(FX x.Period&&(decide (0≤x.Phase)&&decide (x.Phase≤yQ .i64 (x.Period - 1))))
def ES(t:Xl):Q:=(decide (-1000≤t.Mean)&&decide (t.Mean≤1000))&&(decide (t.Parts.length≤4)&&t.Parts.all H2)
theorem ux(x:Xc):Nd x=G (H2 x):=by
 simp only[Nd,BB,X,H2,FX];cases(decide (0≤x.Amp)&&decide (x.Amp≤1000))<;>cases(decide (4≤x.Period)&&decide (x.Period≤2880))<;>cases(yQ .i64 (yB x.Period 4)==0)<;>rfl
theorem Xz(p:P):K3 p=G (FX p):=by
 simp only[K3,Dw,X,FX];cases(decide (4≤p)&&decide (p≤2880))<;>rfl
theorem pU(x:Xc):LW x=G (H2 x):=by
 simp only[LW,Dw,Xz,X,H2];cases(decide (0≤x.Amp)&&decide (x.Amp≤1000))<;>cases FX x.Period<;>rfl
theorem vB(t:Xl):Np t=G (ES t):=by
 simp only[Np,BB,X,ES];cases(decide (-1000≤t.Mean)&&decide (t.Mean≤1000)) with
 | false=>rfl
 | true=>
  by_cases h1:t.Parts.length≤4
  ·have h1':¬(4:P)<t.Parts.length:=by omega
   rw[G7 (L:=ID t) t.Parts H2 (by rw[AA]; omega) (fun n i hi=>by simp only[ID,Al,Y hi,X,Af,hi,decide_true,if_true,ux]) (fun n=>by simp[ID])];simp[h1,h1']
  ·have h1':(4:P)<t.Parts.length:=by omega
   simp[h1,h1']
theorem pc(t:Xl):M5 t=G (ES t):=by
 simp only[M5,Dw,X,ES];cases(decide (-1000≤t.Mean)&&decide (t.Mean≤1000)) with
 | false=>rfl
 | true=>
  by_cases h1:t.Parts.length≤4
  ·have h1':¬(4:P)<t.Parts.length:=by omega
   rw[G7 (L:=HI t) t.Parts H2 (by rw[AA]; omega) (fun n i hi=>by simp only[HI,Al,Y hi,X,Af,hi,decide_true,if_true,pU]) (fun n=>by simp[HI])];simp[h1,h1']
  ·have h1':(4:P)<t.Parts.length:=by omega
   simp[h1,h1']
def G1(x:X9):Q:=(decide (0≤x.From)&&decide (x.From≤2880))&&((decide (-500≤x.Low)&&decide (x.Low≤500))&&(decide (x.Low≤x.High)&&decide (x.High≤500)))
theorem vA(x:X9):Nn x=G (G1 x):=by
 simp only[Nn,BB,X,G1];cases(decide (0≤x.From)&&decide (x.From≤2880))<;>cases(decide (-500≤x.Low)&&decide (x.Low≤500))<;>rfl
theorem pZ(x:X9):M4 x=G (G1 x):=by
 simp only[M4,GT,X,G1];cases(decide (0≤x.From)&&decide (x.From≤2880))
 ·rfl
 ·by_cases a1: -500≤x.Low<;>by_cases a2:x.Low≤x.High<;>by_cases a3:x.High≤500<;>by_cases a4:x.Low≤500<;>simp[a1,a2,a3,a4]
  omega
def Jg(l:H X9)(i:U):Q:=match l[i]? with
 | some x=>G1 x&&(match i with | 0=>F | j+1=>match l[j]? with | some y=> !(decide (x.From≤y.From)) | none=>E)
 | none=>E
def T6(l:H X9):Q:=match l[0]? with
 | some x=>decide (x.From=0)
 | none=>E
def Dj(f:Xd):Q:=ES f.Tide&&((decide (1≤(f.Surges.length:P))&&decide ((f.Surges.length:P)≤6))&&(T6 f.Surges&&(zB f.Surges.length).all (Jg f.Surges)))
theorem aC(j:U)(h:j≤1000):yQ .i64 (((j+1:U):P) - 1)=(j:P):=by
 rw[Am (by omega) (by omega)];omega
theorem YO(f:Xd):Kw f=G (Dj f):=by
 simp only[Kw,vB,BB,X,Dj];cases ES f.Tide with
 | false=>rfl
 | true=>
  cases hb:(decide (1≤(f.Surges.length:P))&&decide ((f.Surges.length:P)≤6)) with
  | false=>rfl
  | true=>
   simp only[Z,decide_eq_true_eq] at hb
   have h0:0<f.Surges.length:=by omega
   have hl:f.Surges.length≤maxLen:=by rw[AA]; omega
   rw[G8 (L:=Gx f) f.Surges.length (Jg f.Surges) (G F) hl (fun n i hi=> ?_) (fun n=>by simp[Gx])]
   ·have e0:ix f.Surges 0=G f.Surges[0]:=Ai h0;simp only[e0,X,T6,Y h0,zC,if_true];by_cases e:f.Surges[0].From=0<;>cases(zB f.Surges.length).all (Jg f.Surges)<;>simp[e]
   ·simp only[Gx,Al,Y hi,X,Af,hi,decide_true,if_true,vA,Jg];cases i with
    | zero=>cases G1 f.Surges[0]<;>simp
    | succ j=>
     have hj:j<f.Surges.length:=by omega
     rw[aC j (by omega)];simp only[Al,Y hj,X];have hp:(0:P)<((j+1:U):P):=by omega
     cases G1 f.Surges[j+1]<;>cases decide (f.Surges[j+1].From≤f.Surges[j].From)<;>simp
theorem NS(f:Xd):Gf f=G (Dj f):=by
 simp only[Gf,pc,Dw,X,Dj];cases ES f.Tide with
 | false=>rfl
 | true=>
  cases hb:(decide (1≤(f.Surges.length:P))&&decide ((f.Surges.length:P)≤6)) with
  | false=>rfl
  | true=>
   simp only[Z,decide_eq_true_eq] at hb
   have h0:0<f.Surges.length:=by omega
   have hl:f.Surges.length≤maxLen:=by rw[AA]; omega
   rw[G8 (L:=Gg f) f.Surges.length (Jg f.Surges) (G F) hl (fun n i hi=> ?_) (fun n=>by simp[Gg])]
   ·have e0:ix f.Surges 0=G f.Surges[0]:=Ai h0;simp only[e0,X,T6,Y h0,zC,if_true];by_cases e:f.Surges[0].From=0<;>cases(zB f.Surges.length).all (Jg f.Surges)<;>simp[e]
   ·simp only[Gg,Al,Y hi,X,Af,hi,decide_true,if_true,pZ,Jg];cases i with
    | zero=>cases G1 f.Surges[0]<;>simp
    | succ j=>
     have hj:j<f.Surges.length:=by omega
     rw[aC j (by omega)];simp only[Al,Y hj,X];have hp:(0:P)<((j+1:U):P):=by omega
     cases G1 f.Surges[j+1]<;>cases decide (f.Surges[j+1].From≤f.Surges[j].From)<;>simp
def C5(m:P):Q:=decide (0≤m)&&decide (m≤2880)
theorem wV{xs:H Xc}(h:xs.length≤1048576):MR xs=G xs:=by
 unfold MR;rw[Eb h (by omega)];have:=Hn (L:=Ic xs) xs id (FP h) (fun n i acc hi ha=>by simp[Ic,Al,hi,ha,PB]) (fun n acc=>by simp[Ic]) (zA xs.length ⟨0,0,0⟩) (by simp);simpa using this
theorem wZ{xs:H X9}(h:xs.length≤1048576):MV xs=G xs:=by
 unfold MV;rw[Eb h (by omega)];have:=Hn (L:=Ih xs) xs id (FP h) (fun n i acc hi ha=>by simp[Ih,Al,hi,ha,PG]) (fun n acc=>by simp[Ih]) (zA xs.length ⟨0,0,0⟩) (by simp);simpa using this
theorem wS{f:Xd}(h1:f.Tide.Parts.length≤1048576)(h2:f.Surges.length≤1048576):MP f=G f:=by
 simp[MP,PH,wV h1,wZ h2]
theorem lF(x y:Xc):Mr x y=G (decide (x=y)):=by
 unfold Mr;cases x; cases y;simp only[Xc.mk.injEq];repeat' split
 all_goals simp_all
theorem lE{xs ys:H Xc}(h:xs.length≤maxLen):Ms xs ys=G (decide (xs=ys)):=by
 unfold Ms;by_cases hl:xs.length=ys.length
 ·have:=JN (L:=I2 xs ys) xs ys h hl (fun n i h1 h2=>by simp[I2,Al,h1,h2,lF]) (fun n=>by simp[I2]);simp[hl,this]
 ·have:¬(xs.length:P)=ys.length:=by omega
  have:xs≠ys:=fun e=>hl (by rw[e])
  simp_all
theorem lN(x y:X9):MA x y=G (decide (x=y)):=by
 unfold MA;cases x; cases y;simp only[X9.mk.injEq];repeat' split
 all_goals simp_all
theorem lM{xs ys:H X9}(h:xs.length≤maxLen):MB xs ys=G (decide (xs=ys)):=by
 unfold MB;by_cases hl:xs.length=ys.length
 ·have:=JN (L:=I6 xs ys) xs ys h hl (fun n i h1 h2=>by simp[I6,Al,h1,h2,lN]) (fun n=>by simp[I6]);simp[hl,this]
 ·have:¬(xs.length:P)=ys.length:=by omega
  have:xs≠ys:=fun e=>hl (by rw[e])
  simp_all
theorem kz{f:Xd}(h1:f.Tide.Parts.length≤maxLen)(h2:f.Surges.length≤maxLen):Mp f f=G F:=by
 simp[Mp,Pv,lE h1,lM h2]
theorem wA{xs:H Xc}{l:P}(h0:0≤l)(h1:l≤1048576)(hx:xs.length≤maxLen):∃r,MH xs l=G r∧(0≤r→r≤l∧xs.length≤1048576):=by
 unfold MH;rw[AA] at hx
 rw[Am (by omega) (by omega)];by_cases h:l - (xs.length:P)<0
 ·exact⟨-1,by simp[h],by omega⟩
 ·exact⟨l - xs.length,by simp[h],by omega⟩
theorem wG{xs:H X9}{l:P}(h0:0≤l)(h1:l≤1048576)(hx:xs.length≤maxLen):∃r,MN xs l=G r∧(0≤r→r≤l∧xs.length≤1048576):=by
 unfold MN;rw[AA] at hx
 rw[Am (by omega) (by omega)];by_cases h:l - (xs.length:P)<0
 ·exact⟨-1,by simp[h],by omega⟩
 ·exact⟨l - xs.length,by simp[h],by omega⟩
theorem vu{f:Xd}{l:P}(h0:0≤l)(h1:l≤1048576)(hp:f.Tide.Parts.length≤maxLen)(hs:f.Surges.length≤maxLen) :
  ∃r,ME f l=G r∧(0≤r→r≤l∧f.Tide.Parts.length≤1048576∧f.Surges.length≤1048576):=by
 unfold ME Py;obtain⟨r,e,h⟩:=wA h0 h1 hp;by_cases hr:r<0
 ·exact⟨-1,by simp[e,hr],by omega⟩
 ·obtain⟨k1,k2⟩:=h (by omega);obtain⟨r',e',h'⟩:=wG (xs:=f.Surges) (l:=r) (by omega) (by omega) hs;by_cases hr':r'<0
  ·exact⟨-1,by simp[e,hr,e',hr'],by omega⟩
  ·obtain⟨k3,k4⟩:=h' (by omega);exact⟨r',by simp[e,hr,e',hr'],fun _=>⟨by omega,k2,k4⟩⟩
def F4(w:Xn):Q:=(decide (0≤w.Tugs)&&decide (w.Tugs≤12))&&((decide (0≤w.Pilots)&&decide (w.Pilots≤12))&&(C5 w.Rest&&(decide (w.Moves.length=64)&&w.Moves.all fun x=>decide (0≤x)&&decide (x≤240))))
theorem Qc(a b:Q):(if a=F then G b else G E)=G (a&&b):=by cases a<;>rfl
theorem Y6{l:H P}(h:l.length≤maxLen):GL l bigN 0=G (l.all fun x=>decide (0≤x)&&decide (x≤240)):=
 G7 (L:=GL l) l _ h (fun n i hi=>by simp[GL,Al,hi,BB]) (fun n=>by simp[GL])
theorem Y5{l:H P}(h:l.length≤maxLen):Gp l bigN 0=G (l.all fun x=>decide (0≤x)&&decide (x≤240)):=
 G7 (L:=Gp l) l _ h (fun n i hi=>by simp[Gp,Al,hi,Dw]) (fun n=>by simp[Gp])
theorem T2{w:Xn}(h:w.Moves.length≤maxLen):Im w=G (F4 w):=by
 simp only[Im,GK,BB,X,Y6 h,F4,C5];by_cases e:w.Moves.length=64
 ·have e':((w.Moves.length:P) !=64)=E:=by simp; omega
  simp only[e,e',C,if_false,decide_true,zC];cases(decide (0≤w.Tugs)&&decide (w.Tugs≤12))<;>cases(decide (0≤w.Pilots)&&decide (w.Pilots≤12))<;>cases(decide (0≤w.Rest)&&decide (w.Rest≤2880))<;>rfl
 ·have e':((w.Moves.length:P) !=64)=F:=by simp; omega
  simp only[e,e',if_true,decide_false,Bool.false_and,Bool.and_false];cases(decide (0≤w.Tugs)&&decide (w.Tugs≤12))<;>cases(decide (0≤w.Pilots)&&decide (w.Pilots≤12))<;>cases(decide (0≤w.Rest)&&decide (w.Rest≤2880))<;>rfl
theorem pR{w:Xn}(h:w.Moves.length≤maxLen):LK w=G (F4 w):=by
 simp only[LK,Gn,Dw,GT,X,Y5 h,F4,C5];by_cases e:w.Moves.length=64
 ·have e':((w.Moves.length:P) !=64)=E:=by simp; omega
  simp only[e,e',C,if_false,decide_true,zC,X];cases(decide (0≤w.Tugs)&&decide (w.Tugs≤12))<;>cases(decide (0≤w.Pilots)&&decide (w.Pilots≤12))<;>cases(decide (0≤w.Rest)&&decide (w.Rest≤2880))<;>rfl
 ·have e':((w.Moves.length:P) !=64)=F:=by simp; omega
  simp only[e,e',if_true,decide_false,Bool.false_and,Bool.and_false,X];cases(decide (0≤w.Tugs)&&decide (w.Tugs≤12))<;>cases(decide (0≤w.Pilots)&&decide (w.Pilots≤12))<;>cases(decide (0≤w.Rest)&&decide (w.Rest≤2880))<;>rfl
def Jc(r:Xi):Q:=decide (0≤r.Gap)&&decide (r.Gap≤60)
def B5(h:X6):Q:=Dj h.Forecast&&(AO h.Chart&&(DH h.Fleet&&(Jc h.Regime&&F4 h.Crew)))
structure HSmall (h:X6):Prop where
 pn:∀x∈h.Chart.Points,x.Name.length≤maxLen
 fn:∀x∈h.Fleet,x.Name.length≤maxLen
 mv:h.Crew.Moves.length≤maxLen
theorem YP{h:X6}(s:HSmall h):Ky h=G (B5 h):=by
 simp only[Ky,IA,YO,DQ s.pn,YN s.fn,T2 s.mv,BB,X,Qc,B5,Jc]
theorem WL{h:X6}(s:HSmall h):JS h=G (B5 h):=by
 simp only[JS,Pj,NS,FM s.pn,WK s.fn,pR s.mv,Dw,X,Qc,B5,Jc]
theorem EQ{c:X1}(h:AO c=F):c.Points.length≤8∧c.Segments.length≤10∧∀x∈c.Segments,0≤x.Depth∧x.Depth≤3000∧1≤x.Minutes∧x.Minutes≤240:=by
 simp only[AO,Z,decide_eq_true_eq,zM,yP] at h;obtain⟨h1,h2,h3,h4⟩:=h;refine⟨h1,h2,fun x hx=> ?_⟩;obtain⟨i,hi,rfl⟩:=zX hx;have:=h4 i hi;simp only[DP,Y hi,Z,decide_eq_true_eq] at this
 omega
def C7(c:X1)(fl:H X4)(p:X3):Q:=idx p.Ship fl.length&&(idx p.Segment c.Segments.length&&(C5 p.Start&&(decide (p.End≤2880)&&decide (p.End=yQ .i64 (p.Start+AF (Aq c p.Segment) (AL fl p.Ship))))))
theorem YR{c:X1}{s:X4}{i:P}(hn:∀x∈c.Points,x.Name.length≤maxLen)(hs:s.Name.length≤maxLen)(h1:AO c=F)(h2:Cj s=F)(h3:idx i c.Segments.length=F):KA c i s=G (AF (Aq c i) s):=by
 have:=(EQ h1).2.1;unfold KA;simp only[DQ hn,Lg hs,h1,h2,X,if_true,CP i (show c.Segments.length≤1000 by omega),h3,(BJ h3).1,OD]
theorem YS{c:X1}{fl:H X4}{p:X3}(hn:∀x∈c.Points,x.Name.length≤maxLen)(hf:∀x∈fl,x.Name.length≤maxLen)(h1:AO c=F)(h2:DH fl=F):KE c fl p=G (C7 c fl p):=by
 unfold KE;simp only[DQ hn,YN hf,X,h1,h2];have s1:=(EQ h1).2.1;have s2:=(IU h2).1;simp only[if_true,CP p.Ship (show fl.length≤1000 by omega),CP p.Segment (show c.Segments.length≤1000 by omega),X,BB,C7,C5];cases h3:idx p.Ship fl.length with
 | false=>simp
 | true=>
  cases h4:idx p.Segment c.Segments.length with
  | false=>simp
  | true=>
   cases h5:decide (0≤p.Start)&&decide (p.Start≤2880) with
   | false=>simp
   | true=>
    have hsh:=(IU h2).2 _ (ED h3).2;simp only[if_true,zC,(ED h3).1,X,YR hn (hf _ (ED h3).2) h1 hsh h4];by_cases e:p.End=yQ .i64 (p.Start+AF (Aq c p.Segment) (AL fl p.Ship))<;>simp[e]
theorem pi{c:X1}{fl:H X4}{p:X3}:Mg c fl p=G (C7 c fl p):=by
 unfold Mg;simp only[E7,X,GT,C7,C5];cases h3:idx p.Ship fl.length with
 | false=>simp
 | true=>
  cases h4:idx p.Segment c.Segments.length with
  | false=>simp
  | true=>
   cases h5:decide (0≤p.Start)&&decide (p.Start≤2880) with
   | false=>simp
   | true=>
    simp only[if_true,zC,(ED h3).1,(BJ h4).1,X,NT];have e0:decide (2880<p.End)= !decide (p.End≤2880):=by rw[zE]; simp
    rw[e0];cases decide (p.End≤2880)<;>simp;rfl
theorem DM{c:X1}{fl:H X4}{p:X3}(hc:AO c=F)(h:C7 c fl p=F):idx p.Ship fl.length=F∧idx p.Segment c.Segments.length=F∧0≤p.Start∧p.Start≤p.End∧p.End≤2880:=by
 simp only[C7,C5,Z,decide_eq_true_eq] at h;obtain⟨h3,h4,h5,h6,h7⟩:=h;refine⟨h3,h4,h5.1,?_,h6⟩;obtain⟨_,_,a,b⟩:=(EQ hc).2.2 _ (BJ h4).2;rw[h7];unfold AF;split
 ·rw[Am (n:=2*_) (by omega) (by omega),Am (by omega) (by omega)]; omega
 ·rw[Am (by omega) (by omega)]; omega
theorem vw{a:X6}{l:P}(h0:0≤l)(h1:l≤1048576)(q1:a.Forecast.Tide.Parts.length≤maxLen)(q2:a.Forecast.Surges.length≤maxLen)(q3:a.Chart.Points.length≤maxLen)(q4:a.Chart.Segments.length≤maxLen)(q5:a.Fleet.length≤maxLen)(s:HSmall a) :
  ∃r,MF a l=G r∧(0≤r→r≤l∧a.Forecast.Tide.Parts.length≤1048576∧a.Forecast.Surges.length≤1048576∧a.Chart.Points.length≤1048576∧a.Chart.Segments.length≤1048576∧a.Fleet.length≤1048576∧a.Crew.Moves.length≤1048576):=by
 unfold MF Pw;obtain⟨r1,e1,k1⟩:=vu (f:=a.Forecast) h0 h1 q1 q2;by_cases c1:r1<0
 ·exact⟨-1,by simp[e1,c1],by omega⟩
 obtain⟨b1,b2,b3⟩:=k1 (by omega);obtain⟨r2,e2,k2⟩:=vt (c:=a.Chart) (l:=r1) (by omega) (by omega) q3 q4 s.pn;by_cases c2:r2<0
 ·exact⟨-1,by simp[e1,c1,e2,c2],by omega⟩
 obtain⟨b4,b5,b6⟩:=k2 (by omega);obtain⟨r3,e3,k3⟩:=wE (xs:=a.Fleet) (l:=r2) (by omega) (by omega) q5 s.fn;by_cases c3:r3<0
 ·exact⟨-1,by simp[e1,c1,e2,c2,e3,c3],by omega⟩
 obtain⟨b7,b8⟩:=k3 (by omega);obtain⟨r4,e4,k4⟩:=vz (xs:=a.Crew.Moves) (l:=r3) (by omega) (by omega) s.mv;by_cases c4:r4<0
 ·exact⟨-1,by simp[e1,c1,e2,c2,e3,c3,e4,c4],by omega⟩
 obtain⟨b9,b10⟩:=k4 (by omega);exact⟨r4,by simp[e1,c1,e2,c2,e3,c3,e4,c4],fun _=>⟨by omega,b2,b3,b5,b6,b8,b10⟩⟩
theorem wT{a:X6}(q1:a.Forecast.Tide.Parts.length≤1048576)(q2:a.Forecast.Surges.length≤1048576)(q3:a.Chart.Points.length≤1048576)(q4:a.Chart.Segments.length≤1048576)(q5:a.Fleet.length≤1048576)(q6:a.Crew.Moves.length≤1048576):Gv a=G a:=by
 simp[Gv,PD,PA,wS q1 q2,wP q3 q4,wY q5,wU q6]
theorem lD{a:X6}(q1:a.Forecast.Tide.Parts.length≤maxLen)(q2:a.Forecast.Surges.length≤maxLen)(q3:a.Chart.Points.length≤maxLen)(q4:a.Chart.Segments.length≤maxLen)(q5:a.Fleet.length≤maxLen)(q6:a.Crew.Moves.length≤maxLen):Mq a a=G F:=by
 simp[Mq,Pu,Pt,kz q1 q2,ky q3 q4,lK q5,UY q6]
theorem oT{a:X6}(ok:∀d∈X6.row a,d.Ok):a.Forecast.Tide.Parts.length≤maxLen∧a.Forecast.Surges.length≤maxLen∧a.Chart.Points.length≤maxLen∧a.Chart.Segments.length≤maxLen∧a.Fleet.length≤maxLen∧HSmall a:=by
 have h1:=ok (D.sl (yG Xc.row a.Forecast.Tide.Parts)) (by simp[X6.row_eq]);have h2:=ok (D.sl (yG X9.row a.Forecast.Surges)) (by simp[X6.row_eq]);have h3:=ok (D.sl (yG X7.row a.Chart.Points)) (by simp[X6.row_eq]);have h4:=ok (D.sl (yG X2.row a.Chart.Segments)) (by simp[X6.row_eq]);have h5:=ok (D.sl (yG X4.row a.Fleet)) (by simp[X6.row_eq]);have h6:=ok (D.sl (yG rI a.Crew.Moves)) (by simp[X6.row_eq]);refine⟨GV h1,GV h2,GV h3,GV h4,GV h5,⟨fun x hx=> ?_,(ui h5).2,GV h6⟩⟩;exact(h3.sl.2 (X7.row x) (List.mem_map_of_mem hx) (.str x.Name) (by simp[X7.row_eq])).str
theorem ex{m n b:U}(h:m+n≤2000000)(hb:b≤1000):A3 m n b=F:=by
 unfold A3;rw[decide_eq_true_eq];have:(m+n)*b≤2000000*1000:=yC h hb;omega
theorem NR{α:Type}{m n b:U}(h:m+n≤2000000)(hb:b≤1000)(x y:α):(if A3 m n b=F then x else y)=x:=by rw[if_pos (ex h hb)]
theorem EU{n:P}(h0:0≤n)(h1:n<18446744073709551616):IntKind.u64.wrap n=n:=by
 simp only[IntKind.wrap,IntKind.bits,IntKind.signed];have:n % 18446744073709551616=n:=Int.emod_eq_of_lt h0 h1;simp[this]
theorem Ec{n:U}(h:n<2 ^ 63):yQ .i64 (n:P)=n:=Am (by omega) (by omega)
theorem L8{n:U}(h:n<2 ^ 64):IntKind.u64.wrap (n:P)=n:=EU (by omega) (by omega)
theorem Of{s n:U}(h:∀i,s.testBit i=F→i<n):s<2 ^ n:=Nat.lt_pow_two_of_testBit s fun i hi=>by
 cases hb:s.testBit i with
 | false=>rfl
 | true=>have:=h i hb; omega
theorem Uh{a b n:U}(h:a<2 ^ n):AG a b<2 ^ n:=Of fun i hi=>by
 rw[ER,Z] at hi
 exact H9 h hi.1
theorem H1{w n:U}(h:n<2 ^ w):(BitVec.ofInt w (n:P)).toNat=n:=by
 rw[BitVec.ofInt_natCast,BitVec.toNat_ofNat,Nat.mod_eq_of_lt h]
theorem UA{w a b:U}(ha:a<2 ^ w)(hb:b<2 ^ w):(BitVec.ofInt w (a:P) &&& ~~~ BitVec.ofInt w (b:P)).toNat=AG a b:=by
 rw[BitVec.toNat_and,BitVec.toNat_not,H1 ha,H1 hb];apply zU
 intro i;rw[show 2 ^ w - 1 - b=2 ^ w - (b+1) by omega,zY,Nat.testBit_two_pow_sub_succ hb,ER];cases hi:a.testBit i with
 | false=>rfl
 | true=>simp[H9 ha hi]
theorem ee{a b:U}(ha:a<2 ^ 63)(hb:b<2 ^ 63):Bf .and .i64 (a:P) (b:P)=((a &&& b:U):P):=by
 show yQ .i64 ((BitVec.ofInt 64 (a:P) &&& BitVec.ofInt 64 (b:P)).toNat:P)=_
 rw[BitVec.toNat_and,H1 (zK ha (by decide)),H1 (zK hb (by decide)),Ec (Nat.and_lt_two_pow a hb)]
theorem tG{a b:U}(ha:a<2 ^ 63)(hb:b<2 ^ 63):Bf .or .i64 (a:P) (b:P)=((a ||| b:U):P):=by
 show yQ .i64 ((BitVec.ofInt 64 (a:P) ||| BitVec.ofInt 64 (b:P)).toNat:P)=_
 rw[BitVec.toNat_or,H1 (zK ha (by decide)),H1 (zK hb (by decide)),Ec (yD ha hb)]
theorem Uf{a b:U}(ha:a<2 ^ 63)(hb:b<2 ^ 63):Bf .andNot .i64 (a:P) (b:P)=((AG a b:U):P):=by
 show yQ .i64 ((BitVec.ofInt 64 (a:P) &&& ~~~ BitVec.ofInt 64 (b:P)).toNat:P)=_
 rw[UA (zK ha (by decide)) (zK hb (by decide)),Ec (Uh ha)]
theorem SN{a b:U}(ha:a<2 ^ 64)(hb:b<2 ^ 64):Bf .or .u64 (a:P) (b:P)=((a ||| b:U):P):=by
 show IntKind.u64.wrap ((BitVec.ofInt 64 (a:P) ||| BitVec.ofInt 64 (b:P)).toNat:P)=_
 rw[BitVec.toNat_or,H1 ha,H1 hb,L8 (yD ha hb)]
theorem Lv{a b:U}(ha:a<2 ^ 64)(hb:b<2 ^ 64):Bf .andNot .u64 (a:P) (b:P)=((AG a b:U):P):=by
 show IntKind.u64.wrap ((BitVec.ofInt 64 (a:P) &&& ~~~ BitVec.ofInt 64 (b:P)).toNat:P)=_
 rw[UA ha hb,L8 (Uh ha)]
theorem QG{n:U}(h:n≤20):Bn .i64 (1:P) (n:P)=((2 ^ n:U):P):=by
 have hp:2 ^ n<2 ^ 63:=zV (by omega) (by omega);unfold Bn;rw[zD,show min n IntKind.i64.bits=n by simp[IntKind.bits]; omega,Int.one_mul];have:((2:P) ^ n)=((2 ^ n:U):P):=by simp
 rw[this,Ec hp]
theorem T1{n:U}(h:n≤20):Bn .u64 (1:P) (n:P)=((2 ^ n:U):P):=by
 have hp:2 ^ n<2 ^ 64:=zV (by omega) (by omega);unfold Bn;rw[zD,show min n IntKind.u64.bits=n by simp[IntKind.bits]; omega,Int.one_mul];have:((2:P) ^ n)=((2 ^ n:U):P):=by simp
 rw[this,L8 hp]
theorem fg(n:U):((n:P)==(0:P))=decide (n=0):=by
 rw[zE];simp
def XM:H V:= [0,1,2,2,3,3,3,3,4,4,4,4,4,4,4,4,5,5,5,5,5,5,5,5,5,5,5,5,5,5,5,5,6,6,6,6,6,6,6,6,6,6,6,6,6,6,6,6,6,6,6,6,6,6,6,6,6,6,6,6,6,6,6,6,7,7,7,7,7,7,7,7,7,7,7,7,7,7,7,7,7,7,7,7,7,7,7,7,7,7,7,7,7,7,7,7,7,7,7,7,7,7,7,7,7,7,7,7,7,7,7,7,7,7,7,7,7,7,7,7,7,7,7,7,7,7,7,7,8,8,8,8,8,8,8,8,8,8,8,8,8,8,8,8,8,8,8,8,8,8,8,8,8,8,8,8,8,8,8,8,8,8,8,8,8,8,8,8,8,8,8,8,8,8,8,8,8,8,8,8,8,8,8,8,8,8,8,8,8,8,8,8,8,8,8,8,8,8,8,8,8,8,8,8,8,8,8,8,8,8,8,8,8,8,8,8,8,8,8,8,8,8,8,8,8,8,8,8,8,8,8,8,8,8,8,8,8,8,8,8,8,8,8,8,8,8,8,8,8,8,8,8,8,8,8,8]
theorem rP(v8 v9:P):Kn v8 v9=(ix XM (IntKind.u8.wrap v8)).bind fun b10=>G (yQ .i64 (v9+(yQ .i64 (b10.toNat:P)))):=rfl
def XL(x:U):Q:=match XM[x]? with
 | some b=>decide (b.toNat≤8)&&(decide (x<2 ^ b.toNat)&&(x==0 || (decide (1≤b.toNat)&&decide (2 ^ (b.toNat - 1)≤x))))
 | none=>E
theorem rQ:(zB 256).all XL=F:=by kernel_rfl
theorem XK{x:U}(hx:x<256)(n:P):∃l:U,Kn (x:P) n=G (yQ .i64 (n+(l:P)))∧l≤8∧x<2 ^ l∧(0<x→1≤l∧2 ^ (l - 1)≤x):=by
 have h:=zM.1 rQ x (by simpa using hx);unfold XL at h;split at h
 ·rename_i b hb
  simp only[Z,decide_eq_true_eq,yO,beq_iff_eq] at h
  have hw:IntKind.u8.wrap (x:P)=(x:P):=by
   simp only[IntKind.wrap,IntKind.bits,IntKind.signed];have:(x:P) % 256=x:=Int.emod_eq_of_lt (by omega) (by omega);simp[this]
  refine⟨b.toNat,?_,h.1,h.2.1,fun h0=> ?_⟩
  ·rw[rP,hw,Al,hb,X,Ec (n:=b.toNat) (by omega)]
  ·rcases h.2.2 with h3|h3
   ·omega
   ·exact h3
 ·cases h
theorem rX{s:U}(h1:1≤s)(h2:s<4096):∃t:U,Km (s:P)=G ((t+1:U):P)∧2 ^ t≤s∧s<2 ^ (t+1)∧t<12:=by
 have key:∃l:U,Km (s:P)=G ((l:U):P)∧1≤l∧2 ^ (l - 1)≤s∧s<2 ^ l:=by
  unfold Km PI;rw[if_neg (by simp; omega)];unfold MW;rw[if_neg (by simp; omega)];unfold MX;by_cases hs:s<256
  ·rw[if_neg (by simp; omega)];obtain⟨l,e,l8,a1,a2⟩:=XK hs 0;obtain⟨a3,a4⟩:=a2 h1;refine⟨l,?_,a3,a4,a1⟩;rw[e,X,Int.zero_add,Ec (by omega)]
  ·rw[if_pos (by simp; omega)]
   have e8:CF .u64 (s:P) 8=((s / 256:U):P):=by
    unfold CF;rw[show min 8 IntKind.u64.bits=8 by rfl,Int.fdiv_eq_ediv_of_nonneg _ (by decide)];have:((s:P) / 2 ^ 8)=((s / 256:U):P):=by simp
    rw[this,L8 (by omega)]
   have e9:yQ .i64 ((0:P)+8)=((8:U):P):=by rw[Am (by omega) (by omega)]; rfl
   rw[e8,e9];obtain⟨l,e,l8,a1,a2⟩:=XK (x:=s / 256) (by omega) ((8:U):P);obtain⟨a3,a4⟩:=a2 (by omega);refine⟨8+l,?_,by omega,?_,?_⟩
   ·have:((8:U):P)+(l:P)=((8+l:U):P):=by omega
    rw[e,X,this,Ec (by omega)]
   ·rw[show 8+l - 1=(l - 1)+8 by omega,Nat.pow_add];omega
   ·rw[Nat.add_comm,Nat.pow_add];omega
 obtain⟨l,e,a1,a2,a3⟩:=key;obtain⟨t,rfl⟩:∃t,l=t+1:=⟨l - 1,by omega⟩;refine⟨t,e,by simpa using a2,a3,?_⟩;rcases zI t 12 with h|h
 ·exact h
 ·have:=zT (show 0<2 by omega) h;simp at a2
  omega
theorem Td{s t:U}(h1:2 ^ t≤s)(h2:s<2 ^ (t+1)):s.testBit t=F∧AG s (2 ^ t)<2 ^ t∧(∀i,(AG s (2 ^ t)).testBit i=F→s.testBit i=F)∧(∀i,s.testBit i=F→i=t∨(AG s (2 ^ t)).testBit i=F):=by
 have hb:∀i,(AG s (2 ^ t)).testBit i=(s.testBit i&& !decide (t=i)):=fun i=>by rw[ER,Jk]
 refine⟨Nat.testBit_of_two_pow_le_and_two_pow_add_one_gt h1 h2,Of fun i hi=> ?_,fun i hi=> ?_,fun i hi=> ?_⟩
 ·rw[hb,Z] at hi
  have:=H9 h2 hi.1;have h3:t≠i:=by simpa using hi.2
  omega
 ·rw[hb,Z] at hi
  exact hi.1
 ·by_cases h:i=t
  ·exact .inl h
  ·right
   rw[hb,hi];simpa using fun e:t=i=>h e.symm
theorem FY{α β R:Type}{L:U→P→H β→O R}(xs:H α)(g:α→β)(K:H β→O R)(hl:xs.length≤maxLen)
  (hs:∀(n i:U) (acc:H β) (h:i<xs.length),acc.length=i→L (n+1) (i:P) acc=L n (yQ .i64 ((i:P)+1)) (acc++ [g xs[i]])) (he:∀n acc,acc.length=xs.length→L (n+1) (xs.length:P) acc=K acc):L bigN 0 []=K (xs.map g):=by
 have key:∀(k i n:U) (acc:H β),i+k=xs.length→k<n→acc=(xs.take i).map g→L n (i:P) acc=K (xs.map g):=by
  intro k
  induction k with
  | zero=>
   intro i n acc hi hn ha;obtain⟨m,rfl⟩:∃m,n=m+1:=⟨n - 1,by omega⟩;have:i=xs.length:=by omega
   subst this;rw[yM] at ha
   rw[he m acc (by rw[ha]; simp),ha]
  | succ k ih=>
   intro i n acc hi hn ha;obtain⟨m,rfl⟩:∃m,n=m+1:=⟨n - 1,by omega⟩;have hlt:i<xs.length:=by omega
   rw[hs m i acc hlt (by rw[ha]; simp; omega),Aw hlt hl];refine ih (i+1) m _ (by omega) (by omega) ?_;rw[zH hlt,List.map_append,ha];rfl
 exact key xs.length 0 bigN [] (by omega) (Bx hl) (by simp)
def Bl(d:Xb):Q:=decide (0≤d.From)&&(decide (d.From<d.To)&&(decide (d.To≤2880)&&((decide (0≤d.A)&&decide (d.A<8))&&(decide (0≤d.B)&&decide (d.B<8)))))
theorem T3(d:Xb):IL d=G (Bl d):=by
 unfold IL Bl;have e7:∀x:P,decide (x≤7)=decide (x<8):=fun x=>decide_eq_decide.2 (by omega)
 simp only[BB,X,e7];by_cases h2:d.From<d.To
 ·by_cases h3:d.To≤2880
  ·have h8:d.From≤2880:=by omega
   simp only[h2,h3,h8,decide_true,if_true,Bool.and_true,zC];cases decide (0≤d.From)<;>cases(decide (0≤d.A)&&decide (d.A<8))<;>rfl
  ·simp[h2,h3]
 ·simp[h2]
theorem uu{l:H Xb}:N4 l=G (decide (l.length≤12)&&l.all Bl):=by
 unfold N4;by_cases h:l.length≤12
 ·rw[if_neg (by simp; omega),G7 (L:=Ip l) l Bl (by rw[AA]; omega) (fun n i hi=>by simp[Ip,Al,hi,T3]) (fun n=>by simp[Ip])];simp[h]
 ·rw[if_pos (by simp; omega)];simp[h]
theorem pP{R:Type}(a b c d e:Q)(x y:R):(if(!a)=F then y else if(!b)=F then y else if(!c)=F then y else if d=F then(if e=F then x else y) else y)=if(a&&(b&&(c&&(d&&e))))=F then x else y:=by
 cases a<;>cases b<;>cases c<;>cases d<;>cases e<;>rfl
theorem Sn{l:H Xb}:Hx l=G (decide (l.length≤12)&&l.all Bl):=by
 unfold Hx;by_cases h:l.length≤12
 ·rw[if_neg (by simp; omega),G7 (L:=Hy l) l Bl (by rw[AA]; omega) (fun n i hi=> ?_) (fun n=>by simp[Hy])]
  ·simp[h]
  ·simp only[Hy,Af,hi,decide_true,if_true,Ai hi,X,KZ,Bl];generalize l[i]=d
   have g1:decide (d.From<0)= !decide (0≤d.From):=by by_cases h:0≤d.From<;>simp[h]<;>omega
   have g2:decide (d.To≤d.From)= !decide (d.From<d.To):=by by_cases h:d.From<d.To<;>simp[h]<;>omega
   have g3:decide (2880<d.To)= !decide (d.To≤2880):=by by_cases h:d.To≤2880<;>simp[h]<;>omega
   simp only[g1,g2,g3];exact pP _ _ _ _ _ _ _
 ·rw[if_pos (by simp; omega)];simp[h]
def EK(m:H P):Q:=decide (m.length=64)&&m.all fun x=>decide (0≤x)&&decide (x≤240)
def DR(p:P)(m:H P):Q:=C5 p&&EK m
theorem YT{p:P}{m:H P}(h:m.length≤maxLen):GK p m=G (DR p m):=by
 unfold GK DR EK C5;rw[BB,X,Y6 h];by_cases h1:m.length=64
 ·cases(decide (0≤p)&&decide (p≤2880))<;>simp[h1]
 ·have:((m.length:P) !=64)=F:=by simpa using(by omega:¬((m.length:P)=64))
  cases(decide (0≤p)&&decide (p≤2880))<;>simp[h1,this]
theorem WR{m:H P}(h:m.length≤maxLen):Gn m=G (EK m):=by
 unfold Gn EK;rw[Y5 h];by_cases h1:m.length=64
 ·simp[h1]
 ·have:((m.length:P) !=64)=F:=by simpa using(by omega:¬((m.length:P)=64))
  simp[h1,this]
theorem XZ(p:P):D4 p=G (C5 p):=by rw[GT]; rfl
def CO(p:P)(m:H P)(d e:Xb):Q:=decide (yQ .i64 (d.To+yQ .i64 (p+m[(8*d.B+e.A).toNat]?.getD 0))≤e.From)
theorem Pd{d:Xb}(h:Bl d=F):0≤d.From∧d.From<d.To∧d.To≤2880∧0≤d.A∧d.A<8∧0≤d.B∧d.B<8:=by
 simp only[Bl,Z,decide_eq_true_eq] at h;omega
theorem Y4{m:H P}(hm:EK m=F){b a:P}(h0:0≤b)(h1:b<8)(h2:0≤a)(h3:a<8):ix m (8*b+a)=G (m[(8*b+a).toNat]?.getD 0):=by
 simp only[EK,Z,decide_eq_true_eq] at hm
 obtain⟨k,hk⟩:∃k:U,8*b+a=(k:P):=⟨(8*b+a).toNat,by omega⟩;rw[hk,Al,zD,Y (by omega)];rfl
theorem YW{p:P}{m:H P}{d e:Xb}(hl:m.length≤maxLen)(ht:DR p m=F)(hd:Bl d=F)(he:Bl e=F):Kt p m d e=G (CO p m d e):=by
 obtain⟨_,_,_,_,_,b0,b1⟩:=Pd hd;obtain⟨_,_,_,a0,a1,_,_⟩:=Pd he;have ht':=ht;simp only[DR,Z] at ht'
 unfold Kt PJ;have c1:(decide (0≤d.B)&&decide (d.B≤7))=F:=by simp; omega
 have c2:(decide (0≤e.A)&&decide (e.A≤7))=F:=by simp; omega
 rw[YT hl,ht,X,if_pos rfl,BB,c1,X,if_pos rfl,BB,c2,X];unfold Kx;rw[if_neg (by simp),Int.mul_comm d.B 8,Am (n:=8*d.B) (by omega) (by omega),Am (n:=8*d.B+e.A) (by omega) (by omega),Y4 ht'.2 b0 b1 a0 a1,X,X,if_pos rfl,T3,hd,X,if_pos rfl,T3,he,X,if_pos rfl];rfl
theorem WQ{p:P}{m:H P}{d e:Xb}(hl:m.length≤maxLen)(ht:DR p m=F)(hd:Bl d=F)(he:Bl e=F):JP p m d e=G (CO p m d e):=by
 obtain⟨_,_,_,_,_,b0,b1⟩:=Pd hd;obtain⟨_,_,_,a0,a1,_,_⟩:=Pd he;have ht':=ht;simp only[DR,Z] at ht'
 unfold JP Ph;have c1:(decide (0≤d.B)&&decide (d.B<8))=F:=by simp; omega
 have c2:(decide (0≤e.A)&&decide (e.A<8))=F:=by simp; omega
 have o1:(decide ([d].length≤12)&& [d].all Bl)=F:=by simp[hd]
 have o2:(decide ([e].length≤12)&& [e].all Bl)=F:=by simp[he]
 rw[XZ,ht'.1,X,if_pos rfl,WR hl,ht'.2,X,if_pos rfl,KZ,c1,X,if_pos rfl,KZ,c2,X];unfold HB;rw[if_neg (by simp),Am (n:=8*d.B) (by omega) (by omega),Am (n:=8*d.B+e.A) (by omega) (by omega),Y4 ht'.2 b0 b1 a0 a1,X,X,if_pos rfl,Sn,o1,X,if_pos rfl,Sn,o2,X,if_pos rfl];rfl
def B6(p:P)(m:H P)(l:H Xb)(i k:U):Q:=match l[i]?,l[k]? with
 | some d,G e=>CO p m d e || CO p m e d
 | _,_=>E
theorem Uz(p:P)(m:H P)(l:H Xb)(i k:U):B6 p m l i k=B6 p m l k i:=by
 unfold B6;cases l[i]?<;>cases l[k]?<;>simp[Bool.or_comm]
theorem F1{n m b:U}(h:n+m≤1000000)(hb:b≤100):A3 n m b=F:=by
 unfold A3;have:(n+m)*b≤1000000*100:=yC h hb;simp;omega
def nn(ms:H U):H P:=ms.map fun x:U=>(x:P)
theorem C6(ms:H U):(nn ms).length=ms.length:=by simp[nn]
theorem Ds{ms:H U}{i:U}(h:i<ms.length):ix (nn ms) (i:P)=G ((ms[i]:U):P):=by
 rw[Al,nn,yE,Y h]; rfl
theorem J8(ms:H U)(i a:U):(nn ms).set i (a:P)=nn (ms.set i a):=by simp[nn,List.map_set]
theorem Y8(ms:H U)(a:U):nn ms++ [(a:P)]=nn (ms++ [a]):=by simp[nn]
section
variable {p : P} {m : H P} {l : H Xb}
theorem Uy{i k:U}(hi:i<l.length)(hk:k<l.length):B6 p m l i k=(CO p m l[i] l[k] || CO p m l[k] l[i]):=by
 unfold B6;rw[Y hi,Y hk]
def Ci(p:P)(m:H P)(l:H Xb):H (H Q):=l.map fun d=>l.map fun e=>CO p m d e || CO p m e d
theorem uK{i k:U}(hi:i<l.length)(hk:k<l.length):∃x,ix (Ci p m l) (i:P)=G x∧ix x (k:P)=G (B6 p m l i k):=by
 refine⟨l.map fun e=>CO p m l[i] e || CO p m e l[i],?_,?_⟩
 ·rw[Al,Ci,yE,Y hi]; rfl
 ·rw[Al,yE,Y hk,Uy hi hk]; rfl
theorem ut(hl:m.length≤maxLen)(ht:DR p m=F)(hd:∀d∈l,Bl d=F)(hN:l.length≤12):Ny p m l=G (Ci p m l):=by
 have hm:l.length≤maxLen:=by rw[AA]; omega
 unfold Ny;refine FY (L:=FE p m l) l (fun d=>l.map fun e=>CO p m d e || CO p m e d) G hm (fun n i acc h ha=> ?_) (fun n acc ha=>by simp[FE]);rw[FE,Af,if_pos (by simpa using h),Ai h,X];rw[FY (L:=GI p m l (i:P) l[i] acc (FE p m l n)) l (fun e=>CO p m l[i] e || CO p m e l[i]) (fun row=>FE p m l n (yQ .i64 ((i:P)+1)) (acc++ [row])) hm (fun n2 k acc2 hk ha2=> ?_) (fun n2 acc2 ha2=> ?_)]
 ·rw[GI,Af,if_pos (by simpa using hk),Ai hk,X,YW hl ht (hd _ (I h)) (hd _ (I hk)),X,YW hl ht (hd _ (I hk)) (hd _ (I h))];have a1:∀b:Q,A3 acc2.length [b].length 1=F:=fun b=>F1 (by simp; omega) (by omega)
  cases CO p m l[i] l[k] with
  | true=>rw[if_pos rfl,if_pos (a1 F)]; rfl
  | false=>rw[if_neg (by simp),X,if_pos (a1 _)]; rfl
 ·rw[GI,if_neg (by simp),if_pos (F1 (by simp; omega) (by omega))]
def Hd(p:P)(m:H P)(l:H Xb)(i j:U):Q:=decide (j<l.length)&&(decide (i≠j)&&B6 p m l i j)
theorem tO(hl:m.length≤maxLen)(ht:DR p m=F)(hd:∀d∈l,Bl d=F)(hN:l.length≤12)(K:P→H P→O (H P)){i:U}(hi:i<l.length)(ms:H U)(hms:ms.length=l.length) :
  ∀(r k n a:U),k+r=l.length→r<n→(∀j,a.testBit j=(decide (j<k)&&(decide (i≠j)&&B6 p m l i j)))→
   ∃q,(∀j,q.testBit j=Hd p m l i j)∧E0 p m l (i:P) l[i] K n (k:P) (nn (ms.set i a))=K (yQ .i64 ((i:P)+1)) (nn (ms.set i q)):=by
 have hm:l.length≤maxLen:=by rw[AA]; omega
 intro r
 induction r with
 | zero=>
  intro k n a hk hn ha;obtain⟨n,rfl⟩:∃n',n=n'+1:=⟨n - 1,by omega⟩;refine⟨a,fun j=> ?_,?_⟩
  ·rw[ha,show k=l.length by omega]; rfl
  ·rw[E0,if_neg (by simp; omega)]
 | succ r ih=>
  intro k n a hk hn ha;obtain⟨n,rfl⟩:∃n',n=n'+1:=⟨n - 1,by omega⟩;have hlt:k<l.length:=by omega
  have a12:a<2 ^ 12:=Of fun j hj=>by
   rw[ha,Z,decide_eq_true_eq] at hj; omega
  have step:∀v:Q,v=(decide (i≠k)&&B6 p m l i k)→∃q,(∀j,q.testBit j=Hd p m l i j)∧HT p m l (i:P) (k:P) l[i] (nn (ms.set i a)) (E0 p m l (i:P) l[i] K n) v=K (yQ .i64 ((i:P)+1)) (nn (ms.set i q)):=by
   intro v hv;unfold HT;cases v with
   | true=>
    rw[if_pos rfl,Ds (by simp; omega),X,if_neg (by simp),T1 (by omega),yH];have h12:2 ^ k<2 ^ 64:=zV (by omega) (by omega);rw[SN (zK a12 (by decide)) h12,zD,J8,List.set_set,Aw hlt hm];refine ih (k+1) n _ (by omega) (by omega) fun j=> ?_
    rw[zR,ha,Jk];by_cases hjk:k=j
    ·subst hjk;have hx:¬i=k∧B6 p m l i k=F:=by simpa using hv.symm
     simp[hx.1,hx.2]
    ·have e:decide (j<k+1)=decide (j<k):=decide_eq_decide.2 (by omega);rw[e];simp[hjk]
   | false=>
    rw[if_neg (by simp),Aw hlt hm];refine ih (k+1) n a (by omega) (by omega) fun j=> ?_
    rw[ha];by_cases hjk:k=j
    ·subst hjk;rw[← hv];simp
    ·have e:decide (j<k+1)=decide (j<k):=decide_eq_decide.2 (by omega);rw[e]
  rw[E0,Af,if_pos (by simpa using hlt),Ai hlt,X];by_cases hik:i=k
  ·subst hik;rw[if_neg (by simp)];exact step E (by simp)
  ·have hne:((i:P) !=(k:P))=F:=by simp; omega
   rw[if_pos hne,WQ hl ht (hd _ (I hi)) (hd _ (I hlt)),X];have hb:=Uy (p:=p) (m:=m) hi hlt;cases hf:CO p m l[i] l[k] with
   | true=>
    rw[if_pos rfl];exact step F (by rw[hb,hf]; simp[hik])
   | false=>
    rw[if_neg (by simp),WQ hl ht (hd _ (I hlt)) (hd _ (I hi)),X];exact step _ (by rw[hb,hf]; simp[hik])
theorem ph(hl:m.length≤maxLen)(ht:DR p m=F)(hd:∀d∈l,Bl d=F)(hN:l.length≤12):∃ms:H U,ms.length=l.length∧(∀i j:U,i<l.length→(ms[i]?.getD 0).testBit j=Hd p m l i j)∧Mf p m l=G (nn ms):=by
 have hm:l.length≤maxLen:=by rw[AA]; omega
 have key:∀(r i n:U) (ms:H U),i+r=l.length→r<n→ms.length=l.length→(∀i' j:U,i'<i→(ms[i']?.getD 0).testBit j=Hd p m l i' j)→(∀i':U,i≤i'→ms[i']?.getD 0=0)→
   ∃ms':H U,ms'.length=l.length∧(∀i j:U,i<l.length→(ms'[i]?.getD 0).testBit j=Hd p m l i j)∧Fg p m l n (i:P) (nn ms)=G (nn ms'):=by
  intro r
  induction r with
  | zero=>
   intro i n ms hi hn hms h1 h2;obtain⟨n,rfl⟩:∃n',n=n'+1:=⟨n - 1,by omega⟩;exact⟨ms,hms,fun i' j h=>h1 i' j (by omega),by rw[Fg,if_neg (by simp; omega)]⟩
  | succ r ih=>
   intro i n ms hi hn hms h1 h2;obtain⟨n,rfl⟩:∃n',n=n'+1:=⟨n - 1,by omega⟩;have hlt:i<l.length:=by omega
   obtain⟨q,hq,e⟩:=tO hl ht hd hN (Fg p m l n) hlt ms hms l.length 0 bigN 0 (by omega) (Bx hm) (fun j=>by simp)
   have e0:ms.set i 0=ms:=by
    have h3:=h2 i (yF _);rw[Y (by omega)] at h3
    have h3:ms[i]'(by omega)=0:=h3;apply List.ext_getElem (by simp)
    intro j hj1 hj2;by_cases hij:i=j
    ·subst hij; simp[h3]
    ·rw[List.getElem_set_ne hij]
   rw[e0] at e
   rw[Fg,Af,if_pos (by simpa using hlt),Ai hlt,X];have e:E0 p m l (i:P) l[i] (Fg p m l n) bigN 0 (nn ms)=_:=e;rw[e,Aw hlt hm];refine ih (i+1) n (ms.set i q) (by omega) (by omega) (by simpa using hms) (fun i' j h=> ?_) (fun i' h=> ?_)
   ·by_cases hii:i=i'
    ·subst hii;rw[zN (by omega)];exact hq j
    ·rw[zL hii];exact h1 i' j (by omega)
   ·rw[zL (by omega)];exact h2 i' (by omega)
 unfold Mf;rw[Eb (by omega) (by omega),X];have hz:zA l.length (0:P)=nn (zA l.length 0):=by simp[nn]
 rw[hz]
 exact key l.length 0 bigN _ (by omega) (Bx hm) (by simp) (fun i' j h=>by omega) (fun i' h=>by
  rw[List.getElem?_replicate];split<;>rfl)
end
section
variable {B : U → U → Q} {N : U} {ms : H U}
def eP(B:U→U→Q)(N:U)(ms:H U):Prop:=ms.length=N∧∀i j:U,i<N→(ms[i]?.getD 0).testBit j=(decide (j<N)&&(decide (i≠j)&&B i j))
theorem gV:EX B 0:=fun i j hi=>by simp at hi
theorem gU(hB:∀i j,B i j=B j i){s t:U}(h1:2 ^ t≤s)(h2:s<2 ^ (t+1)):EX B s↔EX B (AG s (2 ^ t))∧∀i,(AG s (2 ^ t)).testBit i=F→B t i=F:=by
 obtain⟨a1,a2,a3,a4⟩:=Td h1 h2;constructor
 ·intro h;exact⟨fun i j hi hj=>h i j (a3 i hi) (a3 j hj),fun i hi=>h t i a1 (a3 i hi) (by have:=H9 a2 hi; omega)⟩
 ·rintro⟨k1,k2⟩ i j hi hj hne
  rcases a4 i hi with rfl|hi
  ·rcases a4 j hj with rfl|hj
   ·exact absurd rfl hne
   ·exact k2 j hj
  ·rcases a4 j hj with rfl|hj
   ·rw[hB]; exact k2 i hi
   ·exact k1 i j hi hj hne
theorem Rh{a b:U}:AG a b=0↔∀i,a.testBit i=F→b.testBit i=F:=by
 constructor
 ·intro h i hi;have:=ER a b i;rw[h,hi] at this
  cases hb:b.testBit i with
  | true=>rfl
  | false=>rw[hb] at this; simp at this
 ·intro h;apply zU
  intro i;rw[ER,Nat.zero_testBit];cases hi:a.testBit i with
  | false=>rfl
  | true=>rw[h i hi]; rfl
theorem Ug(a b:U):AG a b≤a:=by
 rcases zI a (AG a b) with h|h
 ·obtain⟨i,h1,h2⟩:=Nat.exists_testBit_ne_of_ne (Nat.ne_of_lt h) |>.elim fun i hi=>(⟨i,hi,⟨⟩⟩:∃i,a.testBit i≠(AG a b).testBit i∧True)
  exfalso
  have:AG a b &&& a=AG a b:=SK fun i hi=>by
   rw[ER,Z] at hi
   exact hi.1
  have h3:= @Nat.and_le_right (AG a b) a;omega
 ·exact h
def R7(B:U→U→Q)(tg:H Q)(s:U):Prop:=∀x,x<s→(tg[x]?.getD E=F↔EX B x)
def U7(B:U→U→Q)(ls:H U)(s:U):Prop:=∀x,x<s→Cn B x (ls[x]?.getD 0)
theorem XH(hN:N≤12){x n:U}(hx:x<2 ^ N)(h:Cn B x n):n≤12:=Nat.le_trans (h.2 N (Pa hx)) hN
theorem Qh{tg:H Q}{x:U}(h:x<tg.length):ix tg (x:P)=G (tg[x]?.getD E):=by
 rw[Al,Y h]; rfl
theorem Qf{ls:H U}{x:U}(h:x<ls.length):ix (nn ls) (x:P)=G (((ls[x]?.getD 0:U)):P):=by
 rw[Ds h,Y h]; rfl
theorem Yo(hN:N≤12):2 ^ N≤4096:=by
 have:=zT (show 0<2 by omega) hN;simpa using this
theorem rO(hN:N≤12)(y5:P){s t:U}(hs:s<2 ^ N)(h1:2 ^ t≤s)(h2:s<2 ^ (t+1)){tg:H Q}{ls:H U}(htl:tg.length=2 ^ N)(hll:ls.length=2 ^ N)(ht:R7 B tg (s+1))(hl:U7 B ls s)(K:P→H Q→H P→O P) :
  ∀(n q c:U),q<n→q &&& AG s (2 ^ t)=q→Ei B s c→c≤100→(∀q',q' &&& AG s (2 ^ t)=q'→q<q'→EX B (q' ||| 2 ^ t)→c≤1+ls[AG (AG s (2 ^ t)) q']?.getD 0)→
   ∃c',Cn B s c'∧Gm (nn ms) y5 (s:P) (t:P) ((AG s (2 ^ t):U):P) tg K n (q:P) (nn (ls.set s c))=K (yQ .i64 ((s:P)+1)) tg (nn (ls.set s c')):=by
 obtain⟨a1,a2,a3,a4⟩:=Td h1 h2;have hp:=Yo hN;have h2s:AG s (2 ^ t)<s:=yA a2 h1;generalize hr:AG s (2 ^ t)=r at a2 a3 a4 h2s
 intro n
 induction n with
 | zero=>intro q c hq; omega
 | succ n ih=>
  intro q c hq hsub hc hc1 hall
  have ht12:t<12:=by
   rcases zI t 12 with h|h
   ·exact h
   ·have:=zT (show 0<2 by omega) h;simp at this
    omega
  have hqr:q≤r:=by have:= @Nat.and_le_right q r; omega
  have hor:q ||| 2 ^ t≤s:=by
   have hsb:(q ||| 2 ^ t) &&& s=q ||| 2 ^ t:=SK fun i hi=>by
    rw[zR,Jk,yO,decide_eq_true_eq] at hi
    rcases hi with h|h
    ·exact a3 i (vo hsub h)
    ·subst h; exact a1
   have:= @Nat.and_le_right (q ||| 2 ^ t) s;omega
  have hsml:∀x:U,x≤s→x<2 ^ 63:=fun x hx=>yK hx (yA hs (Nat.le_trans hp (by decide)))
  have hand:AG r q<s:=yK (Ug r q) h2s;have hset:s<(ls.set s c).length:=by simp; omega
  have hnext:∀c1:U,Ei B s c1→c1≤100→(∀q',q' &&& r=q'→q≤q'→EX B (q' ||| 2 ^ t)→c1≤1+ls[AG r q']?.getD 0)→
    ∃c',Cn B s c'∧K5 (nn ms) y5 (s:P) (t:P) (r:P) (q:P) tg K (Gm (nn ms) y5 (s:P) (t:P) (r:P) tg K n) (nn (ls.set s c1))=K (yQ .i64 ((s:P)+1)) tg (nn (ls.set s c')):=by
   intro c1 g1 g2 g3;unfold K5;by_cases h0:q=0
   ·subst h0;refine⟨c1,⟨g1,fun m hm=> ?_⟩,by rw[if_pos (by simp)]⟩;obtain⟨q',n',e1,e2,e3,e4⟩:=gj a1 a3 hm;have:=(hl (AG r q') (yK (Ug r q') h2s)).2 n' e4;have:=g3 q' e1 (Nat.zero_le _) e2;omega
   ·rw[if_neg (by simpa using h0)]
    have ew:yQ .i64 ((q:P) - 1)=((q - 1:U):P):=by
     rw[show(q:P) - 1=((q - 1:U):P) by omega];exact Ec (hsml _ (by omega))
    rw[ew,ee (hsml _ (by omega)) (hsml _ (by omega))];have hlt:= @ef q r (by omega);refine ih ((q - 1) &&& r) c1 (by omega) (eh _ _) g1 g2 fun q' e1 e2 e3=> ?_
    refine g3 q' e1 ?_ e3;rcases zI q' q with h|h
    ·have:=sY r r q q' (yF _) hsub e1 h;omega
    ·exact h
  rw[Gm,if_neg (by simp),QG (by omega),tG (hsml _ (by omega)) (hsml _ (by omega)),Qh (by omega),X];have hk:=ht (q ||| 2 ^ t) (by omega);cases hb:tg[q ||| 2 ^ t]?.getD E with
  | false=>
   rw[if_neg (by simp)];refine hnext c hc hc1 fun q' e1 e2 e3=> ?_
   rcases zI q q' with h|h
   ·exact hall q' e1 h e3
   ·have:q'=q:=by omega
    subst this;rw[hb] at hk
    exact absurd (hk.2 e3) (by simp)
  | true=>
   rw[if_pos rfl];have hcq:=hk.1 hb
   have e26:ix (nn (ls.set s c)) (s:P)=G (c:P):=by
    rw[Ds hset,yH]
   have e27:ix (nn (ls.set s c)) (Bf .andNot .i64 (r:P) (q:P))=G ((ls[AG r q]?.getD 0:U):P):=by
    rw[Uf (hsml _ (by omega)) (hsml _ (by omega)),Qf (by simp; omega),zL (by omega)]
   rw[e26,X,e27,X];have hle:=hl (AG r q) hand;have h12:=XH hN (zK hand hs) hle;generalize hv:ls[AG r q]?.getD 0=v at hle h12
   have ew:yQ .i64 ((1:P)+(v:P))=((1+v:U):P):=by
    rw[show(1:P)+(v:P)=((1+v:U):P) by omega];exact Ec (by omega)
   have emin:(if yQ .i64 ((1:P)+(v:P))<(c:P) then yQ .i64 ((1:P)+(v:P)) else(c:P))=((if 1+v<c then 1+v else c:U):P):=by
    rw[ew];by_cases h:1+v<c
    ·rw[if_pos (by omega),if_pos h]
    ·rw[if_neg (by omega),if_neg h]
   rw[emin,zD,J8,List.set_set];refine hnext _ ?_ (by split<;>omega) fun q' e1 e2 e3=> ?_
   ·split
    ·exact gi a4 hcq hle.1
    ·exact hc
   ·rcases zI q q' with h|h
    ·have:=hall q' e1 h e3;split<;>omega
    ·have:q'=q:=by omega
     subst this;rw[hv];split<;>omega
theorem rN(hB:∀i j,B i j=B j i)(hN:N≤12)(hm:eP B N ms):∃n:U,Cn B (2 ^ N - 1) n∧n≤12∧Me (nn ms)=G (n:P):=by
 have hp:=Yo hN;have hp0:0<2 ^ N:=Nat.pow_pos (by omega);obtain⟨hml,hmb⟩:=hm
 have key:∀(k s n:U) (tg:H Q) (ls:H U),s+k=2 ^ N→k<n→1≤s→tg.length=2 ^ N→ls.length=2 ^ N→R7 B tg s→U7 B ls s→
   ∃v:U,Cn B (2 ^ N - 1) v∧v≤12∧Es (nn ms) ((2 ^ N:U):P) n (s:P) tg (nn ls)=G (v:P):=by
  intro k
  induction k with
  | zero=>
   intro s n tg ls hs hn hs1 htl hll ht hl;obtain⟨n,rfl⟩:∃n',n=n'+1:=⟨n - 1,by omega⟩;have:=hl (2 ^ N - 1) (by omega);refine⟨_,this,XH hN (by omega) this,?_⟩
   have ew:yQ .i64 (((2 ^ N:U):P) - 1)=((2 ^ N - 1:U):P):=by
    rw[show((2 ^ N:U):P) - 1=((2 ^ N - 1:U):P) by omega];exact Ec (by omega)
   rw[Es,if_neg (by simp only[Af,decide_eq_true_eq]; omega),ew,Qf (by omega),X]
  | succ k ih=>
   intro s n tg ls hs hn hs1 htl hll ht hl;obtain⟨n,rfl⟩:∃n',n=n'+1:=⟨n - 1,by omega⟩;obtain⟨t,e1,h1,h2,ht12⟩:=rX hs1 (show s<4096 by omega);obtain⟨a1,a2,a3,a4⟩:=Td h1 h2;have htN:t<N:=H9 (show s<2 ^ N by omega) a1;have h2s:AG s (2 ^ t)<s:=yA a2 h1
   have hsml:∀x:U,x≤s→x<2 ^ 63:=fun x hx=>by
    have:(4096:U)<2 ^ 63:=by decide
    omega
   have ew:yQ .i64 (((t+1:U):P) - 1)=(t:P):=by
    rw[show((t+1:U):P) - 1=(t:P) by omega];exact Ec (by omega)
   have er:Bf .andNot .i64 (s:P) (Bn .i64 (1:P) (t:P))=((AG s (2 ^ t):U):P):=by
    rw[QG (by omega),Uf (hsml _ (yF _)) (hsml _ h1)]
   have hu:IntKind.u64.wrap (s:P)=(s:P):=L8 (by omega);have hct:=gU hB h1 h2
   have rest:∀b:Q,(b=F↔EX B s)→∃v:U,Cn B (2 ^ N - 1) v∧v≤12∧
     K4 (nn ms) ((2 ^ N:U):P) (s:P) (nn ls) (Es (nn ms) ((2 ^ N:U):P) n) (t:P) ((AG s (2 ^ t):U):P) (tg.set s b)=G (v:P):=by
    intro b hb
    have ht':R7 B (tg.set s b) (s+1):=fun x hx=>by
     by_cases h:s=x
     ·subst h;rw[zN (by omega)];exact hb
     ·rw[zL h];exact ht x (by omega)
    unfold K4;rw[Qf (by omega),X,C6,hml,zD,J8]
    obtain⟨c',k1,k2⟩:=rO (ms:=ms) hN ((2 ^ N:U):P) (show s<2 ^ N by omega) h1 h2 (tg:=tg.set s b) (ls:=ls) (by simpa using htl) hll ht' hl (Es (nn ms) ((2 ^ N:U):P) n) bigN (AG s (2 ^ t)) N (by rw[Cb]; omega) (Nat.and_self _) (Pa (by omega)) (by omega) (fun q' g1 g2=>by
     have:= @Nat.and_le_right q' (AG s (2 ^ t));omega)
    rw[k2,Aw (show s<4096 by omega) (by rw[AA]; omega)];refine ih (s+1) n (tg.set s b) (ls.set s c') (by omega) (by omega) (by omega) (by simpa using htl) (by simpa using hll) ht' fun x hx=> ?_
    by_cases h:s=x
    ·subst h;rw[zN (by omega)];exact k1
    ·rw[zL h];exact hl x (by omega)
   rw[Es,Af,if_pos (by simp; omega),hu,e1,X,ew,if_neg (by simp),er,Qh (by omega),X,zD];have hk:=ht (AG s (2 ^ t)) h2s;cases hb:tg[AG s (2 ^ t)]?.getD E with
   | true=>
    rw[if_pos rfl,Qf (by omega),X,Qh (by omega),X]
    have hmt:ms[t]?.getD 0<2 ^ 12:=Of fun j hj=>by
     rw[hmb t j htN,Z,decide_eq_true_eq] at hj
     omega
    rw[L8 (n:=AG s (2 ^ t)) (by omega),Lv (by omega) (zK hmt (by decide)),fg];refine rest _ ?_;rw[decide_eq_true_eq,Rh,hct];constructor
    ·intro h;refine⟨hk.1 hb,fun i hi=> ?_⟩;have:=h i hi;rw[hmb t i htN] at this
     simp at this
     exact this.2.2
    ·rintro⟨_,h⟩ i hi
     have hit:=H9 a2 hi;rw[hmb t i htN,h i hi];simp;omega
   | false=>
    rw[if_neg (by simp),Qh (by omega),X];refine rest E ?_;rw[hct];constructor
    ·intro h; cases h
    ·rintro⟨h,_⟩
     have:=hk.2 h;rw[hb] at this
     cases this
 unfold Me
 have hm1:∀b:U,b≤1000→Br (Bn .i64 (1:P) ((N:U):P)) (Bn .i64 (1:P) ((N:U):P)) b=G (2 ^ N):=fun b hb=>by
  rw[QG (by omega)]; exact Eb (by omega) hb
 rw[C6,hml,if_neg (by simp),hm1 1 (by omega),X,hm1 8 (by omega),X,QG (by omega)]
 have e0:ix (zA (2 ^ N) E) (0:P)=G E:=by
  have:=Ai (l:=zA (2 ^ N) E) (i:=0) (by simpa using hp0);simpa using this
 have hz:zA (2 ^ N) (0:P)=nn (zA (2 ^ N) 0):=by simp[nn]
 rw[e0,X,hz]
 obtain⟨v,k1,k2,k3⟩:=key (2 ^ N - 1) 1 bigN ((zA (2 ^ N) E).set 0 F) (zA (2 ^ N) 0) (by omega) (by rw[Cb]; omega) (by omega) (by simp) (by simp)
  (fun x hx=>by
   have:x=0:=by omega
   subst this;rw[zN (by simpa using hp0)];exact⟨fun _=>gV,fun _=>rfl⟩)
  (fun x hx=>by
   have:x=0:=by omega
   subst this;rw[List.getElem?_replicate,if_pos hp0];exact SC)
 exact⟨v,k1,k2,k3⟩
end
theorem ej{g i:U}(h:g<2 ^ i):AG (g ||| 2 ^ i) (2 ^ i)=g:=by
 apply zU
 intro j;rw[ER,zR,Jk];by_cases hj:i=j
 ·subst hj;rw[Nat.testBit_lt_two_pow h];simp
 ·simp[hj]
theorem uh{α:Type}{l:H α}{i:U}{x:α}(h:l[i]?=G x):l.set i x=l:=by
 apply List.ext_getElem?
 intro j;by_cases hij:i=j
 ·subst hij;rw[zN (List.getElem?_eq_some_iff.1 h).1,h]
 ·rw[zL hij]
theorem gk:∀(d fuel:U) (sm gs:H U) (most:P) (who:H P),who.length+d=sm.length→d<fuel→(∀x∈sm,x<2 ^ 12)→sm.length≤12→(∀g∈gs,0<g∧g<2 ^ who.length)→gs.length≤who.length→
  ∃b r,DZ fuel ⟨nn sm,most,nn gs,who⟩=G (b,r)∧r.most=most∧(b=E→r=⟨nn sm,most,nn gs,who⟩):=by
 intro d
 induction d with
 | zero=>
  intro fuel sm gs most who hd hf h1 h2 h3 h4;obtain⟨fuel,rfl⟩:∃n',fuel=n'+1:=⟨fuel - 1,by omega⟩;refine⟨F,⟨nn sm,most,nn gs,who⟩,?_,rfl,fun h=>by cases h⟩;rw[DZ,Mc,if_pos (by simp[C6]; omega)]
 | succ d ih=>
  intro fuel sm gs most who hd hf h1 h2 h3 h4;obtain⟨fuel,rfl⟩:∃n',fuel=n'+1:=⟨fuel - 1,by omega⟩;rw[DZ,Mc,if_neg (by simp[C6]; omega)];have hi12:who.length≤11:=by omega
  have hpw:2 ^ who.length<2 ^ 64:=zV (by omega) (by omega);have hp0:0<2 ^ who.length:=Nat.pow_pos (by omega);have hpd:2 ^ (who.length+1)=2 ^ who.length+2 ^ who.length:=by rw[Nat.pow_succ]; omega
  have hsi:who.length<sm.length:=by omega
  have hsm:sm[who.length]<2 ^ 64:=zK (h1 _ (I hsi)) (by decide)
  have key:∀(k p n:U),p+k=gs.length+1→k<n→∃b r,Ff (DZ fuel) ⟨nn sm,most,nn gs,who⟩ n (p:P) (nn sm) most (nn gs) who=G (b,r)∧r.most=most∧(b=E→r=⟨nn sm,most,nn gs,who⟩):=by
   intro k
   induction k with
   | zero=>
    intro p n hp hn;obtain⟨n,rfl⟩:∃n',n=n'+1:=⟨n - 1,by omega⟩;refine⟨E,_,?_,rfl,fun _=>rfl⟩;rw[Ff,if_neg (by simp[C6]; omega)]
   | succ k ihk=>
    intro p n hp hn;obtain⟨n,rfl⟩:∃n',n=n'+1:=⟨n - 1,by omega⟩;have hpl:p≤gs.length:=by omega
    rw[Ff,if_pos (by simp[C6]; omega)];cases hmost:decide ((p:P)<most) with
    | false=>exact⟨E,_,by rw[if_neg (by simp)],rfl,fun _=>rfl⟩
    | true=>
     rw[if_pos rfl];by_cases hpe:p=gs.length
     ·-- a new person
      rw[if_pos (by simp[C6]; omega),if_pos (F1 (by simp[C6]; omega) (by omega))];have e0:nn gs++ [(0:P)]=nn (gs++ [0]):=Y8 gs 0;rw[e0];unfold K1;dsimp only
      have hpg:p<(gs++ [0]).length:=by simp; omega
      have hg0:(gs++ [0])[p]=0:=by simp[hpe]
      rw[Ds hpg,X,hg0,Ds hsi,X,Lv (by decide) hsm];have ez:AG 0 sm[who.length]=0:=Rh.2 fun i hi=>by simp at hi
      rw[ez,if_pos (by simp),if_neg (by simp),if_pos (F1 (by simp; omega) (by omega)),T1 (by omega),SN (by decide) hpw,Nat.zero_or,zD,J8]
      have es:(gs++ [0]).set p (2 ^ who.length)=gs++ [2 ^ who.length]:=by
       rw[List.set_append_right _ _ (by omega)];simp[hpe]
      rw[es]
      obtain⟨b,r,k1,k2,k3⟩:=ih fuel sm (gs++ [2 ^ who.length]) most (who++ [(p:P)]) (by simp; omega) (by omega) h1 h2 (fun g hg=>by
       rw[zO,zS,hpd];rcases zZ.1 hg with hg|hg
       ·have:=h3 g hg; omega
       ·rw[zP] at hg; omega) (by simp; omega)
      rw[k1,X];cases b with
      | true=>exact⟨F,r,by rw[if_pos rfl],k2,fun h=>by cases h⟩
      | false=>
       have:=k3 rfl;subst this;rw[if_neg (by simp)];have hw:((who++ [(p:P)]).length:P)=((who.length+1:U):P):=by simp
       simp only[zO,zS];rw[show bnd ((who.length+1:U):P) (who.length:P) 0 (who.length+1)=G (0,who.length) from F3 (by omega),X];have hpg2:p<(gs++ [2 ^ who.length]).length:=by simp; omega
       have hg2:(gs++ [2 ^ who.length])[p]=2 ^ who.length:=by simp[hpe]
       rw[Ds hpg2,X,hg2,if_neg (by simp),Lv hpw hpw,J8];have ez2:AG (2 ^ who.length) (2 ^ who.length)=0:=Rh.2 fun i hi=>hi
       have es2:(gs++ [2 ^ who.length]).set p 0=gs++ [0]:=by
        rw[List.set_append_right _ _ (by omega)];simp[hpe]
       have et:(who++ [(p:P)]).take who.length=who:=by simp
       rw[ez2,es2,et];unfold HP;rw[Ds hpg,X,hg0,if_pos (by simp),C6];have hl1:(gs++ [0]).length=gs.length+1:=by simp
       rw[hl1,show bnd ((gs.length+1:U):P) (p:P) 0 (gs.length+1)=G (0,p) from F3 (by omega),X];have et2:(nn (gs++ [0])).take p=nn gs:=by rw[hpe]; simp[nn]
       show ∃b r,G (E,(⟨nn sm,most,(nn (gs++ [0])).take p,who⟩:Xg))=G (b,r)∧_
       rw[et2];exact⟨E,_,rfl,rfl,fun _=>rfl⟩
     ·-- one that is there
      rw[if_neg (by simp[C6]; omega)];have hpg:p<gs.length:=by omega
      have hgm:=h3 _ (I hpg)
      have hnext:∃b r,HP (DZ fuel) ⟨nn sm,most,nn gs,who⟩ (p:P) (Ff (DZ fuel) ⟨nn sm,most,nn gs,who⟩ n) (nn sm) most (nn gs) who=G (b,r)∧r.most=most∧(b=E→r=⟨nn sm,most,nn gs,who⟩):=by
       unfold HP;rw[Ds hpg,X,if_neg (by simp; omega),Aw hpg (by rw[AA]; omega)];exact ihk (p+1) n (by omega) (by omega)
      unfold K1;dsimp only
      rw[Ds hpg,X,Ds hsi,X,Lv (by omega) hsm];cases hfit:(((AG gs[p] sm[who.length]:U):P)==0) with
      | false=>rw[if_neg (by simp)]; exact hnext
      | true=>
       rw[if_pos rfl,if_neg (by simp),if_pos (F1 (by simp; omega) (by omega)),T1 (by omega),SN (by omega) hpw,zD,J8];have hor:gs[p] ||| 2 ^ who.length<2 ^ (who.length+1):=yD (by omega) (by omega)
       have hop:0<gs[p] ||| 2 ^ who.length:=by
        have:= @Nat.left_le_or gs[p] (2 ^ who.length);omega
       have hor64:gs[p] ||| 2 ^ who.length<2 ^ 64:=yD (by omega) hpw
       obtain⟨b,r,k1,k2,k3⟩:=ih fuel sm (gs.set p (gs[p] ||| 2 ^ who.length)) most (who++ [(p:P)]) (by simp; omega) (by omega) h1 h2 (fun g hg=>by
        rw[zO,zS];rcases List.mem_or_eq_of_mem_set hg with hg|hg
        ·have:=h3 g hg; omega
        ·subst hg; exact⟨hop,hor⟩) (by simp; omega)
       rw[k1,X];cases b with
       | true=>exact⟨F,r,by rw[if_pos rfl],k2,fun h=>by cases h⟩
       | false=>
        have:=k3 rfl;subst this;rw[if_neg (by simp)];simp only[zO,zS];have hps:p<(gs.set p (gs[p] ||| 2 ^ who.length)).length:=by simp; omega
        rw[show bnd ((who.length+1:U):P) (who.length:P) 0 (who.length+1)=G (0,who.length) from F3 (by omega),X,Ds hps,X,yH,if_neg (by simp),Lv hor64 hpw,J8,ej hgm.2,List.set_set,uh (Y hpg)];have et:(who++ [(p:P)]).take who.length=who:=by simp
        rw[et];exact hnext
  exact key (gs.length+1) 0 bigN (by omega) (by rw[Cb]; omega)
section
variable {p : P} {m : H P} {l : H Xb}
def eR(B:U→U→Q)(w:H U):Prop:=∀(i k:U) (hi:i<w.length) (hk:k<i),w[i]=w[k]→B i k=F
theorem uZ(rec_:(H (H Q))→(H P)→P→O ((H P) × Q))(a2 v2:P)(K:P→O ((H P) × Q))(c:U){w:H U}(hw:w.length<l.length)(hN:l.length≤12) :
  ∀(r k n:U) (v:Q),k+r=w.length→r<n→∃b:Q,(b=F↔v=F∧∀(k':U) (h:k'<w.length),k≤k'→w[k']=c→B6 p m l w.length k'=F)∧
   DF rec_ (Ci p m l) (nn w) a2 v2 (c:P) K n v (k:P)=DF rec_ (Ci p m l) (nn w) a2 v2 (c:P) K 1 b (w.length:P):=by
 intro r
 induction r with
 | zero=>
  intro k n v hk hn;obtain⟨n,rfl⟩:∃n',n=n'+1:=⟨n - 1,by omega⟩;have:k=w.length:=by omega
  subst this;refine⟨v,⟨fun h=>⟨h,fun k' h1 h2=>by omega⟩,fun h=>h.1⟩,?_⟩;simp only[DF,C6,Af,Nat.lt_irrefl,decide_false,C,if_false]
 | succ r ih=>
  intro k n v hk hn;obtain⟨n,rfl⟩:∃n',n=n'+1:=⟨n - 1,by omega⟩;have hlt:k<w.length:=by omega
  rw[DF,if_pos (by simp[C6]; omega),Ds hlt,X];have hwr:=Aw hlt (show w.length≤maxLen by rw[AA]; omega);by_cases hc:w[k]=c
  ·obtain⟨x,x1,x2⟩:=uK (p:=p) (m:=m) hw (show k<l.length by omega);rw[if_pos (by simp; omega),C6,x1,X,x2,X];cases hb:B6 p m l w.length k with
   | true=>
    rw[if_pos rfl,hwr];obtain⟨b,b1,b2⟩:=ih (k+1) n v (by omega) (by omega);refine⟨b,b1.trans ⟨fun⟨g1,g2⟩=>⟨g1,fun k' h1 h2 h3=> ?_⟩,fun⟨g1,g2⟩=>⟨g1,fun k' h1 h2=>g2 k' h1 (by omega)⟩⟩,b2⟩;by_cases hkk:k=k'
    ·subst hkk; exact hb
    ·exact g2 k' h1 (by omega) h3
   | false=>
    rw[if_neg (by simp),hwr];obtain⟨b,b1,b2⟩:=ih (k+1) n E (by omega) (by omega);refine⟨b,b1.trans ⟨fun⟨g1,g2⟩=>(by cases g1),fun⟨g1,g2⟩=> ?_⟩,b2⟩;have:=g2 k hlt (yF _) hc;rw[hb] at this
    cases this
  ·rw[if_neg (by simp; omega),hwr];obtain⟨b,b1,b2⟩:=ih (k+1) n v (by omega) (by omega);refine⟨b,b1.trans ⟨fun⟨g1,g2⟩=>⟨g1,fun k' h1 h2 h3=> ?_⟩,fun⟨g1,g2⟩=>⟨g1,fun k' h1 h2=>g2 k' h1 (by omega)⟩⟩,b2⟩;by_cases hkk:k=k'
   ·subst hkk; exact absurd h3 hc
   ·exact g2 k' h1 (by omega) h3
theorem ua(rec_:(H (H Q))→(H P)→P→O ((H P) × Q))(a0:H (H Q))(a2:P){w:H U}(hw:w.length≤12)(hx:∀x∈w,x<12) :
  ∀(r k n v:U),k+r=w.length→r<n→v≤12→∃u:U,u≤12∧v≤u∧(∀x∈w.drop k,x<u)∧GJ rec_ a0 (nn w) a2 n (v:P) (k:P)=E4 rec_ a0 (nn w) a2 (u:P) bigN 0:=by
 intro r
 induction r with
 | zero=>
  intro k n v hk hn hv;obtain⟨n,rfl⟩:∃n',n=n'+1:=⟨n - 1,by omega⟩;refine⟨v,hv,yF _,fun x h=> ?_,?_⟩
  ·rw[List.drop_eq_nil_of_le (by omega)] at h; cases h
  ·rw[GJ,if_neg (by simp[C6]; omega)]
 | succ r ih=>
  intro k n v hk hn hv;obtain⟨n,rfl⟩:∃n',n=n'+1:=⟨n - 1,by omega⟩;have hlt:k<w.length:=by omega
  have hk12:=hx _ (I hlt);rw[GJ,if_pos (by simp[C6]; omega),Ds hlt,X,Aw hlt (by rw[AA]; omega)];have ew:yQ .i64 (((w[k]:U):P)+1)=((w[k]+1:U):P):=Aw (n:=12) hk12 (by rw[AA]; omega)
  have em:(if(v:P)<yQ .i64 (((w[k]:U):P)+1) then yQ .i64 (((w[k]:U):P)+1) else(v:P))=((if v<w[k]+1 then w[k]+1 else v:U):P):=by
   rw[ew];by_cases h:v<w[k]+1
   ·rw[if_pos (by omega),if_pos h]
   ·rw[if_neg (by omega),if_neg h]
  rw[em];obtain⟨u,u1,u2,u3,u4⟩:=ih (k+1) n (if v<w[k]+1 then w[k]+1 else v) (by omega) (by omega) (by split<;>omega);refine⟨u,u1,by split at u2<;>omega,fun x hx2=> ?_,u4⟩;rw[List.drop_eq_getElem_cons hlt] at hx2
  rcases List.mem_cons.1 hx2 with rfl|hx2
  ·split at u2<;>omega
  ·exact u3 x hx2
theorem YI(mm:U)(hmm:mm≤12)(hN:l.length≤12):∀(d fuel:U) (w:H U),w.length+d=l.length→d<fuel→(∀x∈w,x<mm)→eR (B6 p m l) w→
  ∃out ok,Cz fuel (Ci p m l) (nn w) (mm:P)=G (out,ok)∧(ok=F↔D2 (B6 p m l) l.length mm w):=by
 have hrl:(Ci p m l).length=l.length:=by simp[Ci]
 intro d
 induction d with
 | zero=>
  intro fuel w hd hf hx hv;obtain⟨fuel,rfl⟩:∃n',fuel=n'+1:=⟨fuel - 1,by omega⟩;refine⟨nn w,F,?_,⟨fun _=>lX (by omega) hx (Uz p m l) hv,fun _=>rfl⟩⟩;rw[Cz,Nz,if_pos (by simp[C6,hrl]; omega)]
 | succ d ih=>
  intro fuel w hd hf hx hv;obtain⟨fuel,rfl⟩:∃n',fuel=n'+1:=⟨fuel - 1,by omega⟩;have hw:w.length<l.length:=by omega
  rw[Cz,Nz,if_neg (by simp[C6,hrl]; omega)];obtain⟨u,u1,_,u3,u4⟩:=ua (Cz fuel) (Ci p m l) (mm:P) (w:=w) (by omega) (fun x h=>by have:=hx x h; omega) w.length 0 bigN 0 (by omega) (by rw[Cb]; omega) (by omega);have u4:GJ (Cz fuel) (Ci p m l) (nn w) (mm:P) bigN 0 0=_:=u4;rw[u4]
  have key:∀(k c n:U),c+k=u+1→k<n→(∀c',c'<c→c'<mm→Ju (B6 p m l) w c'→¬D2 (B6 p m l) l.length mm (w++ [c']))→
    ∃out ok,E4 (Cz fuel) (Ci p m l) (nn w) (mm:P) (u:P) n (c:P)=G (out,ok)∧(ok=F↔D2 (B6 p m l) l.length mm w):=by
   have fin:∀c:U,(u<c∨mm≤c)→(∀c',c'<c→c'<mm→Ju (B6 p m l) w c'→¬D2 (B6 p m l) l.length mm (w++ [c']))→¬D2 (B6 p m l) l.length mm w:=fun c hc hno h=>by
    obtain⟨c',g1,g2,g3,g4⟩:=lY hw (fun x h=>u3 x (by simpa using h)) h;exact hno c' (by omega) g2 g3 g4
   intro k
   induction k with
   | zero=>
    intro c n hc hn hno;obtain⟨n,rfl⟩:∃n',n=n'+1:=⟨n - 1,by omega⟩;refine⟨[],E,?_,⟨fun h=>(by cases h),fun h=>absurd h (fin c (by omega) hno)⟩⟩;rw[E4,if_neg (by simp; omega)]
   | succ k ihk=>
    intro c n hc hn hno;obtain⟨n,rfl⟩:∃n',n=n'+1:=⟨n - 1,by omega⟩;rw[E4,if_pos (by simp; omega)];by_cases hcm:c<mm
    ·rw[if_pos (by simpa using hcm)];obtain⟨b,b1,b2⟩:=uZ (p:=p) (m:=m) (Cz fuel) (mm:P) (u:P) (E4 (Cz fuel) (Ci p m l) (nn w) (mm:P) (u:P) n) c hw hN w.length 0 bigN F (by omega) (by rw[Cb]; omega);have b2:DF (Cz fuel) (Ci p m l) (nn w) (mm:P) (u:P) (c:P) (E4 (Cz fuel) (Ci p m l) (nn w) (mm:P) (u:P) n) bigN F 0=_:=b2;have hfit:b=F↔Ju (B6 p m l) w c:=b1.trans ⟨fun h k' h1 h2=>h.2 k' h1 (Nat.zero_le _) h2,fun h=>⟨rfl,fun k' h1 _ h2=>h k' h1 h2⟩⟩;have hwr:=Aw (i:=c) (n:=12) (by omega) (by rw[AA]; omega)
     have hon:(Ju (B6 p m l) w c→¬D2 (B6 p m l) l.length mm (w++ [c]))→∃out ok,KL (Cz fuel) (Ci p m l) (nn w) (mm:P) (u:P) (c:P) (E4 (Cz fuel) (Ci p m l) (nn w) (mm:P) (u:P) n)=G (out,ok)∧(ok=F↔D2 (B6 p m l) l.length mm w):=fun h=>by
      unfold KL;rw[hwr];refine ihk (c+1) n (by omega) (by omega) fun c' h1 h2 h3=> ?_
      by_cases hcc:c'=c
      ·subst hcc; exact h h3
      ·exact hno c' (by omega) h2 h3
     rw[b2,DF,if_neg (by simp[C6])];cases b with
     | false=>
      rw[if_neg (by simp)];exact hon fun h=>absurd (hfit.2 h) (by simp)
     | true=>
      have hf2:=hfit.1 rfl;rw[if_pos rfl,if_pos (F1 (by simp[C6]; omega) (by omega)),if_pos (F1 (by simp[C6]; omega) (by omega)),Y8]
      obtain⟨out,ok,o1,o2⟩:=ih fuel (w++ [c]) (by simp; omega) (by omega) (fun x h=>by
       rcases zZ.1 h with h|h
       ·exact hx x h
       ·rw[zP] at h; omega) (fun i k' hi hk' e=>by
       rcases zI i w.length with h|h
       ·rw[zJ h,zJ (by omega)] at e
        exact hv i k' h hk' e
       ·have:i=w.length:=by simp at hi; omega
        subst this;rw[zJ hk'] at e
        simp at e
        exact hf2 k' hk' e.symm)
      rw[o1,X];cases ok with
      | true=>exact⟨out,F,by rw[if_pos rfl],⟨fun _=>lW (o2.1 rfl),fun _=>rfl⟩⟩
      | false=>
       rw[if_neg (by simp)];exact hon fun _ h=>absurd (o2.2 h) (by simp)
    ·refine⟨[],E,by rw[if_neg (by simpa using hcm)],⟨fun h=>(by cases h),fun h=>absurd h (fin c (by omega) hno)⟩⟩
  exact key (u+1) 0 bigN (by omega) (by rw[Cb]; omega) (fun c' h=>by omega)
def P0(p:P)(m:H P)(l:H Xb):Q:=(decide (l.length≤12)&&l.all Bl)&&DR p m
theorem eO(hl:m.length≤maxLen)(ho:P0 p m l=F):∃(n:U) (w1 w2:H P),n≤12∧Cn (B6 p m l) (2 ^ l.length - 1) n∧It p m l=G (w1,(n:P),F)∧LQ p m l=G (w2,(n:P),F):=by
 have ho':=ho;simp only[P0,Z,decide_eq_true_eq] at ho'
 obtain⟨⟨hN,hda⟩,ht⟩:=ho';have hd:∀d∈l,Bl d=F:=fun d h=>zM.1 hda d h
 have hdo:(decide (l.length≤12)&&l.all Bl)=F:=by simp[hN,hda]
 obtain⟨ms,m1,m2,m3⟩:=ph hl ht hd hN;obtain⟨n,n1,n2,n3⟩:=rN (Uz p m l) hN (ms:=ms) ⟨m1,m2⟩
 have hmx:∀x∈ms,x<2 ^ 12:=fun x hx=>by
  obtain⟨i,hi,rfl⟩:=zX hx;refine Of fun j hj=> ?_
  have:=m2 i j (by omega);rw[Y hi] at this
  have this:ms[i].testBit j=Hd p m l i j:=this;rw[this,Hd,Z,decide_eq_true_eq] at hj
  omega
 obtain⟨b,r,c1,c2,_⟩:=gk ms.length bigN ms [] (n:P) [] (by simp) (by rw[Cb]; omega) hmx (by omega) (fun g h=>by cases h) (by simp)
 have hsp:∀(k v fu:U),v+k=n→k<fu→∃w1,Iu l (Ci p m l) fu (v:P)=G (w1,(n:P),F):=by
  have hnN:n≤l.length:=n1.2 _ (Pa (by have:=Nat.pow_pos (n:=l.length) (show 0<2 by omega); omega));intro k
  induction k with
  | zero=>
   intro v fu hv hfu;obtain⟨fu,rfl⟩:∃n',fu=n'+1:=⟨fu - 1,by omega⟩;have:v=n:=by omega
   subst this;obtain⟨out,ok,s1,s2⟩:=YI (p:=p) (m:=m) v n2 hN l.length bigN [] (by simp) (by rw[Cb]; omega) (fun x h=>by cases h) (fun i k hi=>by simp at hi);have s1:PQ (Ci p m l) [] (v:P)=G (out,ok):=s1;have hok:ok=F:=s2.2 (UR.1 n1.1);subst hok;exact⟨out,by rw[Iu,if_pos (by simp; omega),s1,X,if_pos rfl]⟩
  | succ k ihk=>
   intro v fu hv hfu;obtain⟨fu,rfl⟩:∃n',fu=n'+1:=⟨fu - 1,by omega⟩;obtain⟨out,ok,s1,s2⟩:=YI (p:=p) (m:=m) v (by omega) hN l.length bigN [] (by simp) (by rw[Cb]; omega) (fun x h=>by cases h) (fun i k hi=>by simp at hi);have s1:PQ (Ci p m l) [] (v:P)=G (out,ok):=s1
   have hok:ok=E:=by
    cases ok with
    | false=>rfl
    | true=>
     have:=n1.2 v (UR.2 (s2.1 rfl));omega
   subst hok;obtain⟨w1,e⟩:=ihk (v+1) fu (by omega) (by omega);refine⟨w1,?_⟩;rw[Iu,if_pos (by simp; omega),s1,X,if_neg (by simp),Aw (i:=v) (n:=13) (by omega) (by rw[AA]; omega)];exact e
 obtain⟨w1,e1⟩:=hsp n 0 bigN (by omega) (by rw[Cb]; omega);refine⟨n,w1,r.who,n2,n1,?_,?_⟩
 ·unfold It;rw[uu,hdo,X,if_pos rfl,YT hl,ht,X];unfold Na;rw[if_neg (by simp),ut hl ht hd hN,X];exact e1
 ·unfold LQ Pp;have ht':=ht;simp only[DR,Z] at ht'
  rw[Sn,hdo,X,if_pos rfl,XZ,ht'.1,X,if_pos rfl,WR hl,ht'.2,X,X,if_pos rfl,m3,X,n3,X];have c1:RH ⟨nn ms,(n:P),[],[]⟩=G (b,r):=c1;rw[c1,X,c2]
end
section
variable {c : X1} {fl : H X4}
def Cy(c:X1)(p:X3):P × P:=if p.Toward=F then((Aq c p.Segment).A,(Aq c p.Segment).B) else((Aq c p.Segment).B,(Aq c p.Segment).A)
theorem OC{p:X3}(h:idx p.Segment c.Segments.length=F):FD c p=G (Cy c p):=by
 unfold FD Cy;rw[(BJ h).1,X];split<;>rfl
theorem WP{p:X3}(h:idx p.Segment c.Segments.length=F):JW p c=G (Cy c p):=by
 unfold JW Cy;rw[(BJ h).1,X];split<;>rfl
theorem UW{p:X3}(hc:AO c=F)(h:idx p.Segment c.Segments.length=F):0≤(Cy c p).1∧(Cy c p).1<8∧0≤(Cy c p).2∧(Cy c p).2<8:=by
 have hp:=(EQ hc).1;have hx:=(BJ h).2;simp only[AO,Z,decide_eq_true_eq,zM,yP] at hc
 obtain⟨i,hi,e⟩:=zX hx;have:=hc.2.2.2 i hi;simp only[DP,Y hi,e,idx,Z,decide_eq_true_eq] at this
 unfold Cy;split<;>(simp only; omega)
theorem Ou{p:X3}(hc:AO c=F)(h:C7 c fl p=F):p.Start<p.End:=by
 simp only[C7,C5,Z,decide_eq_true_eq] at h;obtain⟨h3,h4,h5,h6,h7⟩:=h;obtain⟨_,_,a,b⟩:=(EQ hc).2.2 _ (BJ h4).2;rw[h7];unfold AF;split
 ·rw[Am (n:=2*_) (by omega) (by omega),Am (by omega) (by omega)]; omega
 ·rw[Am (by omega) (by omega)]; omega
theorem pV{p:X3}(hn:∀x∈c.Points,x.Name.length≤maxLen)(hf:∀x∈fl,x.Name.length≤maxLen)(h1:AO c=F)(h2:DH fl=F):LX c fl p=G (C7 c fl p):=by
 unfold LX;rw[FM hn,h1,X,if_pos rfl,WK hf,h2,X,if_pos rfl,pi,X]
def CL(c:X1)(p q:X3):Xb:=⟨p.Start,q.End,(Cy c p).1,(Cy c q).2⟩
theorem WO{p q:X3}(h1:idx p.Segment c.Segments.length=F)(h2:idx q.Segment c.Segments.length=F):K2 c p q=G (CL c p q):=by
 unfold K2;rw[WP h1,X,WP h2,X];rfl
theorem UT{p q:X3}(hc:AO c=F)(h1:idx p.Segment c.Segments.length=F)(h2:idx q.Segment c.Segments.length=F)(h3:0≤p.Start)(h4:p.Start<q.End)(h5:q.End≤2880):Bl (CL c p q)=F:=by
 obtain⟨a1,a2,_,_⟩:=UW hc h1;obtain⟨_,_,b1,b2⟩:=UW hc h2;unfold Bl CL;simp only[Z,decide_eq_true_eq];exact⟨h3,h4,h5,⟨a1,a2⟩,b1,b2⟩
theorem wi{p:X3}{s:X4}(hs:ix fl p.Ship=G s)(h1:idx p.Segment c.Segments.length=F)(all:H X3)(v1:P)(K:P→H Xb→O (H Xb × Q)){T:U}(hT:s.Tugs=(T:P))(hT4:T≤4) :
  ∀(r k n:U) (acc:H Xb),k+r=T→r<n→acc.length≤12+k→GM fl (Cy c p) all v1 c p K n (k:P) acc =
   if(decide ((12:P)<((acc++zA r (CL c p p)).length:P))) then G (([]:H Xb),E) else K (yQ .i64 (v1+(1:P))) (acc++zA r (CL c p p)):=by
 intro r
 induction r with
 | zero=>
  intro k n acc hk hn ha;obtain⟨n,rfl⟩:∃n',n=n'+1:=⟨n - 1,by omega⟩;rw[GM,hs,X,if_neg (by rw[hT]; simp; omega)];simp
 | succ r ih=>
  intro k n acc hk hn ha;obtain⟨n,rfl⟩:∃n',n=n'+1:=⟨n - 1,by omega⟩;rw[GM,hs,X,if_pos (by rw[hT]; simp; omega),if_pos (F1 (by simp; omega) (by omega)),Aw (i:=k) (n:=5) (by omega) (by rw[AA]; omega)];have:=ih (k+1) n (acc++ [CL c p p]) (by omega) (by omega) (by simp; omega);refine this.trans ?_;rw[List.append_assoc];rfl
theorem wh{p:X3}{s:X4}(h1:idx p.Segment c.Segments.length=F)(all:H X3)(v1:P)(K:P→H Xb→O (H Xb × Q)){T:U}(hT:s.Tugs=(T:P))(hT4:T≤4) :
  ∀(r k n:U) (acc:H Xb),k+r=T→r<n→acc.length≤12+k→Gr fl all v1 s c p K n (k:P) acc =
   if(decide ((12:P)<((acc++zA r (CL c p p)).length:P))) then G (([]:H Xb),E) else K (yQ .i64 (v1+(1:P))) (acc++zA r (CL c p p)):=by
 intro r
 induction r with
 | zero=>
  intro k n acc hk hn ha;obtain⟨n,rfl⟩:∃n',n=n'+1:=⟨n - 1,by omega⟩;rw[Gr,if_neg (by rw[hT]; simp; omega)];simp
 | succ r ih=>
  intro k n acc hk hn ha;obtain⟨n,rfl⟩:∃n',n=n'+1:=⟨n - 1,by omega⟩;rw[Gr,if_pos (by rw[hT]; simp; omega),WO h1 h1,X,if_pos (F1 (by simp; omega) (by omega)),Aw (i:=k) (n:=5) (by omega) (by rw[AA]; omega)];have:=ih (k+1) n (acc++ [CL c p p]) (by omega) (by omega) (by simp; omega);refine this.trans ?_;rw[List.append_assoc];rfl
theorem Ry{w:Xn}(h:F4 w=F):C5 w.Rest=F∧EK w.Moves=F:=by
 simp only[F4,Z] at h;exact⟨h.2.2.1,by simp only[EK,Z]; exact h.2.2.2⟩
theorem eX{p:P}{m:H P}{l:H Xb}(h1:l.length≤12)(h2:∀d∈l,Bl d=F)(h3:C5 p=F)(h4:EK m=F):P0 p m l=F:=by
 simp only[P0,DR,h3,h4,Bool.and_self,Bool.and_true,Z,decide_eq_true_eq,zM];exact⟨h1,h2⟩
end
theorem P5{n m b:U}(h:n+m≤3000000000000)(hb:b≤40):A3 n m b=F:=by
 unfold A3;have:(n+m)*b≤3000000000000*40:=yC h hb;simp;omega
def BC(l:H X0):H (H X3):=l.map fun o=>o.Passages
theorem vD{l:H X0}(hl:l.length≤1048576)(hp:∀o∈l,o.Passages.length≤1048576):Gw l=G (BC l):=by
 unfold Gw;refine FY (L:=Ii l) l (fun o=>o.Passages) G (by rw[AA]; omega) (fun n i acc h ha=> ?_) (fun n acc ha=>by simp[Ii]);have:=hp _ (I h);rw[Ii,Af,if_pos (by simpa using h),Ai h,X,if_pos (P5 (by simp; omega) (by omega)),if_pos (P5 (by simp; omega) (by omega))]
theorem mH{α R:Type}{L:U→P→H α→O R}(cs:H (H α))(K:O R)(hl:cs.length≤1048576)(hb:∀x∈cs,x.length≤1048576)
  (hs:∀(n i:U) (acc:H α) (h:i<cs.length),acc.length≤i*1048576→L (n+1) (i:P) acc=L n (yQ .i64 ((i:P)+1)) (acc++cs[i])) (he:∀n,L (n+1) (cs.length:P) cs.flatten=K):L bigN 0 []=K∧cs.flatten.length≤1099511627776:=by
 have key:∀(k i n:U),i+k=cs.length→k<n→L n (i:P) (cs.take i).flatten=K:=by
  have hlen:∀i:U,i≤cs.length→(cs.take i).flatten.length≤i*1048576:=by
   intro i
   induction i with
   | zero=>intro _; simp
   | succ i ih=>
    intro hi;rw[zH (by omega),yJ,zO];have h1:=ih (by omega);have h2:=hb _ (I (show i<cs.length by omega));have e3: [cs[i]].flatten.length=cs[i].length:=by simp
    rw[e3];omega
  intro k
  induction k with
  | zero=>
   intro i n hi hn;obtain⟨m,rfl⟩:∃m,n=m+1:=⟨n - 1,by omega⟩;have:i=cs.length:=by omega
   subst this;rw[yM,he]
  | succ k ih=>
   intro i n hi hn;obtain⟨m,rfl⟩:∃m,n=m+1:=⟨n - 1,by omega⟩;have hlt:i<cs.length:=by omega
   rw[hs m i _ hlt (hlen i (by omega)),Aw hlt (by rw[AA]; omega)];have:=ih (i+1) m (by omega) (by omega);rw[zH hlt,yJ] at this
   simpa using this
 have hall:∀(k:U),k≤cs.length→(cs.take k).flatten.length≤k*1048576:=by
  intro i
  induction i with
  | zero=>intro _; simp
  | succ i ih=>
   intro hi;rw[zH (by omega),yJ,zO];have h1:=ih (by omega);have h2:=hb _ (I (show i<cs.length by omega));have e3: [cs[i]].flatten.length=cs[i].length:=by simp
   rw[e3];omega
 refine⟨key cs.length 0 bigN (by omega) (by rw[Cb]; omega),?_⟩;have:=hall cs.length (yF _);rw[yM] at this
 omega
theorem sF{α:Type}{Lm:U→P→P→H α→O (P × H α)}{Lh:H α→U→P→P→O P}(xs:H α)(c:U)(e:P→α)(k0:P)(h0:0≤k0)(hc:c≤100)(hl:xs.length≤1048576)(hk:k0≤10000000000)
  (hm:∀(n i:U) (k:P) (acc:H α),i<acc.length→acc.length≤1048576→0≤k→k≤100000000000→Lm (n+1) k (i:P) acc=Lm n (k+c) ((i+1:U):P) (acc.set i (e k)))
  (hme:∀(n:U) (k:P) (acc:H α),Lm (n+1) k (acc.length:P) acc=G (k,acc))
  (hh:∀(n i:U) (k:P) (ys:H α) (hi:i<ys.length),ys.length≤1048576→0≤k→k≤100000000000→ys[i]=e k→Lh ys (n+1) k (i:P)=Lh ys n (k+c) ((i+1:U):P))
  (hhe:∀(n:U) (k:P) (ys:H α),Lh ys (n+1) k (ys.length:P)=G k) :
  ∃ys,Lm bigN k0 0 xs=G (k0+c*(xs.length:P),ys)∧ys.length=xs.length∧Lh ys bigN k0 0=G (k0+c*(xs.length:P)):=by
 have bnd:∀i:U,i≤xs.length→k0+(c:P)*(i:P)≤100000000000∧0≤k0+(c:P)*(i:P):=by
  intro i hi;have h1:c*i≤100*1048576:=yC hc (by omega);have h2:((c*i:U):P)=(c:P)*(i:P):=by simp
  omega
 have keym:∀(k i n:U) (acc:H α),i+k=acc.length→acc.length=xs.length→k<n→(∀j (hj:j<acc.length),j<i→acc[j]=e (k0+c*(j:P)))→
   ∃ys,Lm n (k0+c*(i:P)) (i:P) acc=G (k0+c*(xs.length:P),ys)∧ys.length=xs.length∧∀j (hj:j<ys.length),ys[j]=e (k0+c*(j:P)):=by
  intro k
  induction k with
  | zero=>
   intro i n acc hi ha hn hj;obtain⟨m,rfl⟩:∃m,n=m+1:=⟨n - 1,by omega⟩;have:i=acc.length:=by omega
   subst this;exact⟨acc,by rw[hme,ha],ha,fun j hj2=>hj j hj2 hj2⟩
  | succ k ih=>
   intro i n acc hi ha hn hj;obtain⟨m,rfl⟩:∃m,n=m+1:=⟨n - 1,by omega⟩;have hb:=bnd i (by omega);rw[hm m i _ acc (by omega) (by omega) hb.2 hb.1]
   obtain⟨ys,e1,e2,e3⟩:=ih (i+1) m (acc.set i (e (k0+c*(i:P)))) (by simp; omega) (by simpa using ha) (by omega) (fun j hj2 hlt=>by
    by_cases e1:j=i
    ·subst e1; simp
    ·rw[List.getElem_set_ne (Ne.symm e1)];exact hj j (by simpa using hj2) (by omega))
   refine⟨ys,?_,e2,e3⟩;rw[← e1];congr 1
   rw[show(((i+1:U):P))=(i:P)+1 from rfl,Int.mul_add,Int.mul_one];omega
 obtain⟨ys,e1,e2,e3⟩:=keym xs.length 0 bigN xs (by omega) rfl (Bx (by rw[AA]; omega)) (fun j _ h=>by omega)
 have keyh:∀(k i n:U),i+k=ys.length→k<n→Lh ys n (k0+c*(i:P)) (i:P)=G (k0+c*(xs.length:P)):=by
  intro k
  induction k with
  | zero=>
   intro i n hi hn;obtain⟨m,rfl⟩:∃m,n=m+1:=⟨n - 1,by omega⟩;have:i=ys.length:=by omega
   subst this;rw[hhe,e2]
  | succ k ih=>
   intro i n hi hn;obtain⟨m,rfl⟩:∃m,n=m+1:=⟨n - 1,by omega⟩;have hb:=bnd i (by omega);rw[hh m i _ ys (by omega) (by omega) hb.2 hb.1 (e3 i (by omega))];rw[← ih (i+1) m (by omega) (by omega)];congr 1
   rw[show(((i+1:U):P))=(i:P)+1 from rfl,Int.mul_add,Int.mul_one];omega
 refine⟨ys,?_,e2,?_⟩
 ·simpa using e1
 ·have:=keyh ys.length 0 bigN (by omega) (Bx (by rw[AA]; omega));simpa using this
theorem sW{s:H V}(h:EC s=F):1≤s.length∧s.length≤8:=by
 simp only[EC,Oj,Z,decide_eq_true_eq] at h;omega
def OK(x p:P):P:=if x<yQ .i64 (zF p 2) then
  yQ .i64 (zF (yQ .i64 (yQ .i64 (40000*x)*yQ .i64 (yQ .i64 (zF p 2) - x))) (yQ .i64 (yQ .i64 (zF p 2)*yQ .i64 (zF p 2))))
 else yQ .i64 (0 - yQ .i64 (zF (yQ .i64 (yQ .i64 (40000*yQ .i64 (x - yQ .i64 (zF p 2)))*yQ .i64 (yQ .i64 (zF p 2) - yQ .i64 (x - yQ .i64 (zF p 2))))) (yQ .i64 (yQ .i64 (zF p 2)*yQ .i64 (zF p 2)))))
theorem SV{p:P}(h:FX p=F):4≤p∧p≤2880∧yQ .i64 (yB p 4)=0:=by
 simp only[FX,Z,decide_eq_true_eq,beq_iff_eq] at h;exact⟨h.1.1,h.1.2,h.2⟩
theorem Vq{p:P}(h1:4≤p)(h2:p≤2880):(yQ .i64 (yQ .i64 (zF p 2)*yQ .i64 (zF p 2))==0)=E:=by
 have e:zF p 2=p / 2:=Int.tdiv_eq_ediv_of_nonneg (by omega);rw[e,Am (n:=p / 2) (by omega) (by omega)];generalize hq:p / 2=q
 have q1:2≤q:=by omega
 have q2:q≤1440:=by omega
 have m1:2*2≤q*q:=Int.mul_le_mul q1 q1 (by omega) (by omega);have m2:q*q≤1440*1440:=Int.mul_le_mul q2 q2 (by omega) (by omega);rw[Am (by omega) (by omega)];simp only[beq_eq_false_iff_ne,ne_eq];omega
theorem vC{n p:P}(hp:FX p=F)(hn:0≤n)(hn2:n≤100000):Nq n p=G (OK (yB n p) p):=by
 obtain⟨p1,p2,p3⟩:=SV hp;have hm:yB n p=n % p:=zW hn;have r1:=Int.emod_nonneg n (show p≠0 by omega);have r2:=Int.emod_lt_of_pos n (show 0<p by omega);unfold Nq;rw[hm,Am (n:=n % p) (by omega) (by omega),p3];have k1:¬p<4:=by omega
 have k2:¬2880<p:=by omega
 have k3:(p==0)=E:=by simp; omega
 have k4:¬n % p<0:=by omega
 simp only[k1,k2,k3,k4,decide_false,C,if_false,bne_self_eq_false];unfold Nr OK;rw[Vq p1 p2];simp only[C,if_false,decide_eq_true_eq];split<;>rfl
theorem pf{n p:P}(hp:FX p=F)(hn:0≤n)(hn2:n≤100000):M6 n p=G (OK (yB n p) p):=by
 obtain⟨p1,p2,p3⟩:=SV hp;have hm:yB n p=n % p:=zW hn;have r1:=Int.emod_nonneg n (show p≠0 by omega);have r2:=Int.emod_lt_of_pos n (show 0<p by omega);have k3:(p==0)=E:=by simp; omega
 have hmm:yB (n % p+p) p=n % p:=by
  rw[zW (by omega),Int.add_emod_right,Int.emod_emod]
 unfold M6;rw[Xz,hp,X,hm,Am (n:=n % p) (by omega) (by omega),Am (n:=n % p+p) (by omega) (by omega),hmm,Am (n:=n % p) (by omega) (by omega),Vq p1 p2];simp only[k3,C,if_false,if_true,decide_eq_true_eq];unfold OK;by_cases hx:n % p<yQ .i64 (zF p 2)
 ·rw[if_pos hx,if_neg (by omega)]
 ·rw[if_neg hx,if_pos (by omega)]
theorem rj{t:Xl}{m:P}(ht:ES t=F)(h0:0≤m)(h1:m≤2880):∃r,KH t m=G r∧Pn t m=G r:=by
 simp only[ES,Z,decide_eq_true_eq,zM] at ht
 obtain⟨_,hl,hp⟩:=ht;have hlm:t.Parts.length≤maxLen:=by rw[AA]; omega
 have key:∀(k i n:U) (v:P),i+k=t.Parts.length→k<n→∃r,IE m t n v (i:P)=G r∧HJ m t n v (i:P)=G r:=by
  intro k
  induction k with
  | zero=>
   intro i n v hi hn;obtain⟨q,rfl⟩:∃q,n=q+1:=⟨n - 1,by omega⟩;have:i=t.Parts.length:=by omega
   subst this;exact⟨v,by simp[IE],by simp[HJ]⟩
  | succ k ih=>
   intro i n v hi hn;obtain⟨q,rfl⟩:∃q,n=q+1:=⟨n - 1,by omega⟩;have hlt:i<t.Parts.length:=by omega
   have hx:=hp _ (I hlt);simp only[H2,Z,decide_eq_true_eq] at hx
   obtain⟨_,hx1,hx2,hx3⟩:=hx;obtain⟨p1,p2,_⟩:=SV hx1;rw[Am (by omega) (by omega)] at hx3
   have hw:=Am (n:=m+t.Parts[i].Phase) (by omega) (by omega);obtain⟨r,e1,e2⟩:=ih (i+1) q (yQ .i64 (v+yQ .i64 (zF (yQ .i64 (t.Parts[i].Amp*OK (yB (m+t.Parts[i].Phase) t.Parts[i].Period) t.Parts[i].Period)) 10000))) (by omega) (by omega);rw[← Aw hlt hlm] at e1 e2
   refine⟨r,?_,?_⟩
   ·simp only[IE,Al,Y hlt,X,Af,hlt,decide_true,if_true,hw,vC hx1 (show 0≤m+t.Parts[i].Phase by omega) (by omega)];exact e1
   ·simp only[HJ,Al,Y hlt,X,Af,hlt,decide_true,if_true,hw,pf hx1 (show 0≤m+t.Parts[i].Phase by omega) (by omega)];exact e2
 exact key t.Parts.length 0 bigN t.Mean (by omega) (Bx hlm)
theorem lu{f:Xd}(h:Dj f=F):ES f.Tide=F∧0<f.Surges.length∧f.Surges.length≤6:=by
 simp only[Dj,Z,decide_eq_true_eq] at h;refine⟨h.1,?_,?_⟩<;>omega
theorem vr{f:Xd}{m:P}(h0:0<f.Surges.length)(h6:f.Surges.length≤6):∃(a:U) (ha:a<f.Surges.length),LM f m=G (a:P)∧IF f m=G f.Surges[a]:=by
 have hl:f.Surges.length≤maxLen:=by rw[AA]; omega
 have key:∀(k i n a:U) (ha:a<f.Surges.length),i+k=f.Surges.length→k<n→∃(a':U) (ha':a'<f.Surges.length),F8 m f n (a:P) (i:P)=G (a':P)∧
   FA m f n (i:P) f.Surges[a].From f.Surges[a].Low f.Surges[a].High=G f.Surges[a']:=by
  intro k
  induction k with
  | zero=>
   intro i n a ha hi hn;obtain⟨q,rfl⟩:∃q,n=q+1:=⟨n - 1,by omega⟩;have:i=f.Surges.length:=by omega
   subst this;exact⟨a,ha,by simp[F8],by simp[FA]⟩
  | succ k ih=>
   intro i n a ha hi hn;obtain⟨q,rfl⟩:∃q,n=q+1:=⟨n - 1,by omega⟩;have hlt:i<f.Surges.length:=by omega
   by_cases hm:f.Surges[i].From≤m
   ·obtain⟨a',ha',e1,e2⟩:=ih (i+1) q i hlt (by omega) (by omega);rw[← Aw hlt hl] at e1 e2
    refine⟨a',ha',?_,?_⟩
    ·simp only[F8,Al,Y hlt,X,Af,hlt,decide_true,if_true,hm];exact e1
    ·simp only[FA,Al,Y hlt,X,Af,hlt,decide_true,if_true,hm];exact e2
   ·obtain⟨a',ha',e1,e2⟩:=ih (i+1) q a ha (by omega) (by omega);rw[← Aw hlt hl] at e1 e2
    refine⟨a',ha',?_,?_⟩
    ·simp only[F8,Al,Y hlt,X,Af,hlt,decide_true,if_true,hm,decide_false,C,if_false];exact e1
    ·simp only[FA,Al,Y hlt,X,Af,hlt,decide_true,if_true,hm,decide_false,C,if_false];exact e2
 obtain⟨a,ha,e1,e2⟩:=key f.Surges.length 0 bigN 0 h0 (by omega) (Bx hl);have z:((0:U):P)=0:=rfl;rw[z] at e1 e2
 have e0:ix f.Surges 0=G f.Surges[0]:=Ai h0;refine⟨a,ha,?_,?_⟩
 ·unfold LM;exact e1
 ·unfold IF;rw[e0,X];exact e2
def T4(s:X4):P:=if s.Slow=F then yQ .i64 (zF s.Draught 50) else yQ .i64 (zF s.Draught 20)
def J6(c:X1)(i:P)(s:X4):P:=yQ .i64 (yQ .i64 (yQ .i64 (s.Draught+T4 s)+50) - (Aq c i).Depth)
theorem uv{c:X1}{s:X4}{i:P}(hn:∀x∈c.Points,x.Name.length≤maxLen)(hs:s.Name.length≤maxLen)(h1:AO c=F)(h2:Cj s=F)(h3:idx i c.Segments.length=F):Nb c i s=G (J6 c i s):=by
 have:=(EQ h1).2.1;unfold Nb IJ PK PM;simp only[DQ hn,Lg hs,h1,h2,X,if_true,CP i (show c.Segments.length≤1000 by omega),h3,(BJ h3).1,J6,T4];cases s.Slow<;>rfl
theorem pS{c:X1}{s:X4}{i:P}(hn:∀x∈c.Points,x.Name.length≤maxLen)(hs:s.Name.length≤maxLen)(h1:AO c=F)(h2:Cj s=F)(h3:idx i c.Segments.length=F):LR c i s=G (J6 c i s):=by
 unfold LR HR Pk Pl;simp only[FM hn,GS hs,h1,h2,X,if_true,E7,h3,(BJ h3).1,J6,T4];cases s.Slow<;>rfl
def OL(l:H X5)(i:U):Q:=match l[i]? with
 | some x=>decide (0≤x.From)&&(decide (x.From≤x.To)&&(decide (x.To≤2880)&&(match l[i - 1]? with | some y=>decide (i=0) || !(decide (x.From≤yQ .i64 (y.To+1))) | none=>F)))
 | none=>E
def OM(l:H X5):Q:=(zB l.length).all (OL l)
theorem Yp{α:Type}{l:H α}{i:U}(h0:0<i)(hi:i<l.length)(hl:l.length≤maxLen):ix l (yQ .i64 ((i:P) - 1))=G (l[i - 1]'(by omega)):=by
 rw[AA] at hl
 rw[Am (by omega) (by omega),show(i:P) - 1=((i - 1:U):P) by omega,Ai (by omega)]
theorem YU{l:H X5}(hl:l.length≤maxLen):KG l=G (OM l):=by
 unfold KG OM;refine Lu (L:=Fz l) l.length (OL l) hl (fun n i hi=> ?_) (fun n=>by simp[Fz]);have hp:i - 1<l.length:=by omega
 simp only[Fz,Af,hi,decide_true,if_true,Ai hi,X,BB,OL,Y hi,Y hp];generalize Fz l n (yQ .i64 ((i:P)+1))=K
 by_cases h0:i=0
 ·subst h0;have hz:¬(0:P)<((0:U):P):=by omega
  simp only[hz,decide_false,C,if_false,decide_true,Bool.true_or];by_cases a1:0≤l[0].From<;>by_cases a2:l[0].From≤l[0].To<;>by_cases a3:l[0].To≤2880<;>by_cases a4:l[0].From≤2880<;>simp[a1,a2,a3,a4]<;>omega
 ·have hz:(0:P)<(i:P):=by omega
  simp only[hz,decide_true,if_true,Yp (by omega) hi hl,X,h0,decide_false,Bool.false_or];by_cases a1:0≤l[i].From<;>by_cases a2:l[i].From≤l[i].To<;>by_cases a3:l[i].To≤2880<;>by_cases a4:l[i].From≤2880<;>by_cases a5:l[i].From≤yQ .i64 (l[i - 1].To+1)<;>simp[a1,a2,a3,a4,a5]<;>omega
theorem WN{l:H X5}(hl:l.length≤maxLen):JY l=G (OM l):=by
 unfold JY OM;refine Lu (L:=Fc l) l.length (OL l) hl (fun n i hi=> ?_) (fun n=>by simp[Fc]);have hp:i - 1<l.length:=by omega
 simp only[Fc,Af,hi,decide_true,if_true,Ai hi,X,OL,Y hi,Y hp];generalize Fc l n (yQ .i64 ((i:P)+1))=K
 have b1:decide (l[i].From<0)= !decide (0≤l[i].From):=by rw[zE]; simp
 have b2:decide (l[i].To<l[i].From)= !decide (l[i].From≤l[i].To):=by rw[zE]; simp
 have b3:decide (2880<l[i].To)= !decide (l[i].To≤2880):=by rw[zE]; simp
 rw[b1,b2,b3];by_cases h0:i=0
 ·subst h0;have hz:¬(0:P)<((0:U):P):=by omega
  simp only[hz,decide_false,C,if_false,decide_true,Bool.true_or];cases decide (0≤l[0].From)<;>cases decide (l[0].From≤l[0].To)<;>cases decide (l[0].To≤2880)<;>rfl
 ·have hz:(0:P)<(i:P):=by omega
  simp only[hz,decide_true,if_true,Yp (by omega) hi hl,X,h0,decide_false,Bool.false_or];cases decide (0≤l[i].From)<;>cases decide (l[i].From≤l[i].To)<;>cases decide (l[i].To≤2880)<;>cases decide (l[i].From≤yQ .i64 (l[i - 1].To+1))<;>rfl
def D7(g:U→Q)(n:U):Q:=decide (0<n)&&g (n - 1)
def QF(v:H X5)(n:P):H X5:=v.dropLast++ [⟨(v.getLast?.getD ⟨0,0⟩).From,n⟩]
def AZ(g:U→Q):U→H X5
 | 0=> []
 | n+1=>if g n=F then(if D7 g n=F then QF (AZ g n) (n:P) else AZ g n++ [⟨(n:P),(n:P)⟩]) else AZ g n
theorem Yc(g:U→Q)(n:U):D7 g (n+1)=g n:=by simp[D7]
theorem T0(l:H X5)(x:X5)(n:P):QF (l++ [x]) n=l++ [⟨x.From,n⟩]:=by simp[QF]
theorem QT(g:U→Q):∀n,(AZ g n).length≤n∧(D7 g n=F→∃l x,AZ g n=l++ [x]∧x.To=(n:P) - 1)∧(D7 g n=E→AZ g n= []∨∃l x,AZ g n=l++ [x]∧x.To<(n:P) - 1)
 | 0=>⟨by simp[AZ],by simp[D7],fun _=> .inl rfl⟩
 | n+1=>by
  obtain⟨h1,h2,h3⟩:=QT g n;rw[Yc];by_cases hg:g n=F
  ·by_cases ho:D7 g n=F
   ·obtain⟨l,x,e,ht⟩:=h2 ho;have ew:AZ g (n+1)=l++ [⟨x.From,(n:P)⟩]:=by simp only[AZ,hg,if_true,ho,e,T0]
    refine⟨by rw[ew]; rw[e] at h1; simp at h1 ⊢; omega,fun _=>⟨l,_,ew,by simp only; omega⟩,fun h=>by rw[hg] at h; cases h⟩
   ·have ew:AZ g (n+1)=AZ g n++ [⟨(n:P),(n:P)⟩]:=by simp only[AZ,hg,if_true,ho,if_false]; rfl
    refine⟨by rw[ew]; simp; omega,fun _=>⟨_,_,ew,by simp only; omega⟩,fun h=>by rw[hg] at h; cases h⟩
  ·have ew:AZ g (n+1)=AZ g n:=by simp[AZ,hg]
   rw[ew];refine⟨by omega,fun h=>absurd h hg,fun _=> ?_⟩;cases ho:D7 g n with
   | true=>
    obtain⟨l,x,e,ht⟩:=h2 ho;exact .inr ⟨l,x,e,by omega⟩
   | false=>
    rcases h3 ho with e|⟨l,x,e,ht⟩
    ·exact .inl e
    ·exact .inr ⟨l,x,e,by omega⟩
theorem ZY{g g':U→Q}:∀n,(∀j,j<n→g j=g' j)→AZ g n=AZ g' n
 | 0,_=>rfl
 | n+1,h=>by
  have e1:D7 g n=D7 g' n:=by
   unfold D7;by_cases h0:0<n
   ·rw[h (n - 1) (by omega)]
   ·simp[h0]
  simp only[AZ,h n (by omega),e1,ZY n fun j hj=>h j (by omega)]
theorem Qu{l:H X5}{x:X5}(h:l.length≤100000):ix (l++ [x]) (yQ .i64 (((l++ [x]).length:P) - 1))=G x∧Int.toNat (yQ .i64 (((l++ [x]).length:P) - 1))=l.length:=by
 have e:yQ .i64 (((l++ [x]).length:P) - 1)=((l.length:U):P):=by
  rw[Am (by simp<;>omega) (by simp<;>omega)];simp
 rw[e];exact⟨by rw[Ai (by simp)]; simp,by simp⟩
theorem uw{L:H Q}(hl:L.length≤3000):Nu L=G (AZ (fun i=>L.getD i E) L.length):=by
 unfold Nu
 have key:∀(k i n:U),i+k=L.length→k<n→Ex L n (i:P) (AZ (fun i=>L.getD i E) i)=G (AZ (fun i=>L.getD i E) L.length):=by
  intro k
  induction k with
  | zero=>
   intro i n hi hn;obtain⟨m,rfl⟩:∃m,n=m+1:=⟨n - 1,by omega⟩;have:i=L.length:=by omega
   subst this;simp[Ex]
  | succ k ih=>
   intro i n hi hn;obtain⟨m,rfl⟩:∃m,n=m+1:=⟨n - 1,by omega⟩;have hlt:i<L.length:=by omega
   have ih':=ih (i+1) m (by omega) (by omega);have hw:=Aw hlt (show L.length≤maxLen by rw[AA]; omega);obtain⟨w1,w2,w3⟩:=QT (fun i=>L.getD i E) i;have hgi:L.getD i E=L[i]:=by simp[hlt]
   rw[AZ] at ih'
   simp only[hgi] at ih'
   simp only[Ex,Af,hlt,decide_true,if_true,Ai hlt,X];have hwm:yQ .i64 ((i:P) - 1)=(i:P) - 1:=Am (by omega) (by omega);generalize hwi:AZ (fun i=>L.getD i E) i=v at *
   cases hb:L[i] with
   | false=>
    rw[hb] at ih'
    simp only[C,if_false] at ih' ⊢
    rw[hw];exact ih'
   | true=>
    rw[hb] at ih'
    simp only[if_true] at ih' ⊢
    cases ho:D7 (fun i=>L.getD i E) i with
    | true=>
     rw[ho] at ih'
     obtain⟨l,x,rfl,ht⟩:=w2 ho;obtain⟨q1,q2⟩:=Qu (l:=l) (x:=x) (by simp at w1; omega);have hpos:0<(l++ [x]).length:=by simp
     have hpos':decide ((0:P)<((l++ [x]).length:P))=F:=decide_eq_true (by omega);rw[if_pos hpos',q1];simp only[X,IG,hwm,ht,beq_self_eq_true,if_true,q1,q2];rw[hw];simp only[if_true,T0] at ih'
     simpa using ih'
    | false=>
     rw[ho] at ih'
     simp only[C,if_false] at ih'
     have fin:∀w:H X5,w=v→IG (i:P) L w (Ex L m) E=G (AZ (fun i=>L.getD i E) L.length):=by
      rintro w rfl
      simp only[IG,C,if_false];rw[NR (by simp; omega) (by omega),hw];exact ih'
     rcases w3 ho with rfl|⟨l,x,rfl,ht⟩
     ·exact fin [] rfl
     ·obtain⟨q1,q2⟩:=Qu (l:=l) (x:=x) (by simp at w1; omega);have hpos':decide ((0:P)<((l++ [x]).length:P))=F:=decide_eq_true (by simp<;>omega);have hne:(x.To==(i:P) - 1)=E:=by simp<;>omega
      rw[if_pos hpos',q1];simp only[X,hwm,hne];exact fin _ rfl
 exact key L.length 0 bigN (by omega) (Bx (by rw[AA]; omega))
theorem pT{a0:P→O Q}{g:U→Q}(h:∀i:U,i≤2880→a0 (i:P)=G (g i)):Mm a0=G (AZ g 2881):=by
 unfold Mm
 have key:∀(k i n:U),i+k=2881→k<n→Fi a0 n (D7 g i) (i:P) (AZ g i)=G (AZ g 2881):=by
  intro k
  induction k with
  | zero=>
   intro i n hi hn;obtain⟨m,rfl⟩:∃m,n=m+1:=⟨n - 1,by omega⟩;have:i=2881:=by omega
   subst this;simp[Fi]
  | succ k ih=>
   intro i n hi hn;obtain⟨m,rfl⟩:∃m,n=m+1:=⟨n - 1,by omega⟩;have hle:decide ((i:P)≤2880)=F:=decide_eq_true (by omega);have ih':=ih (i+1) m (by omega) (by omega);have hw:yQ .i64 ((i:P)+1)=((i+1:U):P):=Aw (n:=2881) (by omega) (by rw[AA]; omega);obtain⟨w1,w2,w3⟩:=QT g i;rw[Yc,AZ] at ih'
   simp only[Fi,hle,if_true,h i (by omega),X];generalize hwi:AZ g i=v at *
   cases hb:g i with
   | false=>
    rw[hb] at ih'
    simp only[C,if_false,HZ] at ih' ⊢
    rw[hw];exact ih'
   | true=>
    rw[hb] at ih'
    simp only[if_true] at ih' ⊢
    cases ho:D7 g i with
    | true=>
     rw[ho] at ih'
     obtain⟨l,x,rfl,ht⟩:=w2 ho;obtain⟨q1,q2⟩:=Qu (l:=l) (x:=x) (by simp at w1; omega);simp only[if_true,K7,q1,X,HZ,q2];rw[hw];simp only[if_true,T0] at ih'
     simpa using ih'
    | false=>
     rw[ho] at ih'
     simp only[C,if_false] at ih' ⊢
     rw[NR (by simp; omega) (by omega)];obtain⟨q1,q2⟩:=Qu (l:=v) (x:=⟨(i:P),0⟩) (by omega);simp only[K7,q1,X,HZ,q2];rw[hw];simpa using ih'
 have:=key 2881 0 bigN (by omega) (Bx (by rw[AA]; omega));exact this
def Dq(f:Xd)(m:U):P:=yQ .i64 ((KH f.Tide (m:P)).getD 0+((IF f (m:P)).getD ⟨0,0,0⟩).Low)
theorem XQ{f:Xd}(hf:Dj f=F){m:U}(hm:m≤2880):∃r x,KH f.Tide (m:P)=G r∧IF f (m:P)=G x∧Dq f m=yQ .i64 (r+x.Low)∧LL f (m:P)=G (Dq f m):=by
 obtain⟨ht,h0,h6⟩:=lu hf;obtain⟨r,r1,r2⟩:=rj ht (show(0:P)≤(m:P) by omega) (by omega);obtain⟨a,ha,a1,a2⟩:=vr (m:=(m:P)) h0 h6;refine⟨r,_,r1,a2,by simp[Dq,r1,a2],?_⟩;unfold LL;simp[r2,a1,Ai ha,Dq,r1,a2]
theorem rk{f:Xd}(hf:Dj f=F)(lv:P):Ns f lv E=G (AZ (fun i=>decide (lv≤Dq f i)) 2881):=by
 unfold Ns
 have key:∀(k i n:U),i+k=2881→k<n→GC lv f n E (i:P) ((zB i).map fun j=>decide (lv≤Dq f j))=G (AZ (fun i=>decide (lv≤Dq f i)) 2881):=by
  intro k
  induction k with
  | zero=>
   intro i n hi hn;obtain⟨m,rfl⟩:∃m,n=m+1:=⟨n - 1,by omega⟩;have:i=2881:=by omega
   subst this;have hd:decide (((2881:U):P)≤2880)=E:=by decide
   simp only[GC,hd,C,if_false];rw[uw (by simp)];simp only[X,List.length_map,List.length_range];refine congrArg G (ZY 2881 fun j hj=> ?_);show(((zB 2881).map fun j=>decide (lv≤Dq f j)).getD j E)=_
   rw[List.getD_eq_getElem?_getD,yE,List.getElem?_range hj];rfl
  | succ k ih=>
   intro i n hi hn;obtain⟨m,rfl⟩:∃m,n=m+1:=⟨n - 1,by omega⟩;have hle:decide ((i:P)≤2880)=F:=decide_eq_true (by omega);have hw:yQ .i64 ((i:P)+1)=((i+1:U):P):=Aw (n:=2881) (by omega) (by rw[AA]; omega);obtain⟨r,x,e1,e2,e3,_⟩:=XQ hf (show i≤2880 by omega);simp only[GC,hle,if_true,e2,X,C,if_false,Nt,e1];rw[NR (by simp; omega) (by omega),hw];have:=ih (i+1) m (by omega) (by omega);rw[List.range_succ,List.map_append] at this
   simpa[e3] using this
 have:=key 2881 0 bigN (by omega) (Bx (by rw[AA]; omega));exact this
theorem ry{f:Xd}(hf:Dj f=F)(lv:P):LS f lv=G (AZ (fun i=>decide (lv≤Dq f i)) 2881):=by
 unfold LS;rw[NS,hf];simp only[X,if_true];rw[pT (g:=fun i=>decide (lv≤Dq f i)) fun i hi=> ?_]
 ·rfl
 ·obtain⟨_,_,_,_,_,e⟩:=XQ hf hi;simp[Pi,e]
theorem ZZ(g:U→Q):∀n,∀w∈AZ g n,0≤w.From∧w.From≤w.To∧w.To<(n:P)
 | 0,w,h=>by cases h
 | n+1,w,h=>by
  have ih:=ZZ g n;simp only[AZ] at h;split at h
  ·split at h
   ·unfold QF at h;rcases zZ.1 h with h|h
    ·have:=ih w ((List.dropLast_sublist _).subset h); omega
    ·simp only[zP] at h;subst h;cases e:(AZ g n).getLast? with
     | none=>simp only[Option.getD_none]; omega
     | some x=>have:=ih x (List.mem_of_getLast? e); simp only[Option.getD_some]; omega
   ·rcases zZ.1 h with h|h
    ·have:=ih w h; omega
    ·simp only[zP] at h;subst h;simp only;omega
  ·have:=ih w h; omega
theorem uj(a1:P)(a0:H X5)(hl:a0.length≤100000)(hb:0≤a1)(hb2:a1≤2880)(hW:∀w∈a0,0≤w.From∧w.From≤w.To∧w.To<(2881:P)):∃r,Fy a1 a0 bigN 0 []=G r∧Fb a1 a0 bigN 0 []=G r∧r.length≤a0.length∧∀w∈r,0≤w.From∧w.From≤w.To∧w.To+a1≤2880:=by
 have key:∀(k i n:U) (acc:H X5),i+k=a0.length→k<n→acc.length≤i→(∀w∈acc,0≤w.From∧w.From≤w.To∧w.To+a1≤2880)→∃r,Fy a1 a0 n (i:P) acc=G r∧Fb a1 a0 n (i:P) acc=G r∧r.length≤a0.length∧∀w∈r,0≤w.From∧w.From≤w.To∧w.To+a1≤2880:=by
  intro k
  induction k with
  | zero=>
   intro i n acc hi hn ha hq;obtain⟨m,rfl⟩:∃m,n=m+1:=⟨n - 1,by omega⟩;have:i=a0.length:=by omega
   subst this;exact⟨acc,by simp[Fy],by simp[Fb],ha,hq⟩
  | succ k ih=>
   intro i n acc hi hn ha hq;obtain⟨m,rfl⟩:∃m,n=m+1:=⟨n - 1,by omega⟩;have hlt:i<a0.length:=by omega
   simp only[Fy,Fb,Af,hlt,decide_true,if_true,Ai hlt,X];rw[Aw hlt (show a0.length≤maxLen by rw[AA]; omega)];by_cases hc:a1≤yQ .i64 (a0[i].To - a0[i].From)
   ·simp only[hc,decide_true,if_true];rw[NR (by simp; omega) (by omega),NR (by simp; omega) (by omega)];refine ih (i+1) m _ (by omega) (by omega) (by simp; omega) fun w hw=> ?_
    have hx:=hW _ (I hlt);rw[Am (n:=a0[i].To - a0[i].From) (by omega) (by omega)] at hc
    rcases zZ.1 hw with hw|hw
    ·exact hq w hw
    ·simp only[zP] at hw
     subst hw;simp only;rw[Am (by omega) (by omega)];omega
   ·simp only[hc,decide_false,C,if_false];exact ih (i+1) m _ (by omega) (by omega) (by omega) hq
 exact key a0.length 0 bigN [] (by omega) (Bx (by rw[AA]; omega)) (by simp) (fun w h=>by cases h)
theorem vR{f:Xd}{c:X1}{s:X4}{i:P}(hf:Dj f=F)(hn:∀x∈c.Points,x.Name.length≤maxLen)(hs:s.Name.length≤maxLen)(h1:AO c=F)(h2:Cj s=F)(h3:idx i c.Segments.length=F) :
  ∃r,Nm f c i s=G r∧M3 f c i s=G r∧r.length≤2881∧∀w∈r,0≤w.From∧w.From≤w.To∧w.To+AF (Aq c i) s≤2880:=by
 have hsg:=(EQ h1).2.1;have hW:=(QT (fun j=>decide (J6 c i s≤Dq f j)) 2881).1;have hB:=ZZ (fun j=>decide (J6 c i s≤Dq f j)) 2881
 have hmb:1≤AF (Aq c i) s∧AF (Aq c i) s≤480:=by
  obtain⟨_,_,a,b⟩:=(EQ h1).2.2 _ (BJ h3).2;unfold AF;split
  ·rw[Am (n:=2*_) (by omega) (by omega)]; omega
  ·omega
 have hmin:LU c i s=G (AF (Aq c i) s):=by
  unfold LU;simp only[FM hn,GS hs,h1,h2,X,if_true,E7,h3,(BJ h3).1,NT]
 have hok1:IJ c i s=G F:=by
  unfold IJ;simp only[DQ hn,Lg hs,h1,h2,X,if_true,CP i (show c.Segments.length≤1000 by omega),h3]
 have hok2:HR c i s=G F:=by
  unfold HR;simp only[FM hn,GS hs,h1,h2,X,if_true,E7,h3]
 unfold Nm PO M3;simp only[YO,NS,hf,X,if_true,hok1,hok2,uv hn hs h1 h2 h3,pS hn hs h1 h2 h3,rk hf,ry hf,YR hn hs h1 h2 h3,hmin];generalize AZ (fun j=>decide (J6 c i s≤Dq f j)) 2881=W at hW hB
 have hWm:W.length≤maxLen:=by rw[AA]; omega
 unfold PL Pm;simp only[YU hWm,WN hWm,X,BB,GT];obtain⟨r,r1,r2,r3,r4⟩:=uj (AF (Aq c i) s) W (by omega) (by omega) (by omega) hB;by_cases hw:OM W=F
 ·by_cases hm:(decide (0≤AF (Aq c i) s)&&decide (AF (Aq c i) s≤2880))=F
  ·exact⟨r,by simp only[hw,hm,if_true,r1,X],by simp only[hw,hm,if_true,r2,X],by omega,r4⟩
  ·exact⟨[],by simp[hw,hm],by simp[hw,hm],by simp,fun w h=>by cases h⟩
 ·exact⟨[],by simp[hw],by simp[hw],by simp,fun w h=>by cases h⟩
def i64(n:P):Prop:= -9223372036854775808≤n∧n≤9223372036854775807
end Go.Vi
