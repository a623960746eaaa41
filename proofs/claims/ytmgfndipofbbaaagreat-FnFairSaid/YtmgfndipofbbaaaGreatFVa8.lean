/-
Plain law of covers. No condition.
-/
import Derived.Test.YtmgfndipofbbaaaGreatFVi33
import Derived.Test.YtmgfndipofbbaaaGreatFNf
import Derived.KernelRfl
namespace Go.Vi
open Option renaming bind_some → W, some → G
open List renaming getElem?_eq_getElem → X, range → I, getElem_mem → zB, replicate → zE, getElem?_set_ne → zH, getElem?_set_self → zI, range' → zK, length_singleton → zN, all_eq_true → zQ, length_append → zW, mem_range → zX, getElem_set_self → zZ, foldr_cons → yA, getElem?_map → yF, range'_succ → yG
open Bool renaming and_eq_true → Y, false_eq_true → zA, eq_iff_iff → zJ, true_and → zS, or_eq_true → yI, true → F, false → E
open Int renaming tdiv → Z, tdiv_eq_ediv_of_nonneg → C, tmod_eq_emod_of_nonneg → zC, toNat_natCast → zD, ediv_nonneg → zU, mul_le_mul_of_nonneg_right → yB, emod_lt_of_pos → yD, emod_nonneg → yJ, mul_le_mul → yK, tmod → yL
open Nat renaming mod_two_eq_zero_or_one → zF, lt_trans → zG, lt_or_ge → zL, testBit_or → zM, pow_le_pow_right → zO, eq_of_testBit_eq → zP, pow_lt_pow_right → zR, testBit_and → zT, lt_of_lt_of_le → zV, or_lt_two_pow → zY, mul_le_mul → yC, lt_of_le_of_lt → yE, and_div_two → yH
open IntKind renaming wrap → yM
open _root_ renaming List → H, Option → O, Int → P, Bool → Q, Nat → U, UInt8 → V
theorem sn{n:U}(h:0<n):∃q,n=q+1:=⟨n - 1,by omega⟩
set_option linter.all false
def K6(a b:U):U:=a ^^^ (a &&& b)
theorem A47(a b i:U):(K6 a b).testBit i=(a.testBit i&& !b.testBit i):=by
 simp only[K6,Nat.testBit_xor,zT]
 cases a.testBit i<;>cases b.testBit i<;>rfl
theorem A9i(n i:U):(2 ^ n).testBit i=decide (n=i):=Nat.testBit_two_pow
theorem B0p{s n i:U}(h:s<2 ^ n)(hi:s.testBit i=F):i<n:=by
 rcases zL i n with h1|h1
 ·exact h1
 ·have:s<2 ^ i:=zV h (zO (by omega) h1)
  rw[Nat.testBit_lt_two_pow this] at hi
  cases hi
theorem E1p{s i:U}(hi:s.testBit i=F):i<s:=B0p Nat.lt_two_pow_self hi
theorem C6y(p:U→Q):∀k:U,∃q:U,∀i,q.testBit i=(decide (i<k)&&p i)
 | 0=>⟨0,fun i=>by simp⟩
 | k+1=>by
  obtain⟨q,hq⟩:=C6y p k
  refine⟨q ||| (if p k then 2 ^ k else 0),fun i=> ?_⟩
  rw[zM,hq]
  by_cases hp:p k=F
  ·rw[if_pos hp,A9i]
   by_cases h:k=i
   ·subst h; simp[hp]
   ·have:decide (i<k+1)=decide (i<k):=by simp; omega
    simp[h,this]
  ·rw[if_neg hp,Nat.zero_testBit]
   by_cases h:k=i
   ·subst h; simp[hp]
   ·have:decide (i<k+1)=decide (i<k):=by simp; omega
    simp[this]
theorem E4e{q r:U}(h:q &&& r=q){i:U}(hi:q.testBit i=F):r.testBit i=F:=by
 have:=congrArg (fun x=>x.testBit i) h
 simp only[zT,hi,zS] at this
 exact this
theorem C4b{q r:U}(h:∀i,q.testBit i=F→r.testBit i=F):q &&& r=q:=by
 apply zP
 intro i
 rw[zT]
 cases hq:q.testBit i with
 | false=>rfl
 | true=>rw[h i hq]; rfl
theorem D39:∀(n r p q:U),r≤n→p &&& r=p→q &&& r=q→q<p→q≤(p - 1) &&& r:=by
 intro n
 induction n with
 | zero=>
  intro r p q hr hp hq hlt
  have:r=0:=by omega
  subst this
  rw[Nat.and_zero] at hp hq
  omega
 | succ n ih=>
  intro r p q hr hp hq hlt
  by_cases h0:r=0
  ·subst h0
   rw[Nat.and_zero] at hp hq
   omega
  have hp2:(p / 2) &&& (r / 2)=p / 2:=by rw[← yH,hp]
  have hq2:(q / 2) &&& (r / 2)=q / 2:=by rw[← yH,hq]
  have e2:∀a b:U,(a &&& b) % 2=(a % 2)*(b % 2):=fun a b=>by
   have h:=zT a b 0
   simp only[Nat.testBit_zero] at h
   rcases zF a with ha|ha<;>rcases zF b with hb|hb<;>rcases zF (a &&& b) with hc|hc<;>simp_all
  have hpm:=e2 p r
  have hqm:=e2 q r
  rw[hp] at hpm
  rw[hq] at hqm
  have hd:((p - 1) &&& r) / 2=((p - 1) / 2) &&& (r / 2):=yH
  have hm:=e2 (p - 1) r
  rcases zF p with h1|h1
  ·
   have i1:=ih (r / 2) (p / 2) (q / 2) (by omega) hp2 hq2 (by omega)
   have e3:(p - 1) / 2=p / 2 - 1:=by omega
   rw[e3] at hd
   have e4:(p - 1) % 2=1:=by omega
   rw[e4,Nat.one_mul] at hm
   have hqr:q % 2≤r % 2:=by
    rcases zF q with h2|h2
    ·omega
    ·rw[h2,Nat.one_mul] at hqm; omega
   omega
  ·have e3:(p - 1) / 2=p / 2:=by omega
   rw[e3,hp2] at hd
   omega
theorem E2p{p r:U}(h:0<p):(p - 1) &&& r<p:=by
 have:= @Nat.and_le_left (p - 1) r
 omega
theorem E0x(p r:U):(p &&& r) &&& r=p &&& r:=by rw[Nat.and_assoc,Nat.and_self]
def Cov(B:U→U→Q)(S m:U):Prop:=∃f:U→U,(∀i,S.testBit i=F→f i<m)∧∀i j,S.testBit i=F→S.testBit j=F→i≠j→f i=f j→B i j=F
def Clq(B:U→U→Q)(S:U):Prop:=∀i j,S.testBit i=F→S.testBit j=F→i≠j→B i j=F
def B0r(B:U→U→Q)(S n:U):Prop:=Cov B S n∧∀m,Cov B S m→n≤m
theorem D2e{B:U→U→Q}{S n:U}(h:S<2 ^ n):Cov B S n:=⟨id,fun i hi=>B0p h hi,fun i j _ _ hne e=>absurd e hne⟩
theorem C96{B:U→U→Q}:B0r B 0 0:=⟨⟨id,fun i hi=>by simp at hi,fun i j hi=>by simp at hi⟩,fun m _=>Nat.zero_le m⟩
theorem D6y{B:U→U→Q}{S t rest q n:U}(hS:∀i,S.testBit i=F→i=t∨rest.testBit i=F)(hq:Clq B (q ||| 2 ^ t))(h:Cov B (K6 rest q) n):Cov B S (1+n):=by
 obtain⟨f,f1,f2⟩:=h
 have key:∀i,S.testBit i=F→(i=t∨q.testBit i=F)∨(K6 rest q).testBit i=F:=fun i hi=>by
  rcases hS i hi with h|h
  ·exact .inl (.inl h)
  ·cases hb:q.testBit i with
   | true=>exact .inl (.inr rfl)
   | false=>right; rw[A47,h,hb]; rfl
 have hin:∀i,(i=t∨q.testBit i=F)→(q ||| 2 ^ t).testBit i=F:=fun i hi=>by
  rw[zM,A9i]
  rcases hi with h|h
  ·simp[h]
  ·simp[h]
 refine⟨fun i=>if i=t∨q.testBit i=F then n else f i,fun i hi=> ?_,fun i j hi hj hne e=> ?_⟩
 ·by_cases hx:i=t∨q.testBit i=F
  ·simp only[hx,if_true]; omega
  ·simp only[hx,if_false]
   rcases key i hi with h|h
   ·exact absurd h hx
   ·have:=f1 i h; omega
 ·by_cases hx:i=t∨q.testBit i=F
  ·by_cases hy:j=t∨q.testBit j=F
   ·exact hq i j (hin i hx) (hin j hy) hne
   ·simp only[hx,hy,if_true,if_false] at e
    have:=f1 j ((key j hj).resolve_left hy)
    omega
  ·by_cases hy:j=t∨q.testBit j=F
   ·simp only[hx,hy,if_true,if_false] at e
    have:=f1 i ((key i hi).resolve_left hx)
    omega
   ·simp only[hx,hy,if_false] at e
    exact f2 i j ((key i hi).resolve_left hx) ((key j hj).resolve_left hy) hne e
theorem D3k{B:U→U→Q}{S t rest m:U}(hS:S.testBit t=F)(hr:∀i,rest.testBit i=F→S.testBit i=F)(h:Cov B S m):∃q n,q &&& rest=q∧Clq B (q ||| 2 ^ t)∧n+1=m∧Cov B (K6 rest q) n:=by
 obtain⟨f,f1,f2⟩:=h
 obtain⟨q,hq⟩:=C6y (fun i=>rest.testBit i&&decide (f i=f t)) rest
 have hq2:∀i,q.testBit i=F↔rest.testBit i=F∧f i=f t:=fun i=>by
  rw[hq i]
  constructor
  ·intro h
   simp only[Y,decide_eq_true_eq] at h
   exact h.2
  ·intro⟨h1,h2⟩
   simp only[Y,decide_eq_true_eq]
   exact⟨E1p h1,h1,h2⟩
 have hm:=f1 t hS
 refine⟨q,m - 1,C4b fun i hi=>((hq2 i).1 hi).1,fun i j hi hj hne=> ?_,by omega,fun i=>if f i=m - 1 then f t else f i,fun i hi=> ?_,fun i j hi hj hne e=> ?_⟩
 ·have side:∀i,(q ||| 2 ^ t).testBit i=F→S.testBit i=F∧f i=f t:=fun i hi=>by
   rw[zM,A9i,yI,decide_eq_true_eq] at hi
   rcases hi with h|h
   ·exact⟨hr i ((hq2 i).1 h).1,((hq2 i).1 h).2⟩
   ·subst h; exact⟨hS,rfl⟩
  obtain⟨i1,i2⟩:=side i hi
  obtain⟨j1,j2⟩:=side j hj
  exact f2 i j i1 j1 hne (i2.trans j2.symm)
 ·rw[A47,Y] at hi
  have hne:f i≠f t:=fun e=>by
   have:=(hq2 i).2 ⟨hi.1,e⟩
   rw[this] at hi
   simp at hi
  have:=f1 i (hr i hi.1)
  show(if f i=m - 1 then f t else f i)<m - 1
  split<;>omega
 ·rw[A47,Y] at hi hj
  have hni:f i≠f t:=fun e=>by
   have:=(hq2 i).2 ⟨hi.1,e⟩
   rw[this] at hi
   simp at hi
  have hnj:f j≠f t:=fun e=>by
   have:=(hq2 j).2 ⟨hj.1,e⟩
   rw[this] at hj
   simp at hj
  have e2:f i=f j:=by
   have e:(if f i=m - 1 then f t else f i)=(if f j=m - 1 then f t else f j):=e
   split at e<;>split at e<;>omega
  exact f2 i j (hr i hi.1) (hr j hj.1) hne e2
def i64(n:P):Prop:= -9223372036854775808≤n∧n≤9223372036854775807
theorem U5(n lo hi:P):E0 n lo hi=G (decide (lo≤n)&&decide (n≤hi)):=by
 unfold E0
 by_cases h:lo≤n<;>simp[h]
theorem B9x{n bytes:U}(h:n≤1048576)(hb:bytes≤1000):mkS (n:P) (n:P) bytes=G n:=by
 unfold mkS
 have:(n:P)*(bytes:P)≤140737488355328:=by
  have:n*bytes≤1048576*1000:=yC h hb
  have e:((n*bytes:U):P)=(n:P)*(bytes:P):=by simp
  omega
 rw[if_pos ⟨by omega,by omega,this,by omega⟩]
 simp
theorem A10(n:P):I0 n=G (decide (0≤n)&&decide (n≤2880)):=by simp[I0,U5]
theorem C01{len:U}(p:U→Q)(K:O Q):∀(k i:U),(zK i k).foldr (fun i r=>if p i=F then r else G E) K=if(zK i k).all p=F then K else G E
 | 0,i=>by simp
 | k+1,i=>by
  rw[yG,yA,C01 (len:=len) p K k (i+1),List.all_cons]
  cases p i<;>rfl
theorem B94{len:U}(p:U→Q)(K:O Q):∀(k i:U),(zK i k).foldr (fun i r=>if p i=F then G E else r) K=if(zK i k).any p=F then G E else K
 | 0,i=>by simp
 | k+1,i=>by
  rw[yG,yA,B94 (len:=len) p K k (i+1),List.any_cons]
  cases p i<;>rfl
theorem B0u{L:U→P→O Q}(len:U)(p:U→Q)(K:O Q)(hl:len≤maxLen)
  (hs:∀(n i:U),i<len→L (n+1) (i:P)=if p i=F then L n (yM .i64 ((i:P)+1)) else G E) (he:∀n,L (n+1) (len:P)=K):L bigN 0=if(I len).all p=F then K else G E:=by
 have:=A68 L len hl (fun i r=>if p i=F then r else G E) K hs he len 0 bigN (by omega) (E5 hl)
 rw[C01 (len:=len),← List.range_eq_range'] at this
 exact this
theorem D16{L:U→P→O Q}(len:U)(p:U→Q)(K:O Q)(hl:len≤maxLen)
  (hs:∀(n i:U),i<len→L (n+1) (i:P)=if p i=F then G E else L n (yM .i64 ((i:P)+1))) (he:∀n,L (n+1) (len:P)=K):L bigN 0=if(I len).any p=F then G E else K:=by
 have:=A68 L len hl (fun i r=>if p i=F then G E else r) K hs he len 0 bigN (by omega) (E5 hl)
 rw[B94 (len:=len),← List.range_eq_range'] at this
 exact this
def C9z(s:H V)(i:U):Q:=match s[i]? with
 | some b=>(decide (97≤(b.toNat:P))&&decide ((b.toNat:P)≤122)) || (!(decide (i=0))&&(decide (48≤(b.toNat:P))&&decide ((b.toNat:P)≤57)))
 | none=>E
def C9a(s:H V):Q:=decide (1≤(s.length:P))&&decide ((s.length:P)≤8)
def A42(s:H V):Q:=C9a s&&(I s.length).all (C9z s)
theorem E0z(c:P)(K:O Q)(z':Q)(z:P)(i:U)(hz:z=(i:P)) :
  (if decide (97≤c)=F then(if decide (c≤122)=F then K else if(z==0)=F then G E else if decide (c<48)=F then G E else if decide (57<c)=F then G E else K)
   else if E=F then K else if(z==0)=F then G E else if decide (c<48)=F then G E else if decide (57<c)=F then G E else K) =
  if((decide (97≤c)&&decide (c≤122)) || (!(decide (i=0))&&(decide (48≤c)&&decide (c≤57))))=F then K else G E:=by
 subst hz
 have e0:(((i:U):P)==0)=decide (i=0):=by rw[zJ]; simp
 have e1:decide (c<48)= !decide (48≤c):=by rw[zJ]; simp
 have e2:decide (57<c)= !decide (c≤57):=by rw[zJ]; simp
 rw[e0,e1,e2]
 cases decide (i=0)<;>cases decide (97≤c)<;>cases decide (c≤122)<;>cases decide (48≤c)<;>cases decide (c≤57)<;>rfl
theorem B1g{s:H V}(h:s.length≤maxLen):A21 s=G (A42 s):=by
 unfold A21
 rw[U5]
 rw[B0u (L:=N7 s) s.length (C9z s) (G F) h (fun n i hi=> ?_) (fun n=>by simp[N7])]
 ·unfold A42 C9a
  simp only[W]
  cases(I s.length).all (C9z s)<;>cases(decide (1≤(s.length:P))&&decide ((s.length:P)≤8))<;>simp
 ·simp only[N7,A3e,A29,Y0,C9z,X hi,W,D3,hi,decide_true,if_true]
  exact E0z _ _ F (i:P) i rfl
theorem B1c{R:Type}(p:U→Q)(f:U→R)(z:R):∀(k i:U),(zK i k).foldr (fun i r=>if p i=F then G (f i) else r) (G z)=G ((zK i k).foldr (fun i r=>if p i=F then f i else r) z)
 | 0,i=>by simp
 | k+1,i=>by
  rw[yG,yA,B1c p f z k (i+1),yA]
  cases p i<;>simp
def D69(xs:H Xb)(s:H V)(i:U):Q:=match xs[i]? with
 | some x=>decide (x.Name=s)
 | none=>E
def B87(xs:H Xb)(s:H V):P:=(zK 0 xs.length).foldr (fun i r=>if D69 xs s i=F then(i:P) else r) (-1)
theorem B3c{c:X7}{s:H V}(h:c.Points.length≤maxLen):A1t c s=G (B87 c.Points s):=by
 unfold A1t
 exact(A68 (Q0 s c) c.Points.length h (fun i r=>if D69 c.Points s i=F then G (i:P) else r) (G (-1)) (fun n i hi=>by simp[Q0,Y0,hi,D69]) (fun n=>by simp[Q0]) c.Points.length 0 bigN (by omega) (E5 h)).trans (B1c _ _ _ _ _)
def jn(y:X2)(a b:P):Q:=(decide (y.A=a)&&decide (y.B=b)) || (decide (y.A=b)&&decide (y.B=a))
theorem C09(y:X2)(a b:P):Z7 y a b=G (jn y a b):=by
 unfold Z7 jn
 by_cases h1:y.A=a<;>by_cases h2:y.B=b<;>by_cases h3:y.A=b<;>by_cases h4:y.B=a<;>simp_all
theorem A5p(i n:P):D2 i n=G (decide (0≤i)&&decide (i<n)):=by
 unfold D2
 by_cases h:0≤i<;>simp[h]
def idx(i:P)(n:U):Q:=decide (0≤i)&&decide (i<(n:P))
def A72(c:X7)(i:U):Q:=match c.Segments[i]? with
 | some x=>idx x.A c.Points.length&&(idx x.B c.Points.length&&(!(decide (x.A=x.B))&&((decide (0≤x.Depth)&&decide (x.Depth≤3000))&&((decide (1≤x.Minutes)&&decide (x.Minutes≤240))&& !((I i).any fun j=>match c.Segments[j]? with | some y=>jn y x.A x.B | none=>E)))))
 | none=>E
def C46(c:X7)(i:U):Q:=match c.Points[i]? with
 | some x=>A42 x.Name&&decide (B87 c.Points x.Name=(i:P))
 | none=>E
def I7(c:X7):Q:=decide (c.Points.length≤8)&&(decide (c.Segments.length≤10)&&((I c.Points.length).all (C46 c)&&(I c.Segments.length).all (A72 c)))
theorem A4k{n i:U}(h:i≤n):bnd (n:P) (i:P) (0:P) n=G (0,i):=by
 unfold bnd
 rw[if_pos ⟨by omega,by omega,by omega,by omega⟩]
 simp
theorem D8s{α:Type}{l:H α}{i j:U}(hj:j<i):(l.take i)[j]?=l[j]?:=by simp[List.getElem?_take,hj]
theorem M2{c:X7}(hn:∀x∈c.Points,x.Name.length≤maxLen):L7 c=G (I7 c):=by
 unfold L7 I7
 by_cases h1:c.Points.length≤8
 ·have h1':¬(8:P)<c.Points.length:=by omega
  by_cases h2:c.Segments.length≤10
  ·have h2':¬(10:P)<c.Segments.length:=by omega
   have hp:c.Points.length≤maxLen:=by rw[E6]; omega
   have hs:c.Segments.length≤maxLen:=by rw[E6]; omega
   have inner:K5 c bigN 0=G ((I c.Segments.length).all (A72 c)):=by
    rw[B0u (L:=K5 c) c.Segments.length (A72 c) (G F) hs (fun n i hi=> ?_) (fun n=>by simp[K5])]
    ·cases(I c.Segments.length).all (A72 c)<;>rfl
    ·simp only[K5,Y0,X hi,W,D3,hi,decide_true,if_true,U5,A5p,show ∀(a:P) (n:U),(decide (0≤a)&&decide (a<(n:P)))=idx a n from fun _ _=>rfl,A4k (Nat.le_of_lt hi),A72,List.drop_zero,Nat.sub_zero]
     have hl:(c.Segments.take i).length=i:=by simp; omega
     rw[hl]
     rw[D16 (L:=V7 c i c.Segments[i] (c.Segments.take i) (i:P) (K5 c n)) i (fun j=>match c.Segments[j]? with | some y=>jn y c.Segments[i].A c.Segments[i].B | none=>E)
      (K5 c n (yM .i64 ((i:P)+1))) (by omega) (fun m j hj=>by
       have hj2:j<c.Segments.length:=by omega
       simp only[V7,Y0,D8s hj,X hj2,W,D3,hj,decide_true,if_true,C09]) (fun m=>by simp[V7])]
     have e:(c.Segments[i].A==c.Segments[i].B)=decide (c.Segments[i].A=c.Segments[i].B):=rfl
     rw[e]
     cases idx c.Segments[i].A c.Points.length<;>cases idx c.Segments[i].B c.Points.length<;>cases decide (c.Segments[i].A=c.Segments[i].B)<;>cases(decide (0≤c.Segments[i].Depth)&&decide (c.Segments[i].Depth≤3000)) <;>
      cases(decide (1≤c.Segments[i].Minutes)&&decide (c.Segments[i].Minutes≤240))<;>cases((I i).any fun j=>match c.Segments[j]? with | some y=>jn y c.Segments[i].A c.Segments[i].B | none=>E)<;>rfl
   rw[B0u (L:=V6 c) c.Points.length (C46 c) _ hp (fun n i hi=> ?_) (fun n=>by simp only[V6,Int.lt_irrefl,decide_false,zA,if_false]; exact inner)]
   ·simp only[h1,h2,h1',h2',decide_true,decide_false,zS,zA,if_false]
    cases(I c.Points.length).all (C46 c)<;>rfl
   ·simp only[V6,Y0,X hi,W,D3,hi,decide_true,if_true,B1g (hn _ (zB hi)),B3c hp,C46]
    by_cases e:B87 c.Points c.Points[i].Name=(i:P)<;>cases A42 c.Points[i].Name<;>simp[e]
  ·have h2':(10:P)<c.Segments.length:=by omega
   simp[h1,h1',h2,h2']
 ·have h1':(8:P)<c.Points.length:=by omega
  simp[h1,h1']
theorem C3q{s:H V}(h:A42 s=F):1≤s.length∧s.length≤8:=by
 simp only[A42,C9a,Y,decide_eq_true_eq] at h
 omega
def A0o(s:Xa):Q:=A42 s.Name&&((decide (10≤s.Length)&&decide (s.Length≤400))&&((decide (100≤s.Draught)&&decide (s.Draught≤2000))&&((decide (0≤s.Line)&&decide (s.Line≤3))&&(decide (0≤s.Tugs)&&decide (s.Tugs≤4)))))
theorem E39(a b:Q):(if a=F then G b else G E)=G (a&&b):=by cases a<;>rfl
theorem A13{s:Xa}(h:s.Name.length≤maxLen):S9 s=G (A0o s):=by
 have e:(decide (0≤s.Line)&&decide (s.Line<4))=(decide (0≤s.Line)&&decide (s.Line≤3)):=by
  congr 1
  rw[zJ]; simp; omega
 simp only[S9,B1g h,U5,A5p,W,E39,A0o,e]
theorem D0q{s:Xa}(h:A0o s=F):A42 s.Name=F∧i64 s.Length∧i64 s.Draught∧i64 s.Line∧i64 s.Tugs:=by
 simp only[A0o,Y,decide_eq_true_eq] at h
 unfold i64
 exact⟨h.1,by omega,by omega,by omega,by omega⟩
def B2e(xs:H Xa)(s:H V)(i:U):Q:=match xs[i]? with
 | some x=>decide (x.Name=s)
 | none=>E
def A45(xs:H Xa)(s:H V):P:=(zK 0 xs.length).foldr (fun i r=>if B2e xs s i=F then(i:P) else r) (-1)
theorem B5p{xs:H Xa}{s:H V}(h:xs.length≤maxLen):A2p xs s=G (A45 xs s):=by
 unfold A2p
 exact(A68 (S6 s xs) xs.length h (fun i r=>if B2e xs s i=F then G (i:P) else r) (G (-1)) (fun n i hi=>by simp[S6,Y0,hi,B2e]) (fun n=>by simp[S6]) xs.length 0 bigN (by omega) (E5 h)).trans (B1c _ _ _ _ _)
def C4t(xs:H Xa)(i:U):Q:=match xs[i]? with
 | some x=>A0o x&&decide (A45 xs x.Name=(i:P))
 | none=>E
def A5o(xs:H Xa):Q:=decide (xs.length≤6)&&(I xs.length).all (C4t xs)
theorem C6s(a b:P):(a !=b)= !decide (a=b):=rfl
theorem B0o{xs:H Xa}(hn:∀x∈xs,x.Name.length≤maxLen):A12 xs=G (A5o xs):=by
 unfold A12 A5o
 by_cases h:xs.length≤6
 ·have h':¬(6:P)<xs.length:=by omega
  have hm:xs.length≤maxLen:=by rw[E6]; omega
  simp only[h,h',decide_true,decide_false,zA,if_false,zS]
  refine D1p (L:=V8 xs) xs.length (C4t xs) hm (fun n i hi=> ?_) (fun n=>by simp[V8])
  simp only[V8,D3,hi,decide_true,if_true,F1 hi,W,A13 (hn _ (zB hi)),B5p hm,C4t,X hi,C6s]
  cases A0o xs[i]<;>by_cases e:A45 xs xs[i].Name=(i:P)<;>simp[e]
 ·have h':(6:P)<xs.length:=by omega
  simp[h,h']
theorem A7y{xs:H Xa}(h:A5o xs=F):xs.length≤6∧∀x∈xs,A0o x=F:=by
 simp only[A5o,Y,decide_eq_true_eq,zQ,zX] at h
 refine⟨h.1,fun x hx=> ?_⟩
 obtain⟨i,hi,rfl⟩:=List.getElem_of_mem hx
 have:=h.2 i hi
 simp only[C4t,X hi,Y] at this
 exact this.1
def O7(x:X2)(s:Xa):P:=if s.Slow=F then yM .i64 (2*x.Minutes) else x.Minutes
def spl(c:V):H V→H V→H (H V)
 | cur,[]=> [cur]
 | cur,b::r=>if b=c then cur::spl c [] r else spl c (cur++ [b]) r
def split(c:V)(s:H V):H (H V):=spl c [] s
theorem A23(x:X2)(s:Xa):K9 s x=G (O7 x s):=by unfold K9 O7; split<;>rfl
def Q6(c:X7)(i:P):X2:=c.Segments[i.toNat]?.getD ⟨0,0,0,0,E⟩
def A09(l:H Xa)(i:P):Xa:=l[i.toNat]?.getD ⟨[],0,0,0,0,E⟩
theorem C4c{α:Type}{l:H α}{i:P}(d:α)(h:idx i l.length=F):ix l i=G (l[i.toNat]?.getD d)∧l[i.toNat]?.getD d∈l:=by
 simp only[idx,Y,decide_eq_true_eq] at h
 obtain⟨k,rfl⟩:∃k:U,i=(k:P):=⟨i.toNat,by omega⟩
 have hk:k<l.length:=by omega
 have e:l[((k:U):P).toNat]?.getD d=l[k]:=by simp[hk]
 rw[F1 hk,e]
 exact⟨rfl,zB hk⟩
theorem A2b{c:X7}{i:P}(h:idx i c.Segments.length=F):ix c.Segments i=G (Q6 c i)∧Q6 c i∈c.Segments:=C4c _ h
theorem A7u{l:H Xa}{i:P}(h:idx i l.length=F):ix l i=G (A09 l i)∧A09 l i∈l:=C4c _ h
theorem A1m(i:P)(n:U):D2 i (n:P)=G (idx i n):=A5p i n
def B0l(p:P):Q:=(decide (4≤p)&&decide (p≤2880))&&(yM .i64 (yL p 4)==0)
def A6c(x:Xi):Q:=(decide (0≤x.Amp)&&decide (x.Amp≤1000))&&(B0l x.Period&&(decide (0≤x.Phase)&&decide (x.Phase≤yM .i64 (x.Period - 1))))
def A8c(t:Xl):Q:=(decide (-1000≤t.Mean)&&decide (t.Mean≤1000))&&(decide (t.Parts.length≤4)&&t.Parts.all A6c)
theorem B5v(p:P):A1i p=G (B0l p):=by
 simp only[A1i,U5,W,B0l]
 cases(decide (4≤p)&&decide (p≤2880))<;>rfl
theorem B9q(x:Xi):A4v x=G (A6c x):=by
 simp only[A4v,U5,B5v,W,A6c]
 cases(decide (0≤x.Amp)&&decide (x.Amp≤1000))<;>cases B0l x.Period<;>rfl
theorem B9u(t:Xl):A4x t=G (A8c t):=by
 simp only[A4x,U5,W,A8c]
 cases(decide (-1000≤t.Mean)&&decide (t.Mean≤1000)) with
 | false=>rfl
 | true=>
  by_cases h1:t.Parts.length≤4
  ·have h1':¬(4:P)<t.Parts.length:=by omega
   rw[B2k (L:=Y9 t) t.Parts A6c (by rw[E6]; omega) (fun n i hi=>by simp only[Y9,Y0,X hi,W,D3,hi,decide_true,if_true,B9q]) (fun n=>by simp[Y9])]
   simp[h1,h1']
  ·have h1':(4:P)<t.Parts.length:=by omega
   simp[h1,h1']
def B4s(x p:P):P:=if x<yM .i64 (Z p 2) then
  yM .i64 (Z (yM .i64 (yM .i64 (40000*x)*yM .i64 (yM .i64 (Z p 2) - x))) (yM .i64 (yM .i64 (Z p 2)*yM .i64 (Z p 2))))
 else yM .i64 (0 - yM .i64 (Z (yM .i64 (yM .i64 (40000*yM .i64 (x - yM .i64 (Z p 2)))*yM .i64 (yM .i64 (Z p 2) - yM .i64 (x - yM .i64 (Z p 2))))) (yM .i64 (yM .i64 (Z p 2)*yM .i64 (Z p 2)))))
theorem C0l{p:P}(h:B0l p=F):4≤p∧p≤2880∧yM .i64 (yL p 4)=0:=by
 simp only[B0l,Y,decide_eq_true_eq,beq_iff_eq] at h
 exact⟨h.1.1,h.1.2,h.2⟩
theorem C8m{p:P}(h1:4≤p)(h2:p≤2880):(yM .i64 (yM .i64 (Z p 2)*yM .i64 (Z p 2))==0)=E:=by
 have e:Z p 2=p / 2:=C (by omega)
 rw[e,A9 (n:=p / 2) (by omega) (by omega)]
 generalize hq:p / 2=q
 have q1:2≤q:=by omega
 have q2:q≤1440:=by omega
 have m1:2*2≤q*q:=yK q1 q1 (by omega) (by omega)
 have m2:q*q≤1440*1440:=yK q2 q2 (by omega) (by omega)
 rw[A9 (by omega) (by omega)]
 simp only[beq_eq_false_iff_ne,ne_eq]
 omega
theorem C5b{n p:P}(hp:B0l p=F)(hn:0≤n)(hn2:n≤100000):A6b n p=G (B4s (yL n p) p):=by
 obtain⟨p1,p2,p3⟩:=C0l hp
 have hm:yL n p=n % p:=zC hn
 have r1:=yJ n (show p≠0 by omega)
 have r2:=yD n (show 0<p by omega)
 have k3:(p==0)=E:=by simp; omega
 have hmm:yL (n % p+p) p=n % p:=by
  rw[zC (by omega),Int.add_emod_right,Int.emod_emod]
 unfold A6b
 rw[B5v,hp,W,hm,A9 (n:=n % p) (by omega) (by omega),A9 (n:=n % p+p) (by omega) (by omega),hmm,A9 (n:=n % p) (by omega) (by omega),C8m p1 p2]
 simp only[k3,zA,if_false,if_true,decide_eq_true_eq]
 unfold B4s
 by_cases hx:n % p<yM .i64 (Z p 2)
 ·rw[if_pos hx,if_neg (by omega)]
 ·rw[if_neg hx,if_pos (by omega)]
def A5t(x:Xf):Q:=(decide (0≤x.From)&&decide (x.From≤2880))&&((decide (-500≤x.Low)&&decide (x.Low≤500))&&(decide (x.Low≤x.High)&&decide (x.High≤500)))
theorem B7q(x:Xf):A4f x=G (A5t x):=by
 simp only[A4f,A10,W,A5t]
 cases(decide (0≤x.From)&&decide (x.From≤2880))
 ·rfl
 ·by_cases a1: -500≤x.Low<;>by_cases a2:x.Low≤x.High<;>by_cases a3:x.High≤500<;>by_cases a4:x.Low≤500<;>simp[a1,a2,a3,a4]
  omega
def B4u(l:H Xf)(i:U):Q:=match l[i]? with
 | some x=>A5t x&&(match i with | 0=>F | j+1=>match l[j]? with | some y=> !(decide (x.From≤y.From)) | none=>E)
 | none=>E
def B6k(l:H Xf):Q:=match l[0]? with
 | some x=>decide (x.From=0)
 | none=>E
def A7i(f:Xe):Q:=A8c f.Tide&&((decide (1≤(f.Surges.length:P))&&decide ((f.Surges.length:P)≤6))&&(B6k f.Surges&&(I f.Surges.length).all (B4u f.Surges)))
theorem D3f(j:U)(h:j≤1000):yM .i64 (((j+1:U):P) - 1)=(j:P):=by
 rw[A9 (by omega) (by omega)]
 omega
theorem A5k(f:Xe):P5 f=G (A7i f):=by
 simp only[P5,B9u,U5,W,A7i]
 cases A8c f.Tide with
 | false=>rfl
 | true=>
  cases hb:(decide (1≤(f.Surges.length:P))&&decide ((f.Surges.length:P)≤6)) with
  | false=>rfl
  | true=>
   simp only[Y,decide_eq_true_eq] at hb
   have h0:0<f.Surges.length:=by omega
   have hl:f.Surges.length≤maxLen:=by rw[E6]; omega
   rw[B0u (L:=M7 f) f.Surges.length (B4u f.Surges) (G F) hl (fun n i hi=> ?_) (fun n=>by simp[M7])]
   ·have e0:ix f.Surges 0=G f.Surges[0]:=F1 h0
    simp only[e0,W,B6k,X h0,zS,if_true]
    by_cases e:f.Surges[0].From=0<;>cases(I f.Surges.length).all (B4u f.Surges)<;>simp[e]
   ·simp only[M7,Y0,X hi,W,D3,hi,decide_true,if_true,B7q,B4u]
    cases i with
    | zero=>cases A5t f.Surges[0]<;>simp
    | succ j=>
     have hj:j<f.Surges.length:=by omega
     rw[D3f j (by omega)]
     simp only[Y0,X hj,W]
     have hp:(0:P)<((j+1:U):P):=by omega
     cases A5t f.Surges[j+1]<;>cases decide (f.Surges[j+1].From≤f.Surges[j].From)<;>simp
theorem D5x{f:Xe}(h:A7i f=F):A8c f.Tide=F∧0<f.Surges.length∧f.Surges.length≤6:=by
 simp only[A7i,Y,decide_eq_true_eq] at h
 refine⟨h.1,?_,?_⟩<;>omega
def A5d(m:P):Q:=decide (0≤m)&&decide (m≤2880)
theorem C8l{a b:P}(hb:1≤b){B:P}(h1: -B≤a)(h2:a≤B): -B≤Z a b∧Z a b≤B:=by
 have hB:0≤B:=by omega
 by_cases ha:0≤a
 ·rw[C ha]
  have:=zU ha (show 0≤b by omega)
  have:=Int.ediv_le_self b ha
  omega
 ·obtain⟨c,rfl⟩:∃c,a= -c:=⟨-a,by omega⟩
  rw[Int.neg_tdiv,C (by omega)]
  have:=zU (show 0≤c by omega) (show 0≤b by omega)
  have:=Int.ediv_le_self b (show 0≤c by omega)
  omega
theorem B0w{a b A B:P}(a1: -A≤a)(a2:a≤A)(b1: -B≤b)(b2:b≤B): -(A*B)≤a*b∧a*b≤A*B:=by
 have hA:0≤A:=by omega
 have hB:0≤B:=by omega
 have h:(a*b).natAbs≤(A*B).natAbs:=by
  rw[Int.natAbs_mul,Int.natAbs_mul]
  exact yC (by omega) (by omega)
 have hp:0≤A*B:=Int.mul_nonneg hA hB
 omega
theorem C9m{x p:P}(h0:0≤x)(hx:x<p)(p1:4≤p)(p2:p≤2880): -200000000000≤B4s x p∧B4s x p≤200000000000:=by
 have e:Z p 2=p / 2:=C (by omega)
 unfold B4s
 rw[e,A9 (n:=p / 2) (by omega) (by omega)]
 generalize hq:p / 2=q
 have q1:2≤q:=by omega
 have q2:q≤1440:=by omega
 have qq:=B0w (a:=q) (b:=q) (A:=1440) (B:=1440) (by omega) (by omega) (by omega) (by omega)
 have q4:2*2≤q*q:=yK q1 q1 (by omega) (by omega)
 rw[A9 (n:=q*q) (by omega) (by omega)]
 have key:∀y:P,-3000≤y→y≤3000→ -200000000000≤Z (yM .i64 (yM .i64 (40000*y)*yM .i64 (q - y))) (q*q)∧Z (yM .i64 (yM .i64 (40000*y)*yM .i64 (q - y))) (q*q)≤200000000000*5:=by
  intro y y1 y2
  rw[A9 (n:=40000*y) (by omega) (by omega),A9 (n:=q - y) (by omega) (by omega)]
  have m:=B0w (a:=40000*y) (b:=q - y) (A:=120000000) (B:=5000) (by omega) (by omega) (by omega) (by omega)
  rw[A9 (by omega) (by omega)]
  have t:=C8l (b:=q*q) (show 1≤q*q by omega) (B:=600000000000) (a:=40000*y*(q - y)) (by omega) (by omega)
  have t4:∀a:P,-600000000000≤a→a≤600000000000→ -150000000000≤Z a (q*q)∧Z a (q*q)≤150000000000:=by
   intro a a1 a2
   have hd:∀c:P,0≤c→c≤600000000000→0≤c / (q*q)∧c / (q*q)≤150000000000:=by
    intro c c1 c2
    refine⟨zU c1 (by omega),?_⟩
    have h3:=Int.mul_ediv_self_le (x:=c) (k:=q*q) (by omega)
    have h4:0≤c / (q*q):=zU c1 (by omega)
    have h5:4*(c / (q*q))≤q*q*(c / (q*q)):=yB (by omega) h4
    omega
   by_cases ha:0≤a
   ·rw[C ha]
    have:=hd a ha a2
    omega
   ·obtain⟨c,rfl⟩:∃c,a= -c:=⟨-a,by omega⟩
    rw[Int.neg_tdiv,C (by omega)]
    have:=hd c (by omega) (by omega)
    omega
  have:=t4 (40000*y*(q - y)) (by omega) (by omega)
  omega
 have key2:∀y:P,-3000≤y→y≤3000→ -150000000000≤Z (yM .i64 (yM .i64 (40000*y)*yM .i64 (q - y))) (q*q)∧Z (yM .i64 (yM .i64 (40000*y)*yM .i64 (q - y))) (q*q)≤150000000000:=by
  intro y y1 y2
  rw[A9 (n:=40000*y) (by omega) (by omega),A9 (n:=q - y) (by omega) (by omega)]
  have m:=B0w (a:=40000*y) (b:=q - y) (A:=120000000) (B:=5000) (by omega) (by omega) (by omega) (by omega)
  rw[A9 (by omega) (by omega)]
  have hd:∀c:P,0≤c→c≤600000000000→0≤c / (q*q)∧c / (q*q)≤150000000000:=by
   intro c c1 c2
   have h4:0≤c / (q*q):=zU c1 (by omega)
   refine⟨h4,?_⟩
   have h3:=Int.mul_ediv_self_le (x:=c) (k:=q*q) (by omega)
   have h5:4*(c / (q*q))≤q*q*(c / (q*q)):=yB (by omega) h4
   omega
  generalize hz:40000*y*(q - y)=z at m
  by_cases ha:0≤z
  ·rw[C ha]
   have:=hd z ha (by omega)
   omega
  ·obtain⟨c,rfl⟩:∃c,z= -c:=⟨-z,by omega⟩
   rw[Int.neg_tdiv,C (by omega)]
   have:=hd c (by omega) (by omega)
   omega
 split
 ·have:=key2 x (by omega) (by omega)
  rw[A9 (by omega) (by omega)]
  omega
 ·rw[A9 (n:=x - q) (by omega) (by omega)]
  have:=key2 (x - q) (by omega) (by omega)
  rw[A9 (n:=Z _ _) (by omega) (by omega),A9 (by omega) (by omega)]
  omega
theorem C5t{f:Xe}(hf:A7i f=F)(a:U)(ha:a<f.Surges.length): -500≤f.Surges[a].Low∧f.Surges[a].Low≤500∧f.Surges[a].Low≤f.Surges[a].High∧f.Surges[a].High≤500:=by
 simp only[A7i,Y,zQ,zX] at hf
 have:=hf.2.2.2 a ha
 simp only[B4u,X ha,Y,A5t,decide_eq_true_eq] at this
 omega
def B3w(w:Xo):Q:=(decide (0≤w.Tugs)&&decide (w.Tugs≤12))&&((decide (0≤w.Pilots)&&decide (w.Pilots≤12))&&(A5d w.Rest&&(decide (w.Moves.length=64)&&w.Moves.all fun x=>decide (0≤x)&&decide (x≤240))))
theorem C7d(a b:Q):(if a=F then G b else G E)=G (a&&b):=by cases a<;>rfl
theorem B7u{l:H P}(h:l.length≤maxLen):R9 l bigN 0=G (l.all fun x=>decide (0≤x)&&decide (x≤240)):=
 B2k (L:=R9 l) l _ h (fun n i hi=>by simp[R9,Y0,hi,U5]) (fun n=>by simp[R9])
theorem B88{w:Xo}(h:w.Moves.length≤maxLen):A4y w=G (B3w w):=by
 simp only[A4y,W4,U5,A10,W,B7u h,B3w,A5d]
 by_cases e:w.Moves.length=64
 ·have e':((w.Moves.length:P) !=64)=E:=by simp; omega
  simp only[e,e',zA,if_false,decide_true,zS,W]
  cases(decide (0≤w.Tugs)&&decide (w.Tugs≤12))<;>cases(decide (0≤w.Pilots)&&decide (w.Pilots≤12))<;>cases(decide (0≤w.Rest)&&decide (w.Rest≤2880))<;>rfl
 ·have e':((w.Moves.length:P) !=64)=F:=by simp; omega
  simp only[e,e',if_true,decide_false,Bool.false_and,Bool.and_false,W]
  cases(decide (0≤w.Tugs)&&decide (w.Tugs≤12))<;>cases(decide (0≤w.Pilots)&&decide (w.Pilots≤12))<;>cases(decide (0≤w.Rest)&&decide (w.Rest≤2880))<;>rfl
def C91(r:Xk):Q:=decide (0≤r.Gap)&&decide (r.Gap≤60)
def N1(h:X4):Q:=A7i h.Forecast&&(I7 h.Chart&&(A5o h.Fleet&&(C91 h.Regime&&B3w h.Crew)))
structure HSmall (h:X4):Prop where
 pn:∀x∈h.Chart.Points,x.Name.length≤maxLen
 fn:∀x∈h.Fleet,x.Name.length≤maxLen
 mv:h.Crew.Moves.length≤maxLen
theorem A8t{h:X4}(s:HSmall h):A0w h=G (N1 h):=by
 simp only[A0w,A5e,A5k,M2 s.pn,B0o s.fn,B88 s.mv,U5,W,C7d,N1,C91]
theorem B3u{c:X7}(h:I7 c=F):c.Points.length≤8∧c.Segments.length≤10∧∀x∈c.Segments,0≤x.Depth∧x.Depth≤3000∧1≤x.Minutes∧x.Minutes≤240:=by
 simp only[I7,Y,decide_eq_true_eq,zQ,zX] at h
 obtain⟨h1,h2,h3,h4⟩:=h
 refine⟨h1,h2,fun x hx=> ?_⟩
 obtain⟨i,hi,rfl⟩:=List.getElem_of_mem hx
 have:=h4 i hi
 simp only[A72,X hi,Y,decide_eq_true_eq] at this
 omega
def A61(c:X7)(fl:H Xa)(p:X5):Q:=idx p.Ship fl.length&&(idx p.Segment c.Segments.length&&(A5d p.Start&&(decide (p.End≤2880)&&decide (p.End=yM .i64 (p.Start+O7 (Q6 c p.Segment) (A09 fl p.Ship))))))
theorem B5i{c:X7}{fl:H Xa}{p:X5}:A2j c fl p=G (A61 c fl p):=by
 unfold A2j
 simp only[A1m,W,A10,A61,A5d]
 cases h3:idx p.Ship fl.length with
 | false=>simp
 | true=>
  cases h4:idx p.Segment c.Segments.length with
  | false=>simp
  | true=>
   cases h5:decide (0≤p.Start)&&decide (p.Start≤2880) with
   | false=>simp
   | true=>
    simp only[if_true,zS,(A7u h3).1,(A2b h4).1,W,A23]
    have e0:decide (2880<p.End)= !decide (p.End≤2880):=by rw[zJ]; simp
    rw[e0]
    cases decide (p.End≤2880)<;>simp
    rfl
theorem A90{c:X7}{fl:H Xa}{p:X5}(hc:I7 c=F)(h:A61 c fl p=F):idx p.Ship fl.length=F∧idx p.Segment c.Segments.length=F∧0≤p.Start∧p.Start≤p.End∧p.End≤2880:=by
 simp only[A61,A5d,Y,decide_eq_true_eq] at h
 obtain⟨h3,h4,h5,h6,h7⟩:=h
 refine⟨h3,h4,h5.1,?_,h6⟩
 obtain⟨_,_,a,b⟩:=(B3u hc).2.2 _ (A2b h4).2
 rw[h7]
 unfold O7
 split
 ·rw[A9 (n:=2*_) (by omega) (by omega),A9 (by omega) (by omega)]; omega
 ·rw[A9 (by omega) (by omega)]; omega
def D8f(s:Xa):P:=if s.Slow=F then yM .i64 (Z s.Draught 50) else yM .i64 (Z s.Draught 20)
def C19(c:X7)(i:P)(s:Xa):P:=yM .i64 (yM .i64 (yM .i64 (s.Draught+D8f s)+50) - (Q6 c i).Depth)
theorem B6d{c:X7}{s:Xa}{i:P}(hn:∀x∈c.Points,x.Name.length≤maxLen)(hs:s.Name.length≤maxLen)(h1:I7 c=F)(h2:A0o s=F)(h3:idx i c.Segments.length=F):A3j c i s=G (C19 c i s):=by
 unfold A3j A0x A4n A3z
 simp only[M2 hn,A13 hs,h1,h2,W,if_true,A1m,h3,(A2b h3).1,C19,D8f]
 cases s.Slow<;>rfl
structure CurOk (c:X1):Prop where
 i0:0≤c.i
 i1:c.i≤(c.b.length:P)
 len:c.b.length≤maxLen
theorem B73(x:P):0≤J4 .and .i64 x 255∧J4 .and .i64 x 255≤255:=by
 have h:(BitVec.ofInt IntKind.i64.bits x &&& BitVec.ofInt IntKind.i64.bits 255).toNat≤255:=by
  rw[BitVec.toNat_and]
  exact Nat.le_trans Nat.and_le_right (by decide)
 have e:J4 .and .i64 x 255=((BitVec.ofInt IntKind.i64.bits x &&& BitVec.ofInt IntKind.i64.bits 255).toNat:P):=by
  unfold J4
  exact A9 (by omega) (by omega)
 rw[e]
 omega
theorem B1v{c:X1}(h:CurOk c):∃v c',T0 c=G (v,c')∧CurOk c'∧0≤v∧v≤255:=by
 unfold T0
 have hl:=h.len
 rw[E6] at hl
 by_cases hlt:c.i<(c.b.length:P)
 ·obtain⟨i,hi⟩:∃i:U,c.i=(i:P):=⟨c.i.toNat,by have:=h.i0; omega⟩
  have h2:i<c.b.length:=by omega
  simp only[hlt,decide_true,if_true]
  rw[hi,F1 h2]
  simp only[W]
  refine⟨_,_,rfl,⟨?_,?_,h.len⟩,(B73 _).1,(B73 _).2⟩
  ·show 0≤yM .i64 ((i:P)+1)
   rw[A9 (by omega) (by omega)]; omega
  ·show yM .i64 ((i:P)+1)≤(c.b.length:P)
   rw[A9 (by omega) (by omega)]; omega
 ·simp only[hlt,decide_false,zA,if_false]
  exact⟨_,_,rfl,⟨h.i0,h.i1,h.len⟩,(B73 _).1,(B73 _).2⟩
theorem F5{c:X1}{n:P}(h:CurOk c)(hn:n≤1000000):∃v c',A4 c n=G (v,c')∧CurOk c'∧0≤v∧(0<n→v<n)∧(n≤0→v=0):=by
 unfold A4
 by_cases h0:n≤0
 ·simp only[h0,decide_true,if_true]
  exact⟨0,c,rfl,h,by omega,fun h=>by omega,fun _=>rfl⟩
 simp only[h0,decide_false,zA,if_false]
 have hne:(n==0)=E:=by simpa using fun e:n=0=>h0 (by omega)
 by_cases h1:n≤256
 ·obtain⟨v,c',e,k1,k2,k3⟩:=B1v h
  simp only[h1,decide_true,if_true,e,W,hne,zA,if_false]
  have hm:=yJ v (b:=n) (by omega)
  have hm2:=yD v (b:=n) (by omega)
  refine⟨_,_,rfl,k1,?_,?_,fun h=>by first | exact h.elim | exact absurd h h0⟩
  ·rw[zC k2,A9 (by omega) (by omega)]; exact hm
  ·intro _; rw[zC k2,A9 (by omega) (by omega)]; exact hm2
 ·obtain⟨v1,c1,e1,a1,a2,a3⟩:=B1v h
  obtain⟨v2,c2,e2,b1,b2,b3⟩:=B1v a1
  obtain⟨v3,c3,e3,d1,d2,d3⟩:=B1v b1
  obtain⟨v4,c4,e4,g1,g2,g3⟩:=B1v d1
  simp only[h1,decide_false,zA,if_false,e1,e2,e3,e4,W,hne]
  rw[A9 (n:=v1*16777216) (by omega) (by omega),A9 (n:=v2*65536) (by omega) (by omega),A9 (n:=v3*256) (by omega) (by omega),A9 (n:=v1*16777216+v2*65536) (by omega) (by omega),
   A9 (n:=v1*16777216+v2*65536+v3*256) (by omega) (by omega),A9 (n:=v1*16777216+v2*65536+v3*256+v4) (by omega) (by omega)]
  have k2:0≤v1*16777216+v2*65536+v3*256+v4:=by omega
  have hm:=yJ (v1*16777216+v2*65536+v3*256+v4) (b:=n) (by omega)
  have hm2:=yD (v1*16777216+v2*65536+v3*256+v4) (b:=n) (by omega)
  refine⟨_,_,rfl,g1,?_,?_,fun h=>by first | exact h.elim | exact absurd h h0⟩
  ·rw[zC k2,A9 (by omega) (by omega)]; exact hm
  ·intro _; rw[zC k2,A9 (by omega) (by omega)]; exact hm2
theorem E4l{a:H P}(ha:a.length≤maxLen):∃c,A4w a=G c∧CurOk c:=by
 unfold A4w
 have key:∀(k i n:U) (v:P),i+k=a.length→k<n→∃c,Z0 a n v (i:P)=G c∧CurOk c:=by
  intro k
  induction k with
  | zero=>
   intro i n v hi hn
   obtain⟨m,rfl⟩:=sn (n:=n) (by omega)
   have:i=a.length:=by omega
   subst this
   exact⟨_,by simp[Z0,A1d]; rfl,⟨by simp,by simp,ha⟩⟩
  | succ k ih=>
   intro i n v hi hn
   obtain⟨m,rfl⟩:=sn (n:=n) (by omega)
   have hlt:i<a.length:=by omega
   simp only[Z0,D3,hlt,decide_true,if_true,F1 hlt,W,I1 hlt ha]
   by_cases h4:(i:P)<4000
   ·simp only[h4,decide_true,if_true]
    exact ih (i+1) m _ (by omega) (by omega)
   ·simp only[h4,decide_false,zA,if_false,A1d]
    exact⟨_,rfl,⟨by simp,by simp,ha⟩⟩
 exact key a.length 0 bigN _ (by omega) (E5 ha)
theorem A5m{c:X1}{n:P}(h:CurOk c)(hn:n≤1000000):∃b c',I3 c n=G (b,c')∧CurOk c':=by
 obtain⟨v,c',e,h1,_⟩:=F5 h hn
 refine⟨_,c',by simp only[I3,e,W]; rfl,h1⟩
def C48(s:X2):Q:=(decide (0≤s.Depth)&&decide (s.Depth≤3000))&&(decide (1≤s.Minutes)&&decide (s.Minutes≤240))
def B7w(s:X2):X2:=⟨s.A,s.B,0,1,s.Meet⟩
def B9o(c:X7):X7:=⟨c.Points,c.Segments.map B7w⟩
theorem D6l{c:X7}{i:U}(hi:i<c.Segments.length)(h:A72 (B9o c) i=F)(hs:C48 c.Segments[i]=F):A72 c i=F:=by
 have e:∀(A B:P),((I i).any fun j=>match (c.Segments.map B7w)[j]? with | some y=>jn y A B | none=>E)=((I i).any fun j=>match c.Segments[j]? with | some y=>jn y A B | none=>E):=by
  intro A B
  congr 1
  funext j
  rw[yF]
  cases c.Segments[j]?<;>rfl
 have hb:(B9o c).Segments[i]?=G (B7w c.Segments[i]):=by
  show(c.Segments.map B7w)[i]?=_
  rw[yF,X hi]
  rfl
 unfold A72 at h ⊢
 rw[hb] at h
 rw[X hi]
 simp only[Y] at h ⊢
 obtain⟨h1,h2,h3,_,_,h6⟩:=h
 simp only[C48,Y] at hs
 refine⟨h1,h2,h3,hs.1,hs.2,?_⟩
 have h6':(!((I i).any fun j=>match (c.Segments.map B7w)[j]? with | some y=>jn y c.Segments[i].A c.Segments[i].B | none=>E))=F:=h6
 rw[e] at h6'
 exact h6'
theorem A85{c:X7}(h1:I7 (B9o c)=F)(h2:∀s∈c.Segments,C48 s=F):I7 c=F:=by
 unfold I7 at h1 ⊢
 simp only[Y] at h1 ⊢
 obtain⟨a1,a2,a3,a4⟩:=h1
 refine⟨a1,?_,a3,?_⟩
 ·have:(B9o c).Segments.length=c.Segments.length:=by simp[B9o]
  rw[this] at a2
  exact a2
 ·rw[zQ] at a4 ⊢
  intro i hi
  have hlt:i<c.Segments.length:=zX.1 hi
  exact D6l hlt (a4 i (by rw[zX]; simpa[B9o] using hlt)) (h2 _ (zB hlt))
theorem C3f{A B d m:P}{b:Q}(h1:0≤d∧d≤3000)(h2:1≤m∧m≤240):C48 ⟨A,B,d,m,b⟩=F:=by
 simp only[C48,Y,decide_eq_true_eq]
 exact⟨h1,h2⟩
theorem D8u{m n b:U}(h:m+n≤2000000)(hb:b≤1000):C9 m n b=F:=by
 unfold C9
 rw[decide_eq_true_eq]
 have:(m+n)*b≤2000000*1000:=yC h hb
 omega
theorem ifa{α:Type}{m n b:U}(h:m+n≤2000000)(hb:b≤1000)(x y:α):(if C9 m n b=F then x else y)=x:=by rw[if_pos (D8u h hb)]
theorem D3z{n:P}(h0:0≤n)(h1:n<18446744073709551616):IntKind.u64.wrap n=n:=by
 simp only[IntKind.wrap,IntKind.bits,IntKind.signed]
 have:n % 18446744073709551616=n:=Int.emod_eq_of_lt h0 h1
 simp[this]
theorem A4c{n:U}(h:n<2 ^ 63):yM .i64 (n:P)=n:=A9 (by omega) (by omega)
theorem A9a{n:U}(h:n<2 ^ 64):IntKind.u64.wrap (n:P)=n:=D3z (by omega) (by omega)
theorem A65{s n:U}(h:∀i,s.testBit i=F→i<n):s<2 ^ n:=Nat.lt_pow_two_of_testBit s fun i hi=>by
 cases hb:s.testBit i with
 | false=>rfl
 | true=>have:=h i hb; omega
theorem C6t{a b n:U}(h:a<2 ^ n):K6 a b<2 ^ n:=A65 fun i hi=>by
 rw[A47,Y] at hi
 exact B0p h hi.1
theorem A4h{w n:U}(h:n<2 ^ w):(BitVec.ofInt w (n:P)).toNat=n:=by
 rw[BitVec.ofInt_natCast,BitVec.toNat_ofNat,Nat.mod_eq_of_lt h]
theorem C7e{w a b:U}(ha:a<2 ^ w)(hb:b<2 ^ w):(BitVec.ofInt w (a:P) &&& ~~~ BitVec.ofInt w (b:P)).toNat=K6 a b:=by
 rw[BitVec.toNat_and,BitVec.toNat_not,A4h ha,A4h hb]
 apply zP
 intro i
 rw[show 2 ^ w - 1 - b=2 ^ w - (b+1) by omega,zT,Nat.testBit_two_pow_sub_succ hb,A47]
 cases hi:a.testBit i with
 | false=>rfl
 | true=>simp[B0p ha hi]
theorem E1i{a b:U}(ha:a<2 ^ 63)(hb:b<2 ^ 63):J4 .and .i64 (a:P) (b:P)=((a &&& b:U):P):=by
 show yM .i64 ((BitVec.ofInt 64 (a:P) &&& BitVec.ofInt 64 (b:P)).toNat:P)=_
 rw[BitVec.toNat_and,A4h (zG ha (by decide)),A4h (zG hb (by decide)),A4c (Nat.and_lt_two_pow a hb)]
theorem E5s{a b:U}(ha:a<2 ^ 63)(hb:b<2 ^ 63):J4 .or .i64 (a:P) (b:P)=((a ||| b:U):P):=by
 show yM .i64 ((BitVec.ofInt 64 (a:P) ||| BitVec.ofInt 64 (b:P)).toNat:P)=_
 rw[BitVec.toNat_or,A4h (zG ha (by decide)),A4h (zG hb (by decide)),A4c (zY ha hb)]
theorem C32{a b:U}(ha:a<2 ^ 63)(hb:b<2 ^ 63):J4 .andNot .i64 (a:P) (b:P)=((K6 a b:U):P):=by
 show yM .i64 ((BitVec.ofInt 64 (a:P) &&& ~~~ BitVec.ofInt 64 (b:P)).toNat:P)=_
 rw[C7e (zG ha (by decide)) (zG hb (by decide)),A4c (C6t ha)]
theorem C5c{a b:U}(ha:a<2 ^ 64)(hb:b<2 ^ 64):J4 .or .u64 (a:P) (b:P)=((a ||| b:U):P):=by
 show IntKind.u64.wrap ((BitVec.ofInt 64 (a:P) ||| BitVec.ofInt 64 (b:P)).toNat:P)=_
 rw[BitVec.toNat_or,A4h ha,A4h hb,A9a (zY ha hb)]
theorem A92{a b:U}(ha:a<2 ^ 64)(hb:b<2 ^ 64):J4 .andNot .u64 (a:P) (b:P)=((K6 a b:U):P):=by
 show IntKind.u64.wrap ((BitVec.ofInt 64 (a:P) &&& ~~~ BitVec.ofInt 64 (b:P)).toNat:P)=_
 rw[C7e ha hb,A9a (C6t ha)]
theorem B48{n:U}(h:n≤20):A0h .i64 (1:P) (n:P)=((2 ^ n:U):P):=by
 have hp:2 ^ n<2 ^ 63:=zR (by omega) (by omega)
 unfold A0h
 rw[zD,show min n IntKind.i64.bits=n by simp[IntKind.bits]; omega,Int.one_mul]
 have:((2:P) ^ n)=((2 ^ n:U):P):=by simp
 rw[this,A4c hp]
theorem B85{n:U}(h:n≤20):A0h .u64 (1:P) (n:P)=((2 ^ n:U):P):=by
 have hp:2 ^ n<2 ^ 64:=zR (by omega) (by omega)
 unfold A0h
 rw[zD,show min n IntKind.u64.bits=n by simp[IntKind.bits]; omega,Int.one_mul]
 have:((2:P) ^ n)=((2 ^ n:U):P):=by simp
 rw[this,A9a hp]
theorem D4h(n:U):((n:P)==(0:P))=decide (n=0):=by
 rw[zJ]
 simp
def D2x:H V:= [0,1,2,2,3,3,3,3,4,4,4,4,4,4,4,4,5,5,5,5,5,5,5,5,5,5,5,5,5,5,5,5,6,6,6,6,6,6,6,6,6,6,6,6,6,6,6,6,6,6,6,6,6,6,6,6,6,6,6,6,6,6,6,6,7,7,7,7,7,7,7,7,7,7,7,7,7,7,7,7,7,7,7,7,7,7,7,7,7,7,7,7,7,7,7,7,7,7,7,7,7,7,7,7,7,7,7,7,7,7,7,7,7,7,7,7,7,7,7,7,7,7,7,7,7,7,7,7,8,8,8,8,8,8,8,8,8,8,8,8,8,8,8,8,8,8,8,8,8,8,8,8,8,8,8,8,8,8,8,8,8,8,8,8,8,8,8,8,8,8,8,8,8,8,8,8,8,8,8,8,8,8,8,8,8,8,8,8,8,8,8,8,8,8,8,8,8,8,8,8,8,8,8,8,8,8,8,8,8,8,8,8,8,8,8,8,8,8,8,8,8,8,8,8,8,8,8,8,8,8,8,8,8,8,8,8,8,8,8,8,8,8,8,8,8,8,8,8,8,8,8,8,8,8,8,8]
theorem D8y(v8 v9:P):U8 v8 v9=(ix D2x (IntKind.u8.wrap v8)).bind fun b10=>G (yM .i64 (v9+(yM .i64 (b10.toNat:P)))):=rfl
def C6p(x:U):Q:=match D2x[x]? with
 | some b=>decide (b.toNat≤8)&&(decide (x<2 ^ b.toNat)&&(x==0 || (decide (1≤b.toNat)&&decide (2 ^ (b.toNat - 1)≤x))))
 | none=>E
theorem C55:(I 256).all C6p=F:=by kernel_rfl
theorem E5n{x:U}(hx:x<256)(n:P):∃l:U,U8 (x:P) n=G (yM .i64 (n+(l:P)))∧l≤8∧x<2 ^ l∧(0<x→1≤l∧2 ^ (l - 1)≤x):=by
 have h:=zQ.1 C55 x (by simpa using hx)
 unfold C6p at h
 split at h
 ·rename_i b hb
  simp only[Y,decide_eq_true_eq,yI,beq_iff_eq] at h
  have hw:IntKind.u8.wrap (x:P)=(x:P):=by
   simp only[IntKind.wrap,IntKind.bits,IntKind.signed]
   have:(x:P) % 256=x:=Int.emod_eq_of_lt (by omega) (by omega)
   simp[this]
  refine⟨b.toNat,?_,h.1,h.2.1,fun h0=> ?_⟩
  ·rw[D8y,hw,Y0,hb,W,A4c (n:=b.toNat) (by omega)]
  ·rcases h.2.2 with h3|h3
   ·omega
   ·exact h3
 ·cases h
theorem E3e{s:U}(h1:1≤s)(h2:s<4096):∃t:U,A1h (s:P)=G ((t+1:U):P)∧2 ^ t≤s∧s<2 ^ (t+1)∧t<12:=by
 have key:∃l:U,A1h (s:P)=G ((l:U):P)∧1≤l∧2 ^ (l - 1)≤s∧s<2 ^ l:=by
  unfold A1h A3v
  rw[if_neg (by simp; omega)]
  unfold A0j
  rw[if_neg (by simp; omega)]
  unfold A0n
  by_cases hs:s<256
  ·rw[if_neg (by simp; omega)]
   obtain⟨l,e,l8,a1,a2⟩:=E5n hs 0
   obtain⟨a3,a4⟩:=a2 h1
   refine⟨l,?_,a3,a4,a1⟩
   rw[e,W,Int.zero_add,A4c (by omega)]
  ·rw[if_pos (by simp; omega)]
   have e8:Z5 .u64 (s:P) 8=((s / 256:U):P):=by
    unfold Z5
    rw[show min 8 IntKind.u64.bits=8 by rfl,Int.fdiv_eq_ediv_of_nonneg _ (by decide)]
    have:((s:P) / 2 ^ 8)=((s / 256:U):P):=by simp
    rw[this,A9a (by omega)]
   have e9:yM .i64 ((0:P)+8)=((8:U):P):=by rw[A9 (by omega) (by omega)]; rfl
   rw[e8,e9]
   obtain⟨l,e,l8,a1,a2⟩:=E5n (x:=s / 256) (by omega) ((8:U):P)
   obtain⟨a3,a4⟩:=a2 (by omega)
   refine⟨8+l,?_,by omega,?_,?_⟩
   ·have:((8:U):P)+(l:P)=((8+l:U):P):=by omega
    rw[e,W,this,A4c (by omega)]
   ·rw[show 8+l - 1=(l - 1)+8 by omega,Nat.pow_add]
    omega
   ·rw[Nat.add_comm,Nat.pow_add]
    omega
 obtain⟨l,e,a1,a2,a3⟩:=key
 obtain⟨t,rfl⟩:=sn (n:=l) (by omega)
 refine⟨t,e,by simpa using a2,a3,?_⟩
 rcases zL t 12 with h|h
 ·exact h
 ·have:=zO (show 0<2 by omega) h
  simp at a2
  omega
theorem B59{s t:U}(h1:2 ^ t≤s)(h2:s<2 ^ (t+1)):s.testBit t=F∧K6 s (2 ^ t)<2 ^ t∧(∀i,(K6 s (2 ^ t)).testBit i=F→s.testBit i=F)∧(∀i,s.testBit i=F→i=t∨(K6 s (2 ^ t)).testBit i=F):=by
 have hb:∀i,(K6 s (2 ^ t)).testBit i=(s.testBit i&& !decide (t=i)):=fun i=>by rw[A47,A9i]
 refine⟨Nat.testBit_of_two_pow_le_and_two_pow_add_one_gt h1 h2,A65 fun i hi=> ?_,fun i hi=> ?_,fun i hi=> ?_⟩
 ·rw[hb,Y] at hi
  have:=B0p h2 hi.1
  have h3:t≠i:=by simpa using hi.2
  omega
 ·rw[hb,Y] at hi
  exact hi.1
 ·by_cases h:i=t
  ·exact .inl h
  ·right
   rw[hb,hi]
   simpa using fun e:t=i=>h e.symm
def A34(d:Xd):Q:=decide (0≤d.From)&&(decide (d.From<d.To)&&(decide (d.To≤2880)&&((decide (0≤d.A)&&decide (d.A<8))&&(decide (0≤d.B)&&decide (d.B<8)))))
theorem D88{R:Type}(a b c d e:Q)(x y:R):(if(!a)=F then y else if(!b)=F then y else if(!c)=F then y else if d=F then(if e=F then x else y) else y)=if(a&&(b&&(c&&(d&&e))))=F then x else y:=by
 cases a<;>cases b<;>cases c<;>cases d<;>cases e<;>rfl
theorem A2n{l:H Xd}:Z3 l=G (decide (l.length≤12)&&l.all A34):=by
 unfold Z3
 by_cases h:l.length≤12
 ·rw[if_neg (by simp; omega),B2k (L:=U0 l) l A34 (by rw[E6]; omega) (fun n i hi=> ?_) (fun n=>by simp[U0])]
  ·simp[h]
  ·simp only[U0,D3,hi,decide_true,if_true,F1 hi,W,A5p,A34]
   generalize l[i]=d
   have g1:decide (d.From<0)= !decide (0≤d.From):=by by_cases h:0≤d.From<;>simp[h]<;>omega
   have g2:decide (d.To≤d.From)= !decide (d.From<d.To):=by by_cases h:d.From<d.To<;>simp[h]<;>omega
   have g3:decide (2880<d.To)= !decide (d.To≤2880):=by by_cases h:d.To≤2880<;>simp[h]<;>omega
   simp only[g1,g2,g3]
   exact D88 _ _ _ _ _ _ _
 ·rw[if_pos (by simp; omega)]
  simp[h]
def B7h(m:H P):Q:=decide (m.length=64)&&m.all fun x=>decide (0≤x)&&decide (x≤240)
def B2m(p:P)(m:H P):Q:=A5d p&&B7h m
theorem A8m{m:H P}(h:m.length≤maxLen):W4 m=G (B7h m):=by
 unfold W4 B7h
 rw[B7u h]
 by_cases h1:m.length=64
 ·simp[h1]
 ·have:((m.length:P) !=64)=F:=by simpa using(by omega:¬((m.length:P)=64))
  simp[h1,this]
theorem B3y(p:P):I0 p=G (A5d p):=by rw[A10]; rfl
def fol(p:P)(m:H P)(d e:Xd):Q:=decide (yM .i64 (d.To+yM .i64 (p+m[(8*d.B+e.A).toNat]?.getD 0))≤e.From)
theorem B74{d:Xd}(h:A34 d=F):0≤d.From∧d.From<d.To∧d.To≤2880∧0≤d.A∧d.A<8∧0≤d.B∧d.B<8:=by
 simp only[A34,Y,decide_eq_true_eq] at h
 omega
theorem D48{m:H P}(hm:B7h m=F){b a:P}(h0:0≤b)(h1:b<8)(h2:0≤a)(h3:a<8):ix m (8*b+a)=G (m[(8*b+a).toNat]?.getD 0):=by
 simp only[B7h,Y,decide_eq_true_eq] at hm
 obtain⟨k,hk⟩:∃k:U,8*b+a=(k:P):=⟨(8*b+a).toNat,by omega⟩
 rw[hk,Y0,zD,X (by omega)]
 rfl
theorem B1x{p:P}{m:H P}{d e:Xd}(hl:m.length≤maxLen)(ht:B2m p m=F)(hd:A34 d=F)(he:A34 e=F):A01 p m d e=G (fol p m d e):=by
 obtain⟨_,_,_,_,_,b0,b1⟩:=B74 hd
 obtain⟨_,_,_,a0,a1,_,_⟩:=B74 he
 have ht':=ht
 simp only[B2m,Y] at ht'
 unfold A01 A87
 have c1:(decide (0≤d.B)&&decide (d.B<8))=F:=by simp; omega
 have c2:(decide (0≤e.A)&&decide (e.A<8))=F:=by simp; omega
 have o1:(decide ([d].length≤12)&& [d].all A34)=F:=by simp[hd]
 have o2:(decide ([e].length≤12)&& [e].all A34)=F:=by simp[he]
 rw[B3y,ht'.1,W,if_pos rfl,A8m hl,ht'.2,W,if_pos rfl,A5p,c1,W,if_pos rfl,A5p,c2,W]
 unfold A2l
 rw[if_neg (by simp),A9 (n:=8*d.B) (by omega) (by omega),A9 (n:=8*d.B+e.A) (by omega) (by omega),D48 ht'.2 b0 b1 a0 a1,W,W,if_pos rfl,A2n,o1,W,if_pos rfl,A2n,o2,W,if_pos rfl]
 rfl
def B2g(p:P)(m:H P)(l:H Xd)(i k:U):Q:=match l[i]?,l[k]? with
 | some d,G e=>fol p m d e || fol p m e d
 | _,_=>E
theorem D1m(p:P)(m:H P)(l:H Xd)(i k:U):B2g p m l i k=B2g p m l k i:=by
 unfold B2g
 cases l[i]?<;>cases l[k]?<;>simp[Bool.or_comm]
theorem B7c{n m b:U}(h:n+m≤1000000)(hb:b≤100):C9 n m b=F:=by
 unfold C9
 have:(n+m)*b≤1000000*100:=yC h hb
 simp
 omega
def nn(ms:H U):H P:=ms.map fun x:U=>(x:P)
theorem A54(ms:H U):(nn ms).length=ms.length:=by simp[nn]
theorem A6y{ms:H U}{i:U}(h:i<ms.length):ix (nn ms) (i:P)=G ((ms[i]:U):P):=by
 rw[Y0,nn,yF,X h]; rfl
theorem B0b(ms:H U)(i a:U):(nn ms).set i (a:P)=nn (ms.set i a):=by simp[nn,List.map_set]
theorem E52(ms:H U)(a:U):nn ms++ [(a:P)]=nn (ms++ [a]):=by simp[nn]
section
variable {p : P} {m : H P} {l : H Xd}
theorem E2e{i k:U}(hi:i<l.length)(hk:k<l.length):B2g p m l i k=(fol p m l[i] l[k] || fol p m l[k] l[i]):=by
 unfold B2g
 rw[X hi,X hk]
def adj(p:P)(m:H P)(l:H Xd)(i j:U):Q:=decide (j<l.length)&&(decide (i≠j)&&B2g p m l i j)
theorem C9p(hl:m.length≤maxLen)(ht:B2m p m=F)(hd:∀d∈l,A34 d=F)(hN:l.length≤12)(K:P→H P→O (H P)){i:U}(hi:i<l.length)(ms:H U)(hms:ms.length=l.length) :
  ∀(r k n a:U),k+r=l.length→r<n→(∀j,a.testBit j=(decide (j<k)&&(decide (i≠j)&&B2g p m l i j)))→
   ∃q,(∀j,q.testBit j=adj p m l i j)∧G3 p m l (i:P) l[i] K n (k:P) (nn (ms.set i a))=K (yM .i64 ((i:P)+1)) (nn (ms.set i q)):=by
 have hm:l.length≤maxLen:=by rw[E6]; omega
 intro r
 induction r with
 | zero=>
  intro k n a hk hn ha
  obtain⟨n,rfl⟩:=sn (n:=n) (by omega)
  refine⟨a,fun j=> ?_,?_⟩
  ·rw[ha,show k=l.length by omega]; rfl
  ·rw[G3,if_neg (by simp; omega)]
 | succ r ih=>
  intro k n a hk hn ha
  obtain⟨n,rfl⟩:=sn (n:=n) (by omega)
  have hlt:k<l.length:=by omega
  have a12:a<2 ^ 12:=A65 fun j hj=>by
   rw[ha,Y,decide_eq_true_eq] at hj; omega
  have step:∀v:Q,v=(decide (i≠k)&&B2g p m l i k)→∃q,(∀j,q.testBit j=adj p m l i j)∧T6 p m l (i:P) (k:P) l[i] (nn (ms.set i a)) (G3 p m l (i:P) l[i] K n) v=K (yM .i64 ((i:P)+1)) (nn (ms.set i q)):=by
   intro v hv
   unfold T6
   cases v with
   | true=>
    rw[if_pos rfl,A6y (by simp; omega),W,if_neg (by simp),B85 (by omega),zZ]
    have h12:2 ^ k<2 ^ 64:=zR (by omega) (by omega)
    rw[C5c (zG a12 (by decide)) h12,zD,B0b,List.set_set,I1 hlt hm]
    refine ih (k+1) n _ (by omega) (by omega) fun j=> ?_
    rw[zM,ha,A9i]
    by_cases hjk:k=j
    ·subst hjk
     have hx:¬i=k∧B2g p m l i k=F:=by simpa using hv.symm
     simp[hx.1,hx.2]
    ·have e:decide (j<k+1)=decide (j<k):=decide_eq_decide.2 (by omega)
     rw[e]
     simp[hjk]
   | false=>
    rw[if_neg (by simp),I1 hlt hm]
    refine ih (k+1) n a (by omega) (by omega) fun j=> ?_
    rw[ha]
    by_cases hjk:k=j
    ·subst hjk
     rw[← hv]
     simp
    ·have e:decide (j<k+1)=decide (j<k):=decide_eq_decide.2 (by omega)
     rw[e]
  rw[G3,D3,if_pos (by simpa using hlt),F1 hlt,W]
  by_cases hik:i=k
  ·subst hik
   rw[if_neg (by simp)]
   exact step E (by simp)
  ·have hne:((i:P) !=(k:P))=F:=by simp; omega
   rw[if_pos hne,B1x hl ht (hd _ (zB hi)) (hd _ (zB hlt)),W]
   have hb:=E2e (p:=p) (m:=m) hi hlt
   cases hf:fol p m l[i] l[k] with
   | true=>
    rw[if_pos rfl]
    exact step F (by rw[hb,hf]; simp[hik])
   | false=>
    rw[if_neg (by simp),B1x hl ht (hd _ (zB hlt)) (hd _ (zB hi)),W]
    exact step _ (by rw[hb,hf]; simp[hik])
theorem B6a(hl:m.length≤maxLen)(ht:B2m p m=F)(hd:∀d∈l,A34 d=F)(hN:l.length≤12):∃ms:H U,ms.length=l.length∧(∀i j:U,i<l.length→(ms[i]?.getD 0).testBit j=adj p m l i j)∧A3c p m l=G (nn ms):=by
 have hm:l.length≤maxLen:=by rw[E6]; omega
 have key:∀(r i n:U) (ms:H U),i+r=l.length→r<n→ms.length=l.length→(∀i' j:U,i'<i→(ms[i']?.getD 0).testBit j=adj p m l i' j)→(∀i':U,i≤i'→ms[i']?.getD 0=0)→
   ∃ms':H U,ms'.length=l.length∧(∀i j:U,i<l.length→(ms'[i]?.getD 0).testBit j=adj p m l i j)∧L4 p m l n (i:P) (nn ms)=G (nn ms'):=by
  intro r
  induction r with
  | zero=>
   intro i n ms hi hn hms h1 h2
   obtain⟨n,rfl⟩:=sn (n:=n) (by omega)
   exact⟨ms,hms,fun i' j h=>h1 i' j (by omega),by rw[L4,if_neg (by simp; omega)]⟩
  | succ r ih=>
   intro i n ms hi hn hms h1 h2
   obtain⟨n,rfl⟩:=sn (n:=n) (by omega)
   have hlt:i<l.length:=by omega
   obtain⟨q,hq,e⟩:=C9p hl ht hd hN (L4 p m l n) hlt ms hms l.length 0 bigN 0 (by omega) (E5 hm) (fun j=>by simp)
   have e0:ms.set i 0=ms:=by
    have h3:=h2 i (Nat.le_refl _)
    rw[X (by omega)] at h3
    have h3:ms[i]'(by omega)=0:=h3
    apply List.ext_getElem (by simp)
    intro j hj1 hj2
    by_cases hij:i=j
    ·subst hij; simp[h3]
    ·rw[List.getElem_set_ne hij]
   rw[e0] at e
   rw[L4,D3,if_pos (by simpa using hlt),F1 hlt,W]
   have e:G3 p m l (i:P) l[i] (L4 p m l n) bigN 0 (nn ms)=_:=e
   rw[e,I1 hlt hm]
   refine ih (i+1) n (ms.set i q) (by omega) (by omega) (by simpa using hms) (fun i' j h=> ?_) (fun i' h=> ?_)
   ·by_cases hii:i=i'
    ·subst hii
     rw[zI (by omega)]
     exact hq j
    ·rw[zH hii]
     exact h1 i' j (by omega)
   ·rw[zH (by omega)]
    exact h2 i' (by omega)
 unfold A3c
 rw[B9x (by omega) (by omega),W]
 have hz:zE l.length (0:P)=nn (zE l.length 0):=by simp[nn]
 rw[hz]
 exact key l.length 0 bigN _ (by omega) (E5 hm) (by simp) (fun i' j h=>by omega) (fun i' h=>by
  rw[List.getElem?_replicate]
  split<;>rfl)
end
section
variable {B : U → U → Q} {N : U} {ms : H U}
def F1m(B:U→U→Q)(N:U)(ms:H U):Prop:=ms.length=N∧∀i j:U,i<N→(ms[i]?.getD 0).testBit j=(decide (j<N)&&(decide (i≠j)&&B i j))
theorem D5t:Clq B 0:=fun i j hi=>by simp at hi
theorem E2d(hB:∀i j,B i j=B j i){s t:U}(h1:2 ^ t≤s)(h2:s<2 ^ (t+1)):Clq B s↔Clq B (K6 s (2 ^ t))∧∀i,(K6 s (2 ^ t)).testBit i=F→B t i=F:=by
 obtain⟨a1,a2,a3,a4⟩:=B59 h1 h2
 constructor
 ·intro h
  exact⟨fun i j hi hj=>h i j (a3 i hi) (a3 j hj),fun i hi=>h t i a1 (a3 i hi) (by have:=B0p a2 hi; omega)⟩
 ·rintro⟨k1,k2⟩ i j hi hj hne
  rcases a4 i hi with rfl|hi
  ·rcases a4 j hj with rfl|hj
   ·exact absurd rfl hne
   ·exact k2 j hj
  ·rcases a4 j hj with rfl|hj
   ·rw[hB]; exact k2 i hi
   ·exact k1 i j hi hj hne
theorem B3l{a b:U}:K6 a b=0↔∀i,a.testBit i=F→b.testBit i=F:=by
 constructor
 ·intro h i hi
  have:=A47 a b i
  rw[h,hi] at this
  cases hb:b.testBit i with
  | true=>rfl
  | false=>rw[hb] at this; simp at this
 ·intro h
  apply zP
  intro i
  rw[A47,Nat.zero_testBit]
  cases hi:a.testBit i with
  | false=>rfl
  | true=>rw[h i hi]; rfl
theorem C61(a b:U):K6 a b≤a:=by
 rcases zL a (K6 a b) with h|h
 ·obtain⟨i,h1,h2⟩:=Nat.exists_testBit_ne_of_ne (Nat.ne_of_lt h) |>.elim fun i hi=>(⟨i,hi,⟨⟩⟩:∃i,a.testBit i≠(K6 a b).testBit i∧True)
  exfalso
  have:K6 a b &&& a=K6 a b:=C4b fun i hi=>by
   rw[A47,Y] at hi
   exact hi.1
  have h3:= @Nat.and_le_right (K6 a b) a
  omega
 ·exact h
def D64(B:U→U→Q)(tg:H Q)(s:U):Prop:=∀x,x<s→(tg[x]?.getD E=F↔Clq B x)
def E4k(B:U→U→Q)(ls:H U)(s:U):Prop:=∀x,x<s→B0r B x (ls[x]?.getD 0)
theorem C5f(hN:N≤12){x n:U}(hx:x<2 ^ N)(h:B0r B x n):n≤12:=Nat.le_trans (h.2 N (D2e hx)) hN
theorem C3c{tg:H Q}{x:U}(h:x<tg.length):ix tg (x:P)=G (tg[x]?.getD E):=by
 rw[Y0,X h]; rfl
theorem C24{ls:H U}{x:U}(h:x<ls.length):ix (nn ls) (x:P)=G (((ls[x]?.getD 0:U)):P):=by
 rw[A6y h,X h]; rfl
theorem D7z(hN:N≤12):2 ^ N≤4096:=by
 have:=zO (show 0<2 by omega) hN
 simpa using this
theorem C54(hN:N≤12)(y5:P){s t:U}(hs:s<2 ^ N)(h1:2 ^ t≤s)(h2:s<2 ^ (t+1)){tg:H Q}{ls:H U}(htl:tg.length=2 ^ N)(hll:ls.length=2 ^ N)(ht:D64 B tg (s+1))(hl:E4k B ls s)(K:P→H Q→H P→O P) :
  ∀(n q c:U),q<n→q &&& K6 s (2 ^ t)=q→Cov B s c→c≤100→(∀q',q' &&& K6 s (2 ^ t)=q'→q<q'→Clq B (q' ||| 2 ^ t)→c≤1+ls[K6 (K6 s (2 ^ t)) q']?.getD 0)→
   ∃c',B0r B s c'∧H8 (nn ms) y5 (s:P) (t:P) ((K6 s (2 ^ t):U):P) tg K n (q:P) (nn (ls.set s c))=K (yM .i64 ((s:P)+1)) tg (nn (ls.set s c')):=by
 obtain⟨a1,a2,a3,a4⟩:=B59 h1 h2
 have hp:=D7z hN
 have h2s:K6 s (2 ^ t)<s:=zV a2 h1
 generalize hr:K6 s (2 ^ t)=r at a2 a3 a4 h2s
 intro n
 induction n with
 | zero=>intro q c hq; omega
 | succ n ih=>
  intro q c hq hsub hc hc1 hall
  have ht12:t<12:=by
   rcases zL t 12 with h|h
   ·exact h
   ·have:=zO (show 0<2 by omega) h
    simp at this
    omega
  have hqr:q≤r:=by have:= @Nat.and_le_right q r; omega
  have hor:q ||| 2 ^ t≤s:=by
   have hsb:(q ||| 2 ^ t) &&& s=q ||| 2 ^ t:=C4b fun i hi=>by
    rw[zM,A9i,yI,decide_eq_true_eq] at hi
    rcases hi with h|h
    ·exact a3 i (E4e hsub h)
    ·subst h; exact a1
   have:= @Nat.and_le_right (q ||| 2 ^ t) s
   omega
  have hsml:∀x:U,x≤s→x<2 ^ 63:=fun x hx=>yE hx (zV hs (Nat.le_trans hp (by decide)))
  have hand:K6 r q<s:=yE (C61 r q) h2s
  have hset:s<(ls.set s c).length:=by simp; omega
  have hnext:∀c1:U,Cov B s c1→c1≤100→(∀q',q' &&& r=q'→q≤q'→Clq B (q' ||| 2 ^ t)→c1≤1+ls[K6 r q']?.getD 0)→
    ∃c',B0r B s c'∧R6 (nn ms) y5 (s:P) (t:P) (r:P) (q:P) tg K (H8 (nn ms) y5 (s:P) (t:P) (r:P) tg K n) (nn (ls.set s c1))=K (yM .i64 ((s:P)+1)) tg (nn (ls.set s c')):=by
   intro c1 g1 g2 g3
   unfold R6
   by_cases h0:q=0
   ·subst h0
    refine⟨c1,⟨g1,fun m hm=> ?_⟩,by rw[if_pos (by simp)]⟩
    obtain⟨q',n',e1,e2,e3,e4⟩:=D3k a1 a3 hm
    have:=(hl (K6 r q') (yE (C61 r q') h2s)).2 n' e4
    have:=g3 q' e1 (Nat.zero_le _) e2
    omega
   ·rw[if_neg (by simpa using h0)]
    have ew:yM .i64 ((q:P) - 1)=((q - 1:U):P):=by
     rw[show(q:P) - 1=((q - 1:U):P) by omega]
     exact A4c (hsml _ (by omega))
    rw[ew,E1i (hsml _ (by omega)) (hsml _ (by omega))]
    have hlt:= @E2p q r (by omega)
    refine ih ((q - 1) &&& r) c1 (by omega) (E0x _ _) g1 g2 fun q' e1 e2 e3=> ?_
    refine g3 q' e1 ?_ e3
    rcases zL q' q with h|h
    ·have:=D39 r r q q' (Nat.le_refl _) hsub e1 h
     omega
    ·exact h
  rw[H8,if_neg (by simp),B48 (by omega),E5s (hsml _ (by omega)) (hsml _ (by omega)),C3c (by omega),W]
  have hk:=ht (q ||| 2 ^ t) (by omega)
  cases hb:tg[q ||| 2 ^ t]?.getD E with
  | false=>
   rw[if_neg (by simp)]
   refine hnext c hc hc1 fun q' e1 e2 e3=> ?_
   rcases zL q q' with h|h
   ·exact hall q' e1 h e3
   ·have:q'=q:=by omega
    subst this
    rw[hb] at hk
    exact absurd (hk.2 e3) (by simp)
  | true=>
   rw[if_pos rfl]
   have hcq:=hk.1 hb
   have e26:ix (nn (ls.set s c)) (s:P)=G (c:P):=by
    rw[A6y hset,zZ]
   have e27:ix (nn (ls.set s c)) (J4 .andNot .i64 (r:P) (q:P))=G ((ls[K6 r q]?.getD 0:U):P):=by
    rw[C32 (hsml _ (by omega)) (hsml _ (by omega)),C24 (by simp; omega),zH (by omega)]
   rw[e26,W,e27,W]
   have hle:=hl (K6 r q) hand
   have h12:=C5f hN (zG hand hs) hle
   generalize hv:ls[K6 r q]?.getD 0=v at hle h12
   have ew:yM .i64 ((1:P)+(v:P))=((1+v:U):P):=by
    rw[show(1:P)+(v:P)=((1+v:U):P) by omega]
    exact A4c (by omega)
   have emin:(if yM .i64 ((1:P)+(v:P))<(c:P) then yM .i64 ((1:P)+(v:P)) else(c:P))=((if 1+v<c then 1+v else c:U):P):=by
    rw[ew]
    by_cases h:1+v<c
    ·rw[if_pos (by omega),if_pos h]
    ·rw[if_neg (by omega),if_neg h]
   rw[emin,zD,B0b,List.set_set]
   refine hnext _ ?_ (by split<;>omega) fun q' e1 e2 e3=> ?_
   ·split
    ·exact D6y a4 hcq hle.1
    ·exact hc
   ·rcases zL q q' with h|h
    ·have:=hall q' e1 h e3
     split<;>omega
    ·have:q'=q:=by omega
     subst this
     rw[hv]
     split<;>omega
theorem B7f(hB:∀i j,B i j=B j i)(hN:N≤12)(hm:F1m B N ms):∃n:U,B0r B (2 ^ N - 1) n∧n≤12∧A0l (nn ms)=G (n:P):=by
 have hp:=D7z hN
 have hp0:0<2 ^ N:=Nat.pow_pos (by omega)
 obtain⟨hml,hmb⟩:=hm
 have key:∀(k s n:U) (tg:H Q) (ls:H U),s+k=2 ^ N→k<n→1≤s→tg.length=2 ^ N→ls.length=2 ^ N→D64 B tg s→E4k B ls s→
   ∃v:U,B0r B (2 ^ N - 1) v∧v≤12∧F4 (nn ms) ((2 ^ N:U):P) n (s:P) tg (nn ls)=G (v:P):=by
  intro k
  induction k with
  | zero=>
   intro s n tg ls hs hn hs1 htl hll ht hl
   obtain⟨n,rfl⟩:=sn (n:=n) (by omega)
   have:=hl (2 ^ N - 1) (by omega)
   refine⟨_,this,C5f hN (by omega) this,?_⟩
   have ew:yM .i64 (((2 ^ N:U):P) - 1)=((2 ^ N - 1:U):P):=by
    rw[show((2 ^ N:U):P) - 1=((2 ^ N - 1:U):P) by omega]
    exact A4c (by omega)
   rw[F4,if_neg (by simp only[D3,decide_eq_true_eq]; omega),ew,C24 (by omega),W]
  | succ k ih=>
   intro s n tg ls hs hn hs1 htl hll ht hl
   obtain⟨n,rfl⟩:=sn (n:=n) (by omega)
   obtain⟨t,e1,h1,h2,ht12⟩:=E3e hs1 (show s<4096 by omega)
   obtain⟨a1,a2,a3,a4⟩:=B59 h1 h2
   have htN:t<N:=B0p (show s<2 ^ N by omega) a1
   have h2s:K6 s (2 ^ t)<s:=zV a2 h1
   have hsml:∀x:U,x≤s→x<2 ^ 63:=fun x hx=>by
    have:(4096:U)<2 ^ 63:=by decide
    omega
   have ew:yM .i64 (((t+1:U):P) - 1)=(t:P):=by
    rw[show((t+1:U):P) - 1=(t:P) by omega]
    exact A4c (by omega)
   have er:J4 .andNot .i64 (s:P) (A0h .i64 (1:P) (t:P))=((K6 s (2 ^ t):U):P):=by
    rw[B48 (by omega),C32 (hsml _ (Nat.le_refl _)) (hsml _ h1)]
   have hu:IntKind.u64.wrap (s:P)=(s:P):=A9a (by omega)
   have hct:=E2d hB h1 h2
   have rest:∀b:Q,(b=F↔Clq B s)→∃v:U,B0r B (2 ^ N - 1) v∧v≤12∧
     R7 (nn ms) ((2 ^ N:U):P) (s:P) (nn ls) (F4 (nn ms) ((2 ^ N:U):P) n) (t:P) ((K6 s (2 ^ t):U):P) (tg.set s b)=G (v:P):=by
    intro b hb
    have ht':D64 B (tg.set s b) (s+1):=fun x hx=>by
     by_cases h:s=x
     ·subst h
      rw[zI (by omega)]
      exact hb
     ·rw[zH h]
      exact ht x (by omega)
    unfold R7
    rw[C24 (by omega),W,A54,hml,zD,B0b]
    obtain⟨c',k1,k2⟩:=C54 (ms:=ms) hN ((2 ^ N:U):P) (show s<2 ^ N by omega) h1 h2 (tg:=tg.set s b) (ls:=ls) (by simpa using htl) hll ht' hl (F4 (nn ms) ((2 ^ N:U):P) n) bigN (K6 s (2 ^ t)) N (by rw[Y2]; omega) (Nat.and_self _) (D2e (by omega)) (by omega) (fun q' g1 g2=>by
     have:= @Nat.and_le_right q' (K6 s (2 ^ t))
     omega)
    rw[k2,I1 (show s<4096 by omega) (by rw[E6]; omega)]
    refine ih (s+1) n (tg.set s b) (ls.set s c') (by omega) (by omega) (by omega) (by simpa using htl) (by simpa using hll) ht' fun x hx=> ?_
    by_cases h:s=x
    ·subst h
     rw[zI (by omega)]
     exact k1
    ·rw[zH h]
     exact hl x (by omega)
   rw[F4,D3,if_pos (by simp; omega),hu,e1,W,ew,if_neg (by simp),er,C3c (by omega),W,zD]
   have hk:=ht (K6 s (2 ^ t)) h2s
   cases hb:tg[K6 s (2 ^ t)]?.getD E with
   | true=>
    rw[if_pos rfl,C24 (by omega),W,C3c (by omega),W]
    have hmt:ms[t]?.getD 0<2 ^ 12:=A65 fun j hj=>by
     rw[hmb t j htN,Y,decide_eq_true_eq] at hj
     omega
    rw[A9a (n:=K6 s (2 ^ t)) (by omega),A92 (by omega) (zG hmt (by decide)),D4h]
    refine rest _ ?_
    rw[decide_eq_true_eq,B3l,hct]
    constructor
    ·intro h
     refine⟨hk.1 hb,fun i hi=> ?_⟩
     have:=h i hi
     rw[hmb t i htN] at this
     simp at this
     exact this.2.2
    ·rintro⟨_,h⟩ i hi
     have hit:=B0p a2 hi
     rw[hmb t i htN,h i hi]
     simp
     omega
   | false=>
    rw[if_neg (by simp),C3c (by omega),W]
    refine rest E ?_
    rw[hct]
    constructor
    ·intro h; cases h
    ·rintro⟨h,_⟩
     have:=hk.2 h
     rw[hb] at this
     cases this
 unfold A0l
 have hm1:∀b:U,b≤1000→mkS (A0h .i64 (1:P) ((N:U):P)) (A0h .i64 (1:P) ((N:U):P)) b=G (2 ^ N):=fun b hb=>by
  rw[B48 (by omega)]; exact B9x (by omega) hb
 rw[A54,hml,if_neg (by simp),hm1 1 (by omega),W,hm1 8 (by omega),W,B48 (by omega)]
 have e0:ix (zE (2 ^ N) E) (0:P)=G E:=by
  have:=F1 (l:=zE (2 ^ N) E) (i:=0) (by simpa using hp0)
  simpa using this
 have hz:zE (2 ^ N) (0:P)=nn (zE (2 ^ N) 0):=by simp[nn]
 rw[e0,W,hz]
 obtain⟨v,k1,k2,k3⟩:=key (2 ^ N - 1) 1 bigN ((zE (2 ^ N) E).set 0 F) (zE (2 ^ N) 0) (by omega) (by rw[Y2]; omega) (by omega) (by simp) (by simp)
  (fun x hx=>by
   have:x=0:=by omega
   subst this
   rw[zI (by simpa using hp0)]
   exact⟨fun _=>D5t,fun _=>rfl⟩)
  (fun x hx=>by
   have:x=0:=by omega
   subst this
   rw[List.getElem?_replicate,if_pos hp0]
   exact C96)
 exact⟨v,k1,k2,k3⟩
end
theorem D9x{g i:U}(h:g<2 ^ i):K6 (g ||| 2 ^ i) (2 ^ i)=g:=by
 apply zP
 intro j
 rw[A47,zM,A9i]
 by_cases hj:i=j
 ·subst hj
  rw[Nat.testBit_lt_two_pow h]
  simp
 ·simp[hj]
theorem D7d{α:Type}{l:H α}{i:U}{x:α}(h:l[i]?=G x):l.set i x=l:=by
 apply List.ext_getElem?
 intro j
 by_cases hij:i=j
 ·subst hij
  rw[zI (List.getElem?_eq_some_iff.1 h).1,h]
 ·rw[zH hij]
theorem C5y:∀(d fuel:U) (sm gs:H U) (most:P) (who:H P),who.length+d=sm.length→d<fuel→(∀x∈sm,x<2 ^ 12)→sm.length≤12→(∀g∈gs,0<g∧g<2 ^ who.length)→gs.length≤who.length→
  ∃b r,F7 fuel ⟨nn sm,most,nn gs,who⟩=G (b,r)∧r.most=most∧(b=E→r=⟨nn sm,most,nn gs,who⟩):=by
 intro d
 induction d with
 | zero=>
  intro fuel sm gs most who hd hf h1 h2 h3 h4
  obtain⟨fuel,rfl⟩:=sn (n:=fuel) (by omega)
  refine⟨F,⟨nn sm,most,nn gs,who⟩,?_,rfl,fun h=>by cases h⟩
  rw[F7,V2,if_pos (by simp[A54]; omega)]
 | succ d ih=>
  intro fuel sm gs most who hd hf h1 h2 h3 h4
  obtain⟨fuel,rfl⟩:=sn (n:=fuel) (by omega)
  rw[F7,V2,if_neg (by simp[A54]; omega)]
  have hi12:who.length≤11:=by omega
  have hpw:2 ^ who.length<2 ^ 64:=zR (by omega) (by omega)
  have hp0:0<2 ^ who.length:=Nat.pow_pos (by omega)
  have hpd:2 ^ (who.length+1)=2 ^ who.length+2 ^ who.length:=by rw[Nat.pow_succ]; omega
  have hsi:who.length<sm.length:=by omega
  have hsm:sm[who.length]<2 ^ 64:=zG (h1 _ (zB hsi)) (by decide)
  have key:∀(k p n:U),p+k=gs.length+1→k<n→∃b r,F6 (F7 fuel) ⟨nn sm,most,nn gs,who⟩ n (p:P) (nn sm) most (nn gs) who=G (b,r)∧r.most=most∧(b=E→r=⟨nn sm,most,nn gs,who⟩):=by
   intro k
   induction k with
   | zero=>
    intro p n hp hn
    obtain⟨n,rfl⟩:=sn (n:=n) (by omega)
    refine⟨E,_,?_,rfl,fun _=>rfl⟩
    rw[F6,if_neg (by simp[A54]; omega)]
   | succ k ihk=>
    intro p n hp hn
    obtain⟨n,rfl⟩:=sn (n:=n) (by omega)
    have hpl:p≤gs.length:=by omega
    rw[F6,if_pos (by simp[A54]; omega)]
    cases hmost:decide ((p:P)<most) with
    | false=>exact⟨E,_,by rw[if_neg (by simp)],rfl,fun _=>rfl⟩
    | true=>
     rw[if_pos rfl]
     by_cases hpe:p=gs.length
     ·
      rw[if_pos (by simp[A54]; omega),if_pos (B7c (by simp[A54]; omega) (by omega))]
      have e0:nn gs++ [(0:P)]=nn (gs++ [0]):=E52 gs 0
      rw[e0]
      unfold O9
      dsimp only
      have hpg:p<(gs++ [0]).length:=by simp; omega
      have hg0:(gs++ [0])[p]=0:=by simp[hpe]
      rw[A6y hpg,W,hg0,A6y hsi,W,A92 (by decide) hsm]
      have ez:K6 0 sm[who.length]=0:=B3l.2 fun i hi=>by simp at hi
      rw[ez,if_pos (by simp),if_neg (by simp),if_pos (B7c (by simp; omega) (by omega)),B85 (by omega),C5c (by decide) hpw,Nat.zero_or,zD,B0b]
      have es:(gs++ [0]).set p (2 ^ who.length)=gs++ [2 ^ who.length]:=by
       rw[List.set_append_right _ _ (by omega)]
       simp[hpe]
      rw[es]
      obtain⟨b,r,k1,k2,k3⟩:=ih fuel sm (gs++ [2 ^ who.length]) most (who++ [(p:P)]) (by simp; omega) (by omega) h1 h2 (fun g hg=>by
       rw[zW,zN,hpd]
       rcases List.mem_append.1 hg with hg|hg
       ·have:=h3 g hg; omega
       ·rw[List.mem_singleton] at hg; omega) (by simp; omega)
      rw[k1,W]
      cases b with
      | true=>exact⟨F,r,by rw[if_pos rfl],k2,fun h=>by cases h⟩
      | false=>
       have:=k3 rfl
       subst this
       rw[if_neg (by simp)]
       have hw:((who++ [(p:P)]).length:P)=((who.length+1:U):P):=by simp
       simp only[zW,zN]
       rw[show bnd ((who.length+1:U):P) (who.length:P) 0 (who.length+1)=G (0,who.length) from A4k (by omega),W]
       have hpg2:p<(gs++ [2 ^ who.length]).length:=by simp; omega
       have hg2:(gs++ [2 ^ who.length])[p]=2 ^ who.length:=by simp[hpe]
       rw[A6y hpg2,W,hg2,if_neg (by simp),A92 hpw hpw,B0b]
       have ez2:K6 (2 ^ who.length) (2 ^ who.length)=0:=B3l.2 fun i hi=>hi
       have es2:(gs++ [2 ^ who.length]).set p 0=gs++ [0]:=by
        rw[List.set_append_right _ _ (by omega)]
        simp[hpe]
       have et:(who++ [(p:P)]).take who.length=who:=by simp
       rw[ez2,es2,et]
       unfold M3
       rw[A6y hpg,W,hg0,if_pos (by simp),A54]
       have hl1:(gs++ [0]).length=gs.length+1:=by simp
       rw[hl1,show bnd ((gs.length+1:U):P) (p:P) 0 (gs.length+1)=G (0,p) from A4k (by omega),W]
       have et2:(nn (gs++ [0])).take p=nn gs:=by rw[hpe]; simp[nn]
       show ∃b r,G (E,(⟨nn sm,most,(nn (gs++ [0])).take p,who⟩:Xg))=G (b,r)∧_
       rw[et2]
       exact⟨E,_,rfl,rfl,fun _=>rfl⟩
     ·
      rw[if_neg (by simp[A54]; omega)]
      have hpg:p<gs.length:=by omega
      have hgm:=h3 _ (zB hpg)
      have hnext:∃b r,M3 (F7 fuel) ⟨nn sm,most,nn gs,who⟩ (p:P) (F6 (F7 fuel) ⟨nn sm,most,nn gs,who⟩ n) (nn sm) most (nn gs) who=G (b,r)∧r.most=most∧(b=E→r=⟨nn sm,most,nn gs,who⟩):=by
       unfold M3
       rw[A6y hpg,W,if_neg (by simp; omega),I1 hpg (by rw[E6]; omega)]
       exact ihk (p+1) n (by omega) (by omega)
      unfold O9
      dsimp only
      rw[A6y hpg,W,A6y hsi,W,A92 (by omega) hsm]
      cases hfit:(((K6 gs[p] sm[who.length]:U):P)==0) with
      | false=>rw[if_neg (by simp)]; exact hnext
      | true=>
       rw[if_pos rfl,if_neg (by simp),if_pos (B7c (by simp; omega) (by omega)),B85 (by omega),C5c (by omega) hpw,zD,B0b]
       have hor:gs[p] ||| 2 ^ who.length<2 ^ (who.length+1):=zY (by omega) (by omega)
       have hop:0<gs[p] ||| 2 ^ who.length:=by
        have:= @Nat.left_le_or gs[p] (2 ^ who.length)
        omega
       have hor64:gs[p] ||| 2 ^ who.length<2 ^ 64:=zY (by omega) hpw
       obtain⟨b,r,k1,k2,k3⟩:=ih fuel sm (gs.set p (gs[p] ||| 2 ^ who.length)) most (who++ [(p:P)]) (by simp; omega) (by omega) h1 h2 (fun g hg=>by
        rw[zW,zN]
        rcases List.mem_or_eq_of_mem_set hg with hg|hg
        ·have:=h3 g hg; omega
        ·subst hg; exact⟨hop,hor⟩) (by simp; omega)
       rw[k1,W]
       cases b with
       | true=>exact⟨F,r,by rw[if_pos rfl],k2,fun h=>by cases h⟩
       | false=>
        have:=k3 rfl
        subst this
        rw[if_neg (by simp)]
        simp only[zW,zN]
        have hps:p<(gs.set p (gs[p] ||| 2 ^ who.length)).length:=by simp; omega
        rw[show bnd ((who.length+1:U):P) (who.length:P) 0 (who.length+1)=G (0,who.length) from A4k (by omega),W,A6y hps,W,zZ,if_neg (by simp),A92 hor64 hpw,B0b,D9x hgm.2,List.set_set,D7d (X hpg)]
        have et:(who++ [(p:P)]).take who.length=who:=by simp
        rw[et]
        exact hnext
  exact key (gs.length+1) 0 bigN (by omega) (by rw[Y2]; omega)
section
variable {p : P} {m : H P} {l : H Xd}
end
section
variable {c : X7} {fl : H Xa}
def B7j(c:X7)(p:X5):P × P:=if p.Toward=F then((Q6 c p.Segment).A,(Q6 c p.Segment).B) else((Q6 c p.Segment).B,(Q6 c p.Segment).A)
theorem B3m{p:X5}(h:idx p.Segment c.Segments.length=F):U9 p c=G (B7j c p):=by
 unfold U9 B7j
 rw[(A2b h).1,W]
 split<;>rfl
theorem B5l{p:X5}(hn:∀x∈c.Points,x.Name.length≤maxLen)(hf:∀x∈fl,x.Name.length≤maxLen)(h1:I7 c=F)(h2:A5o fl=F):A2f c fl p=G (A61 c fl p):=by
 unfold A2f
 rw[M2 hn,h1,W,if_pos rfl,B0o hf,h2,W,if_pos rfl,B5i,W]
def B38(c:X7)(p q:X5):Xd:=⟨p.Start,q.End,(B7j c p).1,(B7j c q).2⟩
theorem B3e{p q:X5}(h1:idx p.Segment c.Segments.length=F)(h2:idx q.Segment c.Segments.length=F):A46 c p q=G (B38 c p q):=by
 unfold A46
 rw[B3m h1,W,B3m h2,W]
 rfl
theorem D2m{p:X5}{s:Xa}(h1:idx p.Segment c.Segments.length=F)(all:H X5)(v1:P)(K:P→H Xd→O (H Xd × Q)){T:U}(hT:s.Tugs=(T:P))(hT4:T≤4) :
  ∀(r k n:U) (acc:H Xd),k+r=T→r<n→acc.length≤12+k→O0 fl all v1 s c p K n (k:P) acc =
   if(decide ((12:P)<((acc++zE r (B38 c p p)).length:P))) then G (([]:H Xd),E) else K (yM .i64 (v1+(1:P))) (acc++zE r (B38 c p p)):=by
 intro r
 induction r with
 | zero=>
  intro k n acc hk hn ha
  obtain⟨n,rfl⟩:=sn (n:=n) (by omega)
  rw[O0,if_neg (by rw[hT]; simp; omega)]
  simp
 | succ r ih=>
  intro k n acc hk hn ha
  obtain⟨n,rfl⟩:=sn (n:=n) (by omega)
  rw[O0,if_pos (by rw[hT]; simp; omega),B3e h1 h1,W,if_pos (B7c (by simp; omega) (by omega)),I1 (i:=k) (n:=5) (by omega) (by rw[E6]; omega)]
  have:=ih (k+1) n (acc++ [B38 c p p]) (by omega) (by omega) (by simp; omega)
  refine this.trans ?_
  rw[List.append_assoc]
  rfl
def small(n:P):Prop:= -1≤n∧n≤12
end
end Go.Vi
