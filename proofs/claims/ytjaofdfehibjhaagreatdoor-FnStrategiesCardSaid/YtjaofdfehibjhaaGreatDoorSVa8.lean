/-
Plain law of covers. No condition.
-/
import Derived.Test.YtjaofdfehibjhaaGreatDoorSVi33
import Derived.Test.YtjaofdfehibjhaaGreatDoorSNf
import Derived.KernelRfl
namespace Go.Vi
open Option renaming bind_some → W, some → G
open List renaming getElem?_eq_getElem → X, range → I, getElem_mem → zB, replicate → zE, getElem?_set_ne → zH, getElem?_set_self → zI, range' → zK, length_singleton → zN, all_eq_true → zQ, length_append → zW, mem_range → zX, getElem_set_self → zZ, foldr_cons → yA, getElem?_map → yF, range'_succ → yG
open Bool renaming and_eq_true → Y, false_eq_true → zA, eq_iff_iff → zJ, true_and → zS, or_eq_true → yI, true → F, false → E
open Int renaming tdiv → Z, tdiv_eq_ediv_of_nonneg → C, tmod_eq_emod_of_nonneg → zC, toNat_natCast → zD, ediv_nonneg → zU, mul_le_mul_of_nonneg_right → yB, emod_lt_of_pos → yD, emod_nonneg → yJ, mul_le_mul → yK, tmod → yL
open Nat renaming mod_two_eq_zero_or_one → zF, lt_trans → zG, lt_or_ge → zL, testBit_or → zM, pow_le_pow_right → zO, eq_of_testBit_eq → zP, pow_lt_pow_right → zR, testBit_and → zT, lt_of_lt_of_le → zV, or_lt_two_pow → zY, mul_le_mul → yC, lt_of_le_of_lt → yE, and_div_two → yH
open IntKind renaming wrap → yM
open _root_ renaming List → H, Option → O, Int → P, Bool → Q, Nat → U, UInt8 → V
theorem sn{n:U}(h:0<n):∃q,n=q+1:=⟨n - 1,by omega⟩
set_option linter.all false
def M4(a b:U):U:=a ^^^ (a &&& b)
theorem A65(a b i:U):(M4 a b).testBit i=(a.testBit i&& !b.testBit i):=by
 simp only[M4,Nat.testBit_xor,zT]
 cases a.testBit i<;>cases b.testBit i<;>rfl
theorem B14(n i:U):(2 ^ n).testBit i=decide (n=i):=Nat.testBit_two_pow
theorem B25{s n i:U}(h:s<2 ^ n)(hi:s.testBit i=F):i<n:=by
 rcases zL i n with h1|h1
 ·exact h1
 ·have:s<2 ^ i:=zV h (zO (by omega) h1)
  rw[Nat.testBit_lt_two_pow this] at hi
  cases hi
theorem E5s{s i:U}(hi:s.testBit i=F):i<s:=B25 Nat.lt_two_pow_self hi
theorem D1i(p:U→Q):∀k:U,∃q:U,∀i,q.testBit i=(decide (i<k)&&p i)
 | 0=>⟨0,fun i=>by simp⟩
 | k+1=>by
  obtain⟨q,hq⟩:=D1i p k
  refine⟨q ||| (if p k then 2 ^ k else 0),fun i=> ?_⟩
  rw[zM,hq]
  by_cases hp:p k=F
  ·rw[if_pos hp,B14]
   by_cases h:k=i
   ·subst h; simp[hp]
   ·have:decide (i<k+1)=decide (i<k):=by simp; omega
    simp[h,this]
  ·rw[if_neg hp,Nat.zero_testBit]
   by_cases h:k=i
   ·subst h; simp[hp]
   ·have:decide (i<k+1)=decide (i<k):=by simp; omega
    simp[this]
theorem E8x{q r:U}(h:q &&& r=q){i:U}(hi:q.testBit i=F):r.testBit i=F:=by
 have:=congrArg (fun x=>x.testBit i) h
 simp only[zT,hi,zS] at this
 exact this
theorem C8h{q r:U}(h:∀i,q.testBit i=F→r.testBit i=F):q &&& r=q:=by
 apply zP
 intro i
 rw[zT]
 cases hq:q.testBit i with
 | false=>rfl
 | true=>rw[h i hq]; rfl
theorem D86:∀(n r p q:U),r≤n→p &&& r=p→q &&& r=q→q<p→q≤(p - 1) &&& r:=by
 intro n
 induction n with
 | zero=>
  intro r p q hr hp hq hlt
  have:r=0:=by omega
  subst this
  rw[Nat.and_zero] at hp hq
  omega
 | succ n ih=>
  intro r p q hr hp hq hlt
  by_cases h0:r=0
  ·subst h0
   rw[Nat.and_zero] at hp hq
   omega
  have hp2:(p / 2) &&& (r / 2)=p / 2:=by rw[← yH,hp]
  have hq2:(q / 2) &&& (r / 2)=q / 2:=by rw[← yH,hq]
  have e2:∀a b:U,(a &&& b) % 2=(a % 2)*(b % 2):=fun a b=>by
   have h:=zT a b 0
   simp only[Nat.testBit_zero] at h
   rcases zF a with ha|ha<;>rcases zF b with hb|hb<;>rcases zF (a &&& b) with hc|hc<;>simp_all
  have hpm:=e2 p r
  have hqm:=e2 q r
  rw[hp] at hpm
  rw[hq] at hqm
  have hd:((p - 1) &&& r) / 2=((p - 1) / 2) &&& (r / 2):=yH
  have hm:=e2 (p - 1) r
  rcases zF p with h1|h1
  ·-- an even one
   have i1:=ih (r / 2) (p / 2) (q / 2) (by omega) hp2 hq2 (by omega)
   have e3:(p - 1) / 2=p / 2 - 1:=by omega
   rw[e3] at hd
   have e4:(p - 1) % 2=1:=by omega
   rw[e4,Nat.one_mul] at hm
   have hqr:q % 2≤r % 2:=by
    rcases zF q with h2|h2
    ·omega
    ·rw[h2,Nat.one_mul] at hqm; omega
   omega
  ·have e3:(p - 1) / 2=p / 2:=by omega
   rw[e3,hp2] at hd
   omega
theorem F1r{p r:U}(h:0<p):(p - 1) &&& r<p:=by
 have:= @Nat.and_le_left (p - 1) r
 omega
theorem E7u(p r:U):(p &&& r) &&& r=p &&& r:=by rw[Nat.and_assoc,Nat.and_self]
def Cov(B:U→U→Q)(S m:U):Prop:=∃f:U→U,(∀i,S.testBit i=F→f i<m)∧∀i j,S.testBit i=F→S.testBit j=F→i≠j→f i=f j→B i j=F
def Clq(B:U→U→Q)(S:U):Prop:=∀i j,S.testBit i=F→S.testBit j=F→i≠j→B i j=F
def B2x(B:U→U→Q)(S n:U):Prop:=Cov B S n∧∀m,Cov B S m→n≤m
theorem D8d{B:U→U→Q}{S n:U}(h:S<2 ^ n):Cov B S n:=⟨id,fun i hi=>B25 h hi,fun i j _ _ hne e=>absurd e hne⟩
theorem D4c{B:U→U→Q}:B2x B 0 0:=⟨⟨id,fun i hi=>by simp at hi,fun i j hi=>by simp at hi⟩,fun m _=>Nat.zero_le m⟩
theorem E2h{B:U→U→Q}{S t rest q n:U}(hS:∀i,S.testBit i=F→i=t∨rest.testBit i=F)(hq:Clq B (q ||| 2 ^ t))(h:Cov B (M4 rest q) n):Cov B S (1+n):=by
 obtain⟨f,f1,f2⟩:=h
 have key:∀i,S.testBit i=F→(i=t∨q.testBit i=F)∨(M4 rest q).testBit i=F:=fun i hi=>by
  rcases hS i hi with h|h
  ·exact .inl (.inl h)
  ·cases hb:q.testBit i with
   | true=>exact .inl (.inr rfl)
   | false=>right; rw[A65,h,hb]; rfl
 have hin:∀i,(i=t∨q.testBit i=F)→(q ||| 2 ^ t).testBit i=F:=fun i hi=>by
  rw[zM,B14]
  rcases hi with h|h
  ·simp[h]
  ·simp[h]
 refine⟨fun i=>if i=t∨q.testBit i=F then n else f i,fun i hi=> ?_,fun i j hi hj hne e=> ?_⟩
 ·by_cases hx:i=t∨q.testBit i=F
  ·simp only[hx,if_true]; omega
  ·simp only[hx,if_false]
   rcases key i hi with h|h
   ·exact absurd h hx
   ·have:=f1 i h; omega
 ·by_cases hx:i=t∨q.testBit i=F
  ·by_cases hy:j=t∨q.testBit j=F
   ·exact hq i j (hin i hx) (hin j hy) hne
   ·simp only[hx,hy,if_true,if_false] at e
    have:=f1 j ((key j hj).resolve_left hy)
    omega
  ·by_cases hy:j=t∨q.testBit j=F
   ·simp only[hx,hy,if_true,if_false] at e
    have:=f1 i ((key i hi).resolve_left hx)
    omega
   ·simp only[hx,hy,if_false] at e
    exact f2 i j ((key i hi).resolve_left hx) ((key j hj).resolve_left hy) hne e
theorem D7f{B:U→U→Q}{S t rest m:U}(hS:S.testBit t=F)(hr:∀i,rest.testBit i=F→S.testBit i=F)(h:Cov B S m):∃q n,q &&& rest=q∧Clq B (q ||| 2 ^ t)∧n+1=m∧Cov B (M4 rest q) n:=by
 obtain⟨f,f1,f2⟩:=h
 obtain⟨q,hq⟩:=D1i (fun i=>rest.testBit i&&decide (f i=f t)) rest
 have hq2:∀i,q.testBit i=F↔rest.testBit i=F∧f i=f t:=fun i=>by
  rw[hq i]
  constructor
  ·intro h
   simp only[Y,decide_eq_true_eq] at h
   exact h.2
  ·intro⟨h1,h2⟩
   simp only[Y,decide_eq_true_eq]
   exact⟨E5s h1,h1,h2⟩
 have hm:=f1 t hS
 refine⟨q,m - 1,C8h fun i hi=>((hq2 i).1 hi).1,fun i j hi hj hne=> ?_,by omega,fun i=>if f i=m - 1 then f t else f i,fun i hi=> ?_,fun i j hi hj hne e=> ?_⟩
 ·have side:∀i,(q ||| 2 ^ t).testBit i=F→S.testBit i=F∧f i=f t:=fun i hi=>by
   rw[zM,B14,yI,decide_eq_true_eq] at hi
   rcases hi with h|h
   ·exact⟨hr i ((hq2 i).1 h).1,((hq2 i).1 h).2⟩
   ·subst h; exact⟨hS,rfl⟩
  obtain⟨i1,i2⟩:=side i hi
  obtain⟨j1,j2⟩:=side j hj
  exact f2 i j i1 j1 hne (i2.trans j2.symm)
 ·rw[A65,Y] at hi
  have hne:f i≠f t:=fun e=>by
   have:=(hq2 i).2 ⟨hi.1,e⟩
   rw[this] at hi
   simp at hi
  have:=f1 i (hr i hi.1)
  show(if f i=m - 1 then f t else f i)<m - 1
  split<;>omega
 ·rw[A65,Y] at hi hj
  have hni:f i≠f t:=fun e=>by
   have:=(hq2 i).2 ⟨hi.1,e⟩
   rw[this] at hi
   simp at hi
  have hnj:f j≠f t:=fun e=>by
   have:=(hq2 j).2 ⟨hj.1,e⟩
   rw[this] at hj
   simp at hj
  have e2:f i=f j:=by
   have e:(if f i=m - 1 then f t else f i)=(if f j=m - 1 then f t else f j):=e
   split at e<;>split at e<;>omega
  exact f2 i j (hr i hi.1) (hr j hj.1) hne e2
theorem R7(n lo hi:P):E3 n lo hi=G (decide (lo≤n)&&decide (n≤hi)):=by
 unfold E3
 by_cases h:lo≤n<;>simp[h]
theorem D0x{n bytes:U}(h:n≤1048576)(hb:bytes≤1000):mkS (n:P) (n:P) bytes=G n:=by
 unfold mkS
 have:(n:P)*(bytes:P)≤140737488355328:=by
  have:n*bytes≤1048576*1000:=yC h hb
  have e:((n*bytes:U):P)=(n:P)*(bytes:P):=by simp
  omega
 rw[if_pos ⟨by omega,by omega,this,by omega⟩]
 simp
theorem A02(n:P):G9 n=G (decide (0≤n)&&decide (n≤2880)):=by simp[G9,R7]
theorem C4a{len:U}(p:U→Q)(K:O Q):∀(k i:U),(zK i k).foldr (fun i r=>if p i=F then r else G E) K=if(zK i k).all p=F then K else G E
 | 0,i=>by simp
 | k+1,i=>by
  rw[yG,yA,C4a (len:=len) p K k (i+1),List.all_cons]
  cases p i<;>rfl
theorem C3s{len:U}(p:U→Q)(K:O Q):∀(k i:U),(zK i k).foldr (fun i r=>if p i=F then G E else r) K=if(zK i k).any p=F then G E else K
 | 0,i=>by simp
 | k+1,i=>by
  rw[yG,yA,C3s (len:=len) p K k (i+1),List.any_cons]
  cases p i<;>rfl
theorem B2u{L:U→P→O Q}(len:U)(p:U→Q)(K:O Q)(hl:len≤maxLen)
  (hs:∀(n i:U),i<len→L (n+1) (i:P)=if p i=F then L n (yM .i64 ((i:P)+1)) else G E) (he:∀n,L (n+1) (len:P)=K):L bigN 0=if(I len).all p=F then K else G E:=by
 have:=A9f L len hl (fun i r=>if p i=F then r else G E) K hs he len 0 bigN (by omega) (D7 hl)
 rw[C4a (len:=len),← List.range_eq_range'] at this
 exact this
theorem D6s{L:U→P→O Q}(len:U)(p:U→Q)(K:O Q)(hl:len≤maxLen)
  (hs:∀(n i:U),i<len→L (n+1) (i:P)=if p i=F then G E else L n (yM .i64 ((i:P)+1))) (he:∀n,L (n+1) (len:P)=K):L bigN 0=if(I len).any p=F then G E else K:=by
 have:=A9f L len hl (fun i r=>if p i=F then G E else r) K hs he len 0 bigN (by omega) (D7 hl)
 rw[C3s (len:=len),← List.range_eq_range'] at this
 exact this
def D4i(s:H V)(i:U):Q:=match s[i]? with
 | some b=>(decide (97≤(b.toNat:P))&&decide ((b.toNat:P)≤122)) || (!(decide (i=0))&&(decide (48≤(b.toNat:P))&&decide ((b.toNat:P)≤57)))
 | none=>E
def D5f(s:H V):Q:=decide (1≤(s.length:P))&&decide ((s.length:P)≤8)
def A6x(s:H V):Q:=D5f s&&(I s.length).all (D4i s)
theorem E30(c:P)(K:O Q)(z':Q)(z:P)(i:U)(hz:z=(i:P)) :
  (if decide (97≤c)=F then(if decide (c≤122)=F then K else if(z==0)=F then G E else if decide (c<48)=F then G E else if decide (57<c)=F then G E else K)
   else if E=F then K else if(z==0)=F then G E else if decide (c<48)=F then G E else if decide (57<c)=F then G E else K) =
  if((decide (97≤c)&&decide (c≤122)) || (!(decide (i=0))&&(decide (48≤c)&&decide (c≤57))))=F then K else G E:=by
 subst hz
 have e0:(((i:U):P)==0)=decide (i=0):=by rw[zJ]; simp
 have e1:decide (c<48)= !decide (48≤c):=by rw[zJ]; simp
 have e2:decide (57<c)= !decide (c≤57):=by rw[zJ]; simp
 rw[e0,e1,e2]
 cases decide (i=0)<;>cases decide (97≤c)<;>cases decide (c≤122)<;>cases decide (48≤c)<;>cases decide (c≤57)<;>rfl
theorem B3o{s:H V}(h:s.length≤maxLen):A42 s=G (A6x s):=by
 unfold A42
 rw[R7]
 rw[B2u (L:=Q8 s) s.length (D4i s) (G F) h (fun n i hi=> ?_) (fun n=>by simp[Q8])]
 ·unfold A6x D5f
  simp only[W]
  cases(I s.length).all (D4i s)<;>cases(decide (1≤(s.length:P))&&decide ((s.length:P)≤8))<;>simp
 ·simp only[Q8,A5f,A5g,S5,D4i,X hi,W,C8,hi,decide_true,if_true]
  exact E30 _ _ F (i:P) i rfl
theorem B3m{R:Type}(p:U→Q)(f:U→R)(z:R):∀(k i:U),(zK i k).foldr (fun i r=>if p i=F then G (f i) else r) (G z)=G ((zK i k).foldr (fun i r=>if p i=F then f i else r) z)
 | 0,i=>by simp
 | k+1,i=>by
  rw[yG,yA,B3m p f z k (i+1),yA]
  cases p i<;>simp
def E0r(xs:H Xd)(s:H V)(i:U):Q:=match xs[i]? with
 | some x=>decide (x.Name=s)
 | none=>E
def C22(xs:H Xd)(s:H V):P:=(zK 0 xs.length).foldr (fun i r=>if E0r xs s i=F then(i:P) else r) (-1)
theorem B5x{c:X9}{s:H V}(h:c.Points.length≤maxLen):A3c c s=G (C22 c.Points s):=by
 unfold A3c
 exact(A9f (U3 s c) c.Points.length h (fun i r=>if E0r c.Points s i=F then G (i:P) else r) (G (-1)) (fun n i hi=>by simp[U3,S5,hi,E0r]) (fun n=>by simp[U3]) c.Points.length 0 bigN (by omega) (D7 h)).trans (B3m _ _ _ _ _)
def jn(y:X3)(a b:P):Q:=(decide (y.A=a)&&decide (y.B=b)) || (decide (y.A=b)&&decide (y.B=a))
theorem C43(y:X3)(a b:P):A1a y a b=G (jn y a b):=by
 unfold A1a jn
 by_cases h1:y.A=a<;>by_cases h2:y.B=b<;>by_cases h3:y.A=b<;>by_cases h4:y.B=a<;>simp_all
theorem A79(i n:P):D9 i n=G (decide (0≤i)&&decide (i<n)):=by
 unfold D9
 by_cases h:0≤i<;>simp[h]
def idx(i:P)(n:U):Q:=decide (0≤i)&&decide (i<(n:P))
def B0a(c:X9)(i:U):Q:=match c.Segments[i]? with
 | some x=>idx x.A c.Points.length&&(idx x.B c.Points.length&&(!(decide (x.A=x.B))&&((decide (0≤x.Depth)&&decide (x.Depth≤3000))&&((decide (1≤x.Minutes)&&decide (x.Minutes≤240))&& !((I i).any fun j=>match c.Segments[j]? with | some y=>jn y x.A x.B | none=>E)))))
 | none=>E
def C8o(c:X9)(i:U):Q:=match c.Points[i]? with
 | some x=>A6x x.Name&&decide (C22 c.Points x.Name=(i:P))
 | none=>E
def J4(c:X9):Q:=decide (c.Points.length≤8)&&(decide (c.Segments.length≤10)&&((I c.Points.length).all (C8o c)&&(I c.Segments.length).all (B0a c)))
theorem A5q{n i:U}(h:i≤n):bnd (n:P) (i:P) (0:P) n=G (0,i):=by
 unfold bnd
 rw[if_pos ⟨by omega,by omega,by omega,by omega⟩]
 simp
theorem E6w{α:Type}{l:H α}{i j:U}(hj:j<i):(l.take i)[j]?=l[j]?:=by simp[List.getElem?_take,hj]
theorem O2{c:X9}(hn:∀x∈c.Points,x.Name.length≤maxLen):N8 c=G (J4 c):=by
 unfold N8 J4
 by_cases h1:c.Points.length≤8
 ·have h1':¬(8:P)<c.Points.length:=by omega
  by_cases h2:c.Segments.length≤10
  ·have h2':¬(10:P)<c.Segments.length:=by omega
   have hp:c.Points.length≤maxLen:=by rw[G0]; omega
   have hs:c.Segments.length≤maxLen:=by rw[G0]; omega
   have inner:M3 c bigN 0=G ((I c.Segments.length).all (B0a c)):=by
    rw[B2u (L:=M3 c) c.Segments.length (B0a c) (G F) hs (fun n i hi=> ?_) (fun n=>by simp[M3])]
    ·cases(I c.Segments.length).all (B0a c)<;>rfl
    ·simp only[M3,S5,X hi,W,C8,hi,decide_true,if_true,R7,A79,show ∀(a:P) (n:U),(decide (0≤a)&&decide (a<(n:P)))=idx a n from fun _ _=>rfl,A5q (Nat.le_of_lt hi),B0a,List.drop_zero,Nat.sub_zero]
     have hl:(c.Segments.take i).length=i:=by simp; omega
     rw[hl]
     rw[D6s (L:=A0m c i c.Segments[i] (c.Segments.take i) (i:P) (M3 c n)) i (fun j=>match c.Segments[j]? with | some y=>jn y c.Segments[i].A c.Segments[i].B | none=>E)
      (M3 c n (yM .i64 ((i:P)+1))) (by omega) (fun m j hj=>by
       have hj2:j<c.Segments.length:=by omega
       simp only[A0m,S5,E6w hj,X hj2,W,C8,hj,decide_true,if_true,C43]) (fun m=>by simp[A0m])]
     have e:(c.Segments[i].A==c.Segments[i].B)=decide (c.Segments[i].A=c.Segments[i].B):=rfl
     rw[e]
     cases idx c.Segments[i].A c.Points.length<;>cases idx c.Segments[i].B c.Points.length<;>cases decide (c.Segments[i].A=c.Segments[i].B)<;>cases(decide (0≤c.Segments[i].Depth)&&decide (c.Segments[i].Depth≤3000)) <;>
      cases(decide (1≤c.Segments[i].Minutes)&&decide (c.Segments[i].Minutes≤240))<;>cases((I i).any fun j=>match c.Segments[j]? with | some y=>jn y c.Segments[i].A c.Segments[i].B | none=>E)<;>rfl
   rw[B2u (L:=A0f c) c.Points.length (C8o c) _ hp (fun n i hi=> ?_) (fun n=>by simp only[A0f,Int.lt_irrefl,decide_false,zA,if_false]; exact inner)]
   ·simp only[h1,h2,h1',h2',decide_true,decide_false,zS,zA,if_false]
    cases(I c.Points.length).all (C8o c)<;>rfl
   ·simp only[A0f,S5,X hi,W,C8,hi,decide_true,if_true,B3o (hn _ (zB hi)),B5x hp,C8o]
    by_cases e:C22 c.Points c.Points[i].Name=(i:P)<;>cases A6x c.Points[i].Name<;>simp[e]
  ·have h2':(10:P)<c.Segments.length:=by omega
   simp[h1,h1',h2,h2']
 ·have h1':(8:P)<c.Points.length:=by omega
  simp[h1,h1']
theorem C7o{s:H V}(h:A6x s=F):1≤s.length∧s.length≤8:=by
 simp only[A6x,D5f,Y,decide_eq_true_eq] at h
 omega
def A2p(s:Xc):Q:=A6x s.Name&&((decide (10≤s.Length)&&decide (s.Length≤400))&&((decide (100≤s.Draught)&&decide (s.Draught≤2000))&&((decide (0≤s.Line)&&decide (s.Line≤3))&&(decide (0≤s.Tugs)&&decide (s.Tugs≤4)))))
theorem E8q(a b:Q):(if a=F then G b else G E)=G (a&&b):=by cases a<;>rfl
theorem A3z{s:Xc}(h:s.Name.length≤maxLen):Y1 s=G (A2p s):=by
 have e:(decide (0≤s.Line)&&decide (s.Line<4))=(decide (0≤s.Line)&&decide (s.Line≤3)):=by
  congr 1
  rw[zJ]; simp; omega
 simp only[Y1,B3o h,R7,A79,W,E8q,A2p,e]
theorem D5j{s:Xc}(h:A2p s=F):A6x s.Name=F∧i64 s.Length∧i64 s.Draught∧i64 s.Line∧i64 s.Tugs:=by
 simp only[A2p,Y,decide_eq_true_eq] at h
 unfold i64
 exact⟨h.1,by omega,by omega,by omega,by omega⟩
def B4h(xs:H Xc)(s:H V)(i:U):Q:=match xs[i]? with
 | some x=>decide (x.Name=s)
 | none=>E
def A68(xs:H Xc)(s:H V):P:=(zK 0 xs.length).foldr (fun i r=>if B4h xs s i=F then(i:P) else r) (-1)
theorem B72{xs:H Xc}{s:H V}(h:xs.length≤maxLen):A35 xs s=G (A68 xs s):=by
 unfold A35
 exact(A9f (V8 s xs) xs.length h (fun i r=>if B4h xs s i=F then G (i:P) else r) (G (-1)) (fun n i hi=>by simp[V8,S5,hi,B4h]) (fun n=>by simp[V8]) xs.length 0 bigN (by omega) (D7 h)).trans (B3m _ _ _ _ _)
def C8g(xs:H Xc)(i:U):Q:=match xs[i]? with
 | some x=>A2p x&&decide (A68 xs x.Name=(i:P))
 | none=>E
def A74(xs:H Xc):Q:=decide (xs.length≤6)&&(I xs.length).all (C8g xs)
theorem D0l(a b:P):(a !=b)= !decide (a=b):=rfl
theorem B2y{xs:H Xc}(hn:∀x∈xs,x.Name.length≤maxLen):A3u xs=G (A74 xs):=by
 unfold A3u A74
 by_cases h:xs.length≤6
 ·have h':¬(6:P)<xs.length:=by omega
  have hm:xs.length≤maxLen:=by rw[G0]; omega
  simp only[h,h',decide_true,decide_false,zA,if_false,zS]
  refine D54 (L:=A0k xs) xs.length (C8g xs) hm (fun n i hi=> ?_) (fun n=>by simp[A0k])
  simp only[A0k,C8,hi,decide_true,if_true,D8 hi,W,A3z (hn _ (zB hi)),B72 hm,C8g,X hi,D0l]
  cases A2p xs[i]<;>by_cases e:A68 xs xs[i].Name=(i:P)<;>simp[e]
 ·have h':(6:P)<xs.length:=by omega
  simp[h,h']
theorem A96{xs:H Xc}(h:A74 xs=F):xs.length≤6∧∀x∈xs,A2p x=F:=by
 simp only[A74,Y,decide_eq_true_eq,zQ,zX] at h
 refine⟨h.1,fun x hx=> ?_⟩
 obtain⟨i,hi,rfl⟩:=List.getElem_of_mem hx
 have:=h.2 i hi
 simp only[C8g,X hi,Y] at this
 exact this.1
def S4(x:X3)(s:Xc):P:=if s.Slow=F then yM .i64 (2*x.Minutes) else x.Minutes
def spl(c:V):H V→H V→H (H V)
 | cur,[]=> [cur]
 | cur,b::r=>if b=c then cur::spl c [] r else spl c (cur++ [b]) r
def split(c:V)(s:H V):H (H V):=spl c [] s
theorem A5c(x:X3)(s:Xc):M7 s x=G (S4 x s):=by unfold M7 S4; split<;>rfl
def U9(c:X9)(i:P):X3:=c.Segments[i.toNat]?.getD ⟨0,0,0,0,E⟩
def A39(l:H Xc)(i:P):Xc:=l[i.toNat]?.getD ⟨[],0,0,0,0,E⟩
theorem C9d{α:Type}{l:H α}{i:P}(d:α)(h:idx i l.length=F):ix l i=G (l[i.toNat]?.getD d)∧l[i.toNat]?.getD d∈l:=by
 simp only[idx,Y,decide_eq_true_eq] at h
 obtain⟨k,rfl⟩:∃k:U,i=(k:P):=⟨i.toNat,by omega⟩
 have hk:k<l.length:=by omega
 have e:l[((k:U):P).toNat]?.getD d=l[k]:=by simp[hk]
 rw[D8 hk,e]
 exact⟨rfl,zB hk⟩
theorem A4e{c:X9}{i:P}(h:idx i c.Segments.length=F):ix c.Segments i=G (U9 c i)∧U9 c i∈c.Segments:=C9d _ h
theorem B3y{l:H Xc}{i:P}(h:idx i l.length=F):ix l i=G (A39 l i)∧A39 l i∈l:=C9d _ h
theorem A28(i:P)(n:U):D9 i (n:P)=G (idx i n):=A79 i n
def B2l(p:P):Q:=(decide (4≤p)&&decide (p≤2880))&&(yM .i64 (yL p 4)==0)
def A8j(x:Xe):Q:=(decide (0≤x.Amp)&&decide (x.Amp≤1000))&&(B2l x.Period&&(decide (0≤x.Phase)&&decide (x.Phase≤yM .i64 (x.Period - 1))))
def A8p(t:Xn):Q:=(decide (-1000≤t.Mean)&&decide (t.Mean≤1000))&&(decide (t.Parts.length≤4)&&t.Parts.all A8j)
theorem B8p(p:P):A2y p=G (B2l p):=by
 simp only[A2y,R7,W,B2l]
 cases(decide (4≤p)&&decide (p≤2880))<;>rfl
theorem C15(x:Xe):A62 x=G (A8j x):=by
 simp only[A62,R7,B8p,W,A8j]
 cases(decide (0≤x.Amp)&&decide (x.Amp≤1000))<;>cases B2l x.Period<;>rfl
theorem C2y(t:Xn):A61 t=G (A8p t):=by
 simp only[A61,R7,W,A8p]
 cases(decide (-1000≤t.Mean)&&decide (t.Mean≤1000)) with
 | false=>rfl
 | true=>
  by_cases h1:t.Parts.length≤4
  ·have h1':¬(4:P)<t.Parts.length:=by omega
   rw[B4z (L:=A09 t) t.Parts A8j (by rw[G0]; omega) (fun n i hi=>by simp only[A09,S5,X hi,W,C8,hi,decide_true,if_true,C15]) (fun n=>by simp[A09])]
   simp[h1,h1']
  ·have h1':(4:P)<t.Parts.length:=by omega
   simp[h1,h1']
def B7n(x p:P):P:=if x<yM .i64 (Z p 2) then
  yM .i64 (Z (yM .i64 (yM .i64 (40000*x)*yM .i64 (yM .i64 (Z p 2) - x))) (yM .i64 (yM .i64 (Z p 2)*yM .i64 (Z p 2))))
 else yM .i64 (0 - yM .i64 (Z (yM .i64 (yM .i64 (40000*yM .i64 (x - yM .i64 (Z p 2)))*yM .i64 (yM .i64 (Z p 2) - yM .i64 (x - yM .i64 (Z p 2))))) (yM .i64 (yM .i64 (Z p 2)*yM .i64 (Z p 2)))))
theorem C3i{p:P}(h:B2l p=F):4≤p∧p≤2880∧yM .i64 (yL p 4)=0:=by
 simp only[B2l,Y,decide_eq_true_eq,beq_iff_eq] at h
 exact⟨h.1.1,h.1.2,h.2⟩
theorem D11{p:P}(h1:4≤p)(h2:p≤2880):(yM .i64 (yM .i64 (Z p 2)*yM .i64 (Z p 2))==0)=E:=by
 have e:Z p 2=p / 2:=C (by omega)
 rw[e,A7 (n:=p / 2) (by omega) (by omega)]
 generalize hq:p / 2=q
 have q1:2≤q:=by omega
 have q2:q≤1440:=by omega
 have m1:2*2≤q*q:=yK q1 q1 (by omega) (by omega)
 have m2:q*q≤1440*1440:=yK q2 q2 (by omega) (by omega)
 rw[A7 (by omega) (by omega)]
 simp only[beq_eq_false_iff_ne,ne_eq]
 omega
theorem C8e{n p:P}(hp:B2l p=F)(hn:0≤n)(hn2:n≤100000):A8h n p=G (B7n (yL n p) p):=by
 obtain⟨p1,p2,p3⟩:=C3i hp
 have hm:yL n p=n % p:=zC hn
 have r1:=yJ n (show p≠0 by omega)
 have r2:=yD n (show 0<p by omega)
 have k3:(p==0)=E:=by simp; omega
 have hmm:yL (n % p+p) p=n % p:=by
  rw[zC (by omega),Int.add_emod_right,Int.emod_emod]
 unfold A8h
 rw[B8p,hp,W,hm,A7 (n:=n % p) (by omega) (by omega),A7 (n:=n % p+p) (by omega) (by omega),hmm,A7 (n:=n % p) (by omega) (by omega),D11 p1 p2]
 simp only[k3,zA,if_false,if_true,decide_eq_true_eq]
 unfold B7n
 by_cases hx:n % p<yM .i64 (Z p 2)
 ·rw[if_pos hx,if_neg (by omega)]
 ·rw[if_neg hx,if_pos (by omega)]
def A69(x:X6):Q:=(decide (0≤x.From)&&decide (x.From≤2880))&&((decide (-500≤x.Low)&&decide (x.Low≤500))&&(decide (x.Low≤x.High)&&decide (x.High≤500)))
theorem C0v(x:X6):A57 x=G (A69 x):=by
 simp only[A57,A02,W,A69]
 cases(decide (0≤x.From)&&decide (x.From≤2880))
 ·rfl
 ·by_cases a1: -500≤x.Low<;>by_cases a2:x.Low≤x.High<;>by_cases a3:x.High≤500<;>by_cases a4:x.Low≤500<;>simp[a1,a2,a3,a4]
  omega
def B4k(l:H X6)(i:U):Q:=match l[i]? with
 | some x=>A69 x&&(match i with | 0=>F | j+1=>match l[j]? with | some y=> !(decide (x.From≤y.From)) | none=>E)
 | none=>E
def B40(l:H X6):Q:=match l[0]? with
 | some x=>decide (x.From=0)
 | none=>E
def A00(f:X8):Q:=A8p f.Tide&&((decide (1≤(f.Surges.length:P))&&decide ((f.Surges.length:P)≤6))&&(B40 f.Surges&&(I f.Surges.length).all (B4k f.Surges)))
theorem B67(j:U)(h:j≤1000):yM .i64 (((j+1:U):P) - 1)=(j:P):=by
 rw[A7 (by omega) (by omega)]
 omega
theorem W3(f:X8):I4 f=G (A00 f):=by
 simp only[I4,C2y,R7,W,A00]
 cases A8p f.Tide with
 | false=>rfl
 | true=>
  cases hb:(decide (1≤(f.Surges.length:P))&&decide ((f.Surges.length:P)≤6)) with
  | false=>rfl
  | true=>
   simp only[Y,decide_eq_true_eq] at hb
   have h0:0<f.Surges.length:=by omega
   have hl:f.Surges.length≤maxLen:=by rw[G0]; omega
   rw[B2u (L:=P0 f) f.Surges.length (B4k f.Surges) (G F) hl (fun n i hi=> ?_) (fun n=>by simp[P0])]
   ·have e0:ix f.Surges 0=G f.Surges[0]:=D8 h0
    simp only[e0,W,B40,X h0,zS,if_true]
    by_cases e:f.Surges[0].From=0<;>cases(I f.Surges.length).all (B4k f.Surges)<;>simp[e]
   ·simp only[P0,S5,X hi,W,C8,hi,decide_true,if_true,C0v,B4k]
    cases i with
    | zero=>cases A69 f.Surges[0]<;>simp
    | succ j=>
     have hj:j<f.Surges.length:=by omega
     rw[B67 j (by omega)]
     simp only[S5,X hj,W]
     have hp:(0:P)<((j+1:U):P):=by omega
     cases A69 f.Surges[j+1]<;>cases decide (f.Surges[j+1].From≤f.Surges[j].From)<;>simp
theorem A8x{f:X8}(h:A00 f=F):A8p f.Tide=F∧0<f.Surges.length∧f.Surges.length≤6:=by
 simp only[A00,Y,decide_eq_true_eq] at h
 refine⟨h.1,?_,?_⟩<;>omega
def A5s(m:P):Q:=decide (0≤m)&&decide (m≤2880)
theorem D2c{a b:P}(hb:1≤b){B:P}(h1: -B≤a)(h2:a≤B): -B≤Z a b∧Z a b≤B:=by
 have hB:0≤B:=by omega
 by_cases ha:0≤a
 ·rw[C ha]
  have:=zU ha (show 0≤b by omega)
  have:=Int.ediv_le_self b ha
  omega
 ·obtain⟨c,rfl⟩:∃c,a= -c:=⟨-a,by omega⟩
  rw[Int.neg_tdiv,C (by omega)]
  have:=zU (show 0≤c by omega) (show 0≤b by omega)
  have:=Int.ediv_le_self b (show 0≤c by omega)
  omega
theorem B23{a b A B:P}(a1: -A≤a)(a2:a≤A)(b1: -B≤b)(b2:b≤B): -(A*B)≤a*b∧a*b≤A*B:=by
 have hA:0≤A:=by omega
 have hB:0≤B:=by omega
 have h:(a*b).natAbs≤(A*B).natAbs:=by
  rw[Int.natAbs_mul,Int.natAbs_mul]
  exact yC (by omega) (by omega)
 have hp:0≤A*B:=Int.mul_nonneg hA hB
 omega
theorem D4d{x p:P}(h0:0≤x)(hx:x<p)(p1:4≤p)(p2:p≤2880): -200000000000≤B7n x p∧B7n x p≤200000000000:=by
 have e:Z p 2=p / 2:=C (by omega)
 unfold B7n
 rw[e,A7 (n:=p / 2) (by omega) (by omega)]
 generalize hq:p / 2=q
 have q1:2≤q:=by omega
 have q2:q≤1440:=by omega
 have qq:=B23 (a:=q) (b:=q) (A:=1440) (B:=1440) (by omega) (by omega) (by omega) (by omega)
 have q4:2*2≤q*q:=yK q1 q1 (by omega) (by omega)
 rw[A7 (n:=q*q) (by omega) (by omega)]
 have key:∀y:P,-3000≤y→y≤3000→ -200000000000≤Z (yM .i64 (yM .i64 (40000*y)*yM .i64 (q - y))) (q*q)∧Z (yM .i64 (yM .i64 (40000*y)*yM .i64 (q - y))) (q*q)≤200000000000*5:=by
  intro y y1 y2
  rw[A7 (n:=40000*y) (by omega) (by omega),A7 (n:=q - y) (by omega) (by omega)]
  have m:=B23 (a:=40000*y) (b:=q - y) (A:=120000000) (B:=5000) (by omega) (by omega) (by omega) (by omega)
  rw[A7 (by omega) (by omega)]
  have t:=D2c (b:=q*q) (show 1≤q*q by omega) (B:=600000000000) (a:=40000*y*(q - y)) (by omega) (by omega)
  have t4:∀a:P,-600000000000≤a→a≤600000000000→ -150000000000≤Z a (q*q)∧Z a (q*q)≤150000000000:=by
   intro a a1 a2
   have hd:∀c:P,0≤c→c≤600000000000→0≤c / (q*q)∧c / (q*q)≤150000000000:=by
    intro c c1 c2
    refine⟨zU c1 (by omega),?_⟩
    have h3:=Int.mul_ediv_self_le (x:=c) (k:=q*q) (by omega)
    have h4:0≤c / (q*q):=zU c1 (by omega)
    have h5:4*(c / (q*q))≤q*q*(c / (q*q)):=yB (by omega) h4
    omega
   by_cases ha:0≤a
   ·rw[C ha]
    have:=hd a ha a2
    omega
   ·obtain⟨c,rfl⟩:∃c,a= -c:=⟨-a,by omega⟩
    rw[Int.neg_tdiv,C (by omega)]
    have:=hd c (by omega) (by omega)
    omega
  have:=t4 (40000*y*(q - y)) (by omega) (by omega)
  omega
 have key2:∀y:P,-3000≤y→y≤3000→ -150000000000≤Z (yM .i64 (yM .i64 (40000*y)*yM .i64 (q - y))) (q*q)∧Z (yM .i64 (yM .i64 (40000*y)*yM .i64 (q - y))) (q*q)≤150000000000:=by
  intro y y1 y2
  rw[A7 (n:=40000*y) (by omega) (by omega),A7 (n:=q - y) (by omega) (by omega)]
  have m:=B23 (a:=40000*y) (b:=q - y) (A:=120000000) (B:=5000) (by omega) (by omega) (by omega) (by omega)
  rw[A7 (by omega) (by omega)]
  have hd:∀c:P,0≤c→c≤600000000000→0≤c / (q*q)∧c / (q*q)≤150000000000:=by
   intro c c1 c2
   have h4:0≤c / (q*q):=zU c1 (by omega)
   refine⟨h4,?_⟩
   have h3:=Int.mul_ediv_self_le (x:=c) (k:=q*q) (by omega)
   have h5:4*(c / (q*q))≤q*q*(c / (q*q)):=yB (by omega) h4
   omega
  generalize hz:40000*y*(q - y)=z at m
  by_cases ha:0≤z
  ·rw[C ha]
   have:=hd z ha (by omega)
   omega
  ·obtain⟨c,rfl⟩:∃c,z= -c:=⟨-z,by omega⟩
   rw[Int.neg_tdiv,C (by omega)]
   have:=hd c (by omega) (by omega)
   omega
 split
 ·have:=key2 x (by omega) (by omega)
  rw[A7 (by omega) (by omega)]
  omega
 ·rw[A7 (n:=x - q) (by omega) (by omega)]
  have:=key2 (x - q) (by omega) (by omega)
  rw[A7 (n:=Z _ _) (by omega) (by omega),A7 (by omega) (by omega)]
  omega
theorem A92{f:X8}(hf:A00 f=F)(a:U)(ha:a<f.Surges.length): -500≤f.Surges[a].Low∧f.Surges[a].Low≤500∧f.Surges[a].Low≤f.Surges[a].High∧f.Surges[a].High≤500:=by
 simp only[A00,Y,zQ,zX] at hf
 have:=hf.2.2.2 a ha
 simp only[B4k,X ha,Y,A69,decide_eq_true_eq] at this
 omega
def B32(w:Xp):Q:=(decide (0≤w.Tugs)&&decide (w.Tugs≤12))&&((decide (0≤w.Pilots)&&decide (w.Pilots≤12))&&(A5s w.Rest&&(decide (w.Moves.length=64)&&w.Moves.all fun x=>decide (0≤x)&&decide (x≤240))))
theorem D0q(a b:Q):(if a=F then G b else G E)=G (a&&b):=by cases a<;>rfl
theorem B90{l:H P}(h:l.length≤maxLen):Y0 l bigN 0=G (l.all fun x=>decide (0≤x)&&decide (x≤240)):=
 B4z (L:=Y0 l) l _ h (fun n i hi=>by simp[Y0,S5,hi,R7]) (fun n=>by simp[Y0])
theorem C2o{w:Xp}(h:w.Moves.length≤maxLen):A6v w=G (B32 w):=by
 simp only[A6v,A0u,R7,A02,W,B90 h,B32,A5s]
 by_cases e:w.Moves.length=64
 ·have e':((w.Moves.length:P) !=64)=E:=by simp; omega
  simp only[e,e',zA,if_false,decide_true,zS,W]
  cases(decide (0≤w.Tugs)&&decide (w.Tugs≤12))<;>cases(decide (0≤w.Pilots)&&decide (w.Pilots≤12))<;>cases(decide (0≤w.Rest)&&decide (w.Rest≤2880))<;>rfl
 ·have e':((w.Moves.length:P) !=64)=F:=by simp; omega
  simp only[e,e',if_true,decide_false,Bool.false_and,Bool.and_false,W]
  cases(decide (0≤w.Tugs)&&decide (w.Tugs≤12))<;>cases(decide (0≤w.Pilots)&&decide (w.Pilots≤12))<;>cases(decide (0≤w.Rest)&&decide (w.Rest≤2880))<;>rfl
def D4z(r:Xm):Q:=decide (0≤r.Gap)&&decide (r.Gap≤60)
def L8(h:X4):Q:=A00 h.Forecast&&(J4 h.Chart&&(A74 h.Fleet&&(D4z h.Regime&&B32 h.Crew)))
structure HSmall (h:X4):Prop where
 pn:∀x∈h.Chart.Points,x.Name.length≤maxLen
 fn:∀x∈h.Fleet,x.Name.length≤maxLen
 mv:h.Crew.Moves.length≤maxLen
theorem A3b{h:X4}(s:HSmall h):W4 h=G (L8 h):=by
 simp only[W4,A7g,W3,O2 s.pn,B2y s.fn,C2o s.mv,R7,W,D0q,L8,D4z]
theorem B6e{c:X9}(h:J4 c=F):c.Points.length≤8∧c.Segments.length≤10∧∀x∈c.Segments,0≤x.Depth∧x.Depth≤3000∧1≤x.Minutes∧x.Minutes≤240:=by
 simp only[J4,Y,decide_eq_true_eq,zQ,zX] at h
 obtain⟨h1,h2,h3,h4⟩:=h
 refine⟨h1,h2,fun x hx=> ?_⟩
 obtain⟨i,hi,rfl⟩:=List.getElem_of_mem hx
 have:=h4 i hi
 simp only[B0a,X hi,Y,decide_eq_true_eq] at this
 omega
def A9h(c:X9)(fl:H Xc)(p:X5):Q:=idx p.Ship fl.length&&(idx p.Segment c.Segments.length&&(A5s p.Start&&(decide (p.End≤2880)&&decide (p.End=yM .i64 (p.Start+S4 (U9 c p.Segment) (A39 fl p.Ship))))))
theorem B8g{c:X9}{fl:H Xc}{p:X5}:A32 c fl p=G (A9h c fl p):=by
 unfold A32
 simp only[A28,W,A02,A9h,A5s]
 cases h3:idx p.Ship fl.length with
 | false=>simp
 | true=>
  cases h4:idx p.Segment c.Segments.length with
  | false=>simp
  | true=>
   cases h5:decide (0≤p.Start)&&decide (p.Start≤2880) with
   | false=>simp
   | true=>
    simp only[if_true,zS,(B3y h3).1,(A4e h4).1,W,A5c]
    have e0:decide (2880<p.End)= !decide (p.End≤2880):=by rw[zJ]; simp
    rw[e0]
    cases decide (p.End≤2880)<;>simp
    rfl
theorem B2b{c:X9}{fl:H Xc}{p:X5}(hc:J4 c=F)(h:A9h c fl p=F):idx p.Ship fl.length=F∧idx p.Segment c.Segments.length=F∧0≤p.Start∧p.Start≤p.End∧p.End≤2880:=by
 simp only[A9h,A5s,Y,decide_eq_true_eq] at h
 obtain⟨h3,h4,h5,h6,h7⟩:=h
 refine⟨h3,h4,h5.1,?_,h6⟩
 obtain⟨_,_,a,b⟩:=(B6e hc).2.2 _ (A4e h4).2
 rw[h7]
 unfold S4
 split
 ·rw[A7 (n:=2*_) (by omega) (by omega),A7 (by omega) (by omega)]; omega
 ·rw[A7 (by omega) (by omega)]; omega
def E2y(s:Xc):P:=if s.Slow=F then yM .i64 (Z s.Draught 50) else yM .i64 (Z s.Draught 20)
def C6h(c:X9)(i:P)(s:Xc):P:=yM .i64 (yM .i64 (yM .i64 (s.Draught+E2y s)+50) - (U9 c i).Depth)
theorem B9o{c:X9}{s:Xc}{i:P}(hn:∀x∈c.Points,x.Name.length≤maxLen)(hs:s.Name.length≤maxLen)(h1:J4 c=F)(h2:A2p s=F)(h3:idx i c.Segments.length=F):A44 c i s=G (C6h c i s):=by
 unfold A44 A2b A6p A5w
 simp only[O2 hn,A3z hs,h1,h2,W,if_true,A28,h3,(A4e h3).1,C6h,E2y]
 cases s.Slow<;>rfl
structure CurOk (c:X1):Prop where
 i0:0≤c.i
 i1:c.i≤(c.b.length:P)
 len:c.b.length≤maxLen
theorem C0e(x:P):0≤K6 .and .i64 x 255∧K6 .and .i64 x 255≤255:=by
 have h:(BitVec.ofInt IntKind.i64.bits x &&& BitVec.ofInt IntKind.i64.bits 255).toNat≤255:=by
  rw[BitVec.toNat_and]
  exact Nat.le_trans Nat.and_le_right (by decide)
 have e:K6 .and .i64 x 255=((BitVec.ofInt IntKind.i64.bits x &&& BitVec.ofInt IntKind.i64.bits 255).toNat:P):=by
  unfold K6
  exact A7 (by omega) (by omega)
 rw[e]
 omega
theorem B3t{c:X1}(h:CurOk c):∃v c',Y4 c=G (v,c')∧CurOk c'∧0≤v∧v≤255:=by
 unfold Y4
 have hl:=h.len
 rw[G0] at hl
 by_cases hlt:c.i<(c.b.length:P)
 ·obtain⟨i,hi⟩:∃i:U,c.i=(i:P):=⟨c.i.toNat,by have:=h.i0; omega⟩
  have h2:i<c.b.length:=by omega
  simp only[hlt,decide_true,if_true]
  rw[hi,D8 h2]
  simp only[W]
  refine⟨_,_,rfl,⟨?_,?_,h.len⟩,(C0e _).1,(C0e _).2⟩
  ·show 0≤yM .i64 ((i:P)+1)
   rw[A7 (by omega) (by omega)]; omega
  ·show yM .i64 ((i:P)+1)≤(c.b.length:P)
   rw[A7 (by omega) (by omega)]; omega
 ·simp only[hlt,decide_false,zA,if_false]
  exact⟨_,_,rfl,⟨h.i0,h.i1,h.len⟩,(C0e _).1,(C0e _).2⟩
theorem F2{c:X1}{n:P}(h:CurOk c)(hn:n≤1000000):∃v c',A4 c n=G (v,c')∧CurOk c'∧0≤v∧(0<n→v<n)∧(n≤0→v=0):=by
 unfold A4
 by_cases h0:n≤0
 ·simp only[h0,decide_true,if_true]
  exact⟨0,c,rfl,h,by omega,fun h=>by omega,fun _=>rfl⟩
 simp only[h0,decide_false,zA,if_false]
 have hne:(n==0)=E:=by simpa using fun e:n=0=>h0 (by omega)
 by_cases h1:n≤256
 ·obtain⟨v,c',e,k1,k2,k3⟩:=B3t h
  simp only[h1,decide_true,if_true,e,W,hne,zA,if_false]
  have hm:=yJ v (b:=n) (by omega)
  have hm2:=yD v (b:=n) (by omega)
  refine⟨_,_,rfl,k1,?_,?_,fun h=>by first | exact h.elim | exact absurd h h0⟩
  ·rw[zC k2,A7 (by omega) (by omega)]; exact hm
  ·intro _; rw[zC k2,A7 (by omega) (by omega)]; exact hm2
 ·obtain⟨v1,c1,e1,a1,a2,a3⟩:=B3t h
  obtain⟨v2,c2,e2,b1,b2,b3⟩:=B3t a1
  obtain⟨v3,c3,e3,d1,d2,d3⟩:=B3t b1
  obtain⟨v4,c4,e4,g1,g2,g3⟩:=B3t d1
  simp only[h1,decide_false,zA,if_false,e1,e2,e3,e4,W,hne]
  rw[A7 (n:=v1*16777216) (by omega) (by omega),A7 (n:=v2*65536) (by omega) (by omega),A7 (n:=v3*256) (by omega) (by omega),A7 (n:=v1*16777216+v2*65536) (by omega) (by omega),
   A7 (n:=v1*16777216+v2*65536+v3*256) (by omega) (by omega),A7 (n:=v1*16777216+v2*65536+v3*256+v4) (by omega) (by omega)]
  have k2:0≤v1*16777216+v2*65536+v3*256+v4:=by omega
  have hm:=yJ (v1*16777216+v2*65536+v3*256+v4) (b:=n) (by omega)
  have hm2:=yD (v1*16777216+v2*65536+v3*256+v4) (b:=n) (by omega)
  refine⟨_,_,rfl,g1,?_,?_,fun h=>by first | exact h.elim | exact absurd h h0⟩
  ·rw[zC k2,A7 (by omega) (by omega)]; exact hm
  ·intro _; rw[zC k2,A7 (by omega) (by omega)]; exact hm2
theorem F1u{a:H P}(ha:a.length≤maxLen):∃c,A6s a=G c∧CurOk c:=by
 unfold A6s
 have key:∀(k i n:U) (v:P),i+k=a.length→k<n→∃c,A1b a n v (i:P)=G c∧CurOk c:=by
  intro k
  induction k with
  | zero=>
   intro i n v hi hn
   obtain⟨m,rfl⟩:=sn (n:=n) (by omega)
   have:i=a.length:=by omega
   subst this
   exact⟨_,by simp[A1b,A22]; rfl,⟨by simp,by simp,ha⟩⟩
  | succ k ih=>
   intro i n v hi hn
   obtain⟨m,rfl⟩:=sn (n:=n) (by omega)
   have hlt:i<a.length:=by omega
   simp only[A1b,C8,hlt,decide_true,if_true,D8 hlt,W,E5 hlt ha]
   by_cases h4:(i:P)<4000
   ·simp only[h4,decide_true,if_true]
    exact ih (i+1) m _ (by omega) (by omega)
   ·simp only[h4,decide_false,zA,if_false,A22]
    exact⟨_,rfl,⟨by simp,by simp,ha⟩⟩
 exact key a.length 0 bigN _ (by omega) (D7 ha)
theorem A67{c:X1}{n:P}(h:CurOk c)(hn:n≤1000000):∃b c',I3 c n=G (b,c')∧CurOk c':=by
 obtain⟨v,c',e,h1,_⟩:=F2 h hn
 refine⟨_,c',by simp only[I3,e,W]; rfl,h1⟩
def C8u(s:X3):Q:=(decide (0≤s.Depth)&&decide (s.Depth≤3000))&&(decide (1≤s.Minutes)&&decide (s.Minutes≤240))
def C1t(s:X3):X3:=⟨s.A,s.B,0,1,s.Meet⟩
def C23(c:X9):X9:=⟨c.Points,c.Segments.map C1t⟩
theorem E0y{c:X9}{i:U}(hi:i<c.Segments.length)(h:B0a (C23 c) i=F)(hs:C8u c.Segments[i]=F):B0a c i=F:=by
 have e:∀(A B:P),((I i).any fun j=>match (c.Segments.map C1t)[j]? with | some y=>jn y A B | none=>E)=((I i).any fun j=>match c.Segments[j]? with | some y=>jn y A B | none=>E):=by
  intro A B
  congr 1
  funext j
  rw[yF]
  cases c.Segments[j]?<;>rfl
 have hb:(C23 c).Segments[i]?=G (C1t c.Segments[i]):=by
  show(c.Segments.map C1t)[i]?=_
  rw[yF,X hi]
  rfl
 unfold B0a at h ⊢
 rw[hb] at h
 rw[X hi]
 simp only[Y] at h ⊢
 obtain⟨h1,h2,h3,_,_,h6⟩:=h
 simp only[C8u,Y] at hs
 refine⟨h1,h2,h3,hs.1,hs.2,?_⟩
 have h6':(!((I i).any fun j=>match (c.Segments.map C1t)[j]? with | some y=>jn y c.Segments[i].A c.Segments[i].B | none=>E))=F:=h6
 rw[e] at h6'
 exact h6'
theorem B06{c:X9}(h1:J4 (C23 c)=F)(h2:∀s∈c.Segments,C8u s=F):J4 c=F:=by
 unfold J4 at h1 ⊢
 simp only[Y] at h1 ⊢
 obtain⟨a1,a2,a3,a4⟩:=h1
 refine⟨a1,?_,a3,?_⟩
 ·have:(C23 c).Segments.length=c.Segments.length:=by simp[C23]
  rw[this] at a2
  exact a2
 ·rw[zQ] at a4 ⊢
  intro i hi
  have hlt:i<c.Segments.length:=zX.1 hi
  exact E0y hlt (a4 i (by rw[zX]; simpa[C23] using hlt)) (h2 _ (zB hlt))
theorem C5h{A B d m:P}{b:Q}(h1:0≤d∧d≤3000)(h2:1≤m∧m≤240):C8u ⟨A,B,d,m,b⟩=F:=by
 simp only[C8u,Y,decide_eq_true_eq]
 exact⟨h1,h2⟩
theorem E4p{m n b:U}(h:m+n≤2000000)(hb:b≤1000):B9 m n b=F:=by
 unfold B9
 rw[decide_eq_true_eq]
 have:(m+n)*b≤2000000*1000:=yC h hb
 omega
theorem ifa{α:Type}{m n b:U}(h:m+n≤2000000)(hb:b≤1000)(x y:α):(if B9 m n b=F then x else y)=x:=by rw[if_pos (E4p h hb)]
theorem D9v{n:P}(h0:0≤n)(h1:n<18446744073709551616):IntKind.u64.wrap n=n:=by
 simp only[IntKind.wrap,IntKind.bits,IntKind.signed]
 have:n % 18446744073709551616=n:=Int.emod_eq_of_lt h0 h1
 simp[this]
theorem A5z{n:U}(h:n<2 ^ 63):yM .i64 (n:P)=n:=A7 (by omega) (by omega)
theorem B1k{n:U}(h:n<2 ^ 64):IntKind.u64.wrap (n:P)=n:=D9v (by omega) (by omega)
theorem A9g{s n:U}(h:∀i,s.testBit i=F→i<n):s<2 ^ n:=Nat.lt_pow_two_of_testBit s fun i hi=>by
 cases hb:s.testBit i with
 | false=>rfl
 | true=>have:=h i hb; omega
theorem D1c{a b n:U}(h:a<2 ^ n):M4 a b<2 ^ n:=A9g fun i hi=>by
 rw[A65,Y] at hi
 exact B25 h hi.1
theorem A6e{w n:U}(h:n<2 ^ w):(BitVec.ofInt w (n:P)).toNat=n:=by
 rw[BitVec.ofInt_natCast,BitVec.toNat_ofNat,Nat.mod_eq_of_lt h]
theorem D1g{w a b:U}(ha:a<2 ^ w)(hb:b<2 ^ w):(BitVec.ofInt w (a:P) &&& ~~~ BitVec.ofInt w (b:P)).toNat=M4 a b:=by
 rw[BitVec.toNat_and,BitVec.toNat_not,A6e ha,A6e hb]
 apply zP
 intro i
 rw[show 2 ^ w - 1 - b=2 ^ w - (b+1) by omega,zT,Nat.testBit_two_pow_sub_succ hb,A65]
 cases hi:a.testBit i with
 | false=>rfl
 | true=>simp[B25 ha hi]
theorem E51{a b:U}(ha:a<2 ^ 63)(hb:b<2 ^ 63):K6 .and .i64 (a:P) (b:P)=((a &&& b:U):P):=by
 show yM .i64 ((BitVec.ofInt 64 (a:P) &&& BitVec.ofInt 64 (b:P)).toNat:P)=_
 rw[BitVec.toNat_and,A6e (zG ha (by decide)),A6e (zG hb (by decide)),A5z (Nat.and_lt_two_pow a hb)]
theorem E9m{a b:U}(ha:a<2 ^ 63)(hb:b<2 ^ 63):K6 .or .i64 (a:P) (b:P)=((a ||| b:U):P):=by
 show yM .i64 ((BitVec.ofInt 64 (a:P) ||| BitVec.ofInt 64 (b:P)).toNat:P)=_
 rw[BitVec.toNat_or,A6e (zG ha (by decide)),A6e (zG hb (by decide)),A5z (zY ha hb)]
theorem C9h{a b:U}(ha:a<2 ^ 63)(hb:b<2 ^ 63):K6 .andNot .i64 (a:P) (b:P)=((M4 a b:U):P):=by
 show yM .i64 ((BitVec.ofInt 64 (a:P) &&& ~~~ BitVec.ofInt 64 (b:P)).toNat:P)=_
 rw[D1g (zG ha (by decide)) (zG hb (by decide)),A5z (D1c ha)]
theorem C7x{a b:U}(ha:a<2 ^ 64)(hb:b<2 ^ 64):K6 .or .u64 (a:P) (b:P)=((a ||| b:U):P):=by
 show IntKind.u64.wrap ((BitVec.ofInt 64 (a:P) ||| BitVec.ofInt 64 (b:P)).toNat:P)=_
 rw[BitVec.toNat_or,A6e ha,A6e hb,B1k (zY ha hb)]
theorem B1v{a b:U}(ha:a<2 ^ 64)(hb:b<2 ^ 64):K6 .andNot .u64 (a:P) (b:P)=((M4 a b:U):P):=by
 show IntKind.u64.wrap ((BitVec.ofInt 64 (a:P) &&& ~~~ BitVec.ofInt 64 (b:P)).toNat:P)=_
 rw[D1g ha hb,B1k (D1c ha)]
theorem B7x{n:U}(h:n≤20):A1v .i64 (1:P) (n:P)=((2 ^ n:U):P):=by
 have hp:2 ^ n<2 ^ 63:=zR (by omega) (by omega)
 unfold A1v
 rw[zD,show min n IntKind.i64.bits=n by simp[IntKind.bits]; omega,Int.one_mul]
 have:((2:P) ^ n)=((2 ^ n:U):P):=by simp
 rw[this,A5z hp]
theorem C20{n:U}(h:n≤20):A1v .u64 (1:P) (n:P)=((2 ^ n:U):P):=by
 have hp:2 ^ n<2 ^ 64:=zR (by omega) (by omega)
 unfold A1v
 rw[zD,show min n IntKind.u64.bits=n by simp[IntKind.bits]; omega,Int.one_mul]
 have:((2:P) ^ n)=((2 ^ n:U):P):=by simp
 rw[this,B1k hp]
theorem E0d(n:U):((n:P)==(0:P))=decide (n=0):=by
 rw[zJ]
 simp
def D6p:H V:= [0,1,2,2,3,3,3,3,4,4,4,4,4,4,4,4,5,5,5,5,5,5,5,5,5,5,5,5,5,5,5,5,6,6,6,6,6,6,6,6,6,6,6,6,6,6,6,6,6,6,6,6,6,6,6,6,6,6,6,6,6,6,6,6,7,7,7,7,7,7,7,7,7,7,7,7,7,7,7,7,7,7,7,7,7,7,7,7,7,7,7,7,7,7,7,7,7,7,7,7,7,7,7,7,7,7,7,7,7,7,7,7,7,7,7,7,7,7,7,7,7,7,7,7,7,7,7,7,8,8,8,8,8,8,8,8,8,8,8,8,8,8,8,8,8,8,8,8,8,8,8,8,8,8,8,8,8,8,8,8,8,8,8,8,8,8,8,8,8,8,8,8,8,8,8,8,8,8,8,8,8,8,8,8,8,8,8,8,8,8,8,8,8,8,8,8,8,8,8,8,8,8,8,8,8,8,8,8,8,8,8,8,8,8,8,8,8,8,8,8,8,8,8,8,8,8,8,8,8,8,8,8,8,8,8,8,8,8,8,8,8,8,8,8,8,8,8,8,8,8,8,8,8,8,8,8]
theorem E68(v8 v9:P):A0b v8 v9=(ix D6p (IntKind.u8.wrap v8)).bind fun b10=>G (yM .i64 (v9+(yM .i64 (b10.toNat:P)))):=rfl
def D07(x:U):Q:=match D6p[x]? with
 | some b=>decide (b.toNat≤8)&&(decide (x<2 ^ b.toNat)&&(x==0 || (decide (1≤b.toNat)&&decide (2 ^ (b.toNat - 1)≤x))))
 | none=>E
theorem C9r:(I 256).all D07=F:=by kernel_rfl
theorem E99{x:U}(hx:x<256)(n:P):∃l:U,A0b (x:P) n=G (yM .i64 (n+(l:P)))∧l≤8∧x<2 ^ l∧(0<x→1≤l∧2 ^ (l - 1)≤x):=by
 have h:=zQ.1 C9r x (by simpa using hx)
 unfold D07 at h
 split at h
 ·rename_i b hb
  simp only[Y,decide_eq_true_eq,yI,beq_iff_eq] at h
  have hw:IntKind.u8.wrap (x:P)=(x:P):=by
   simp only[IntKind.wrap,IntKind.bits,IntKind.signed]
   have:(x:P) % 256=x:=Int.emod_eq_of_lt (by omega) (by omega)
   simp[this]
  refine⟨b.toNat,?_,h.1,h.2.1,fun h0=> ?_⟩
  ·rw[E68,hw,S5,hb,W,A5z (n:=b.toNat) (by omega)]
  ·rcases h.2.2 with h3|h3
   ·omega
   ·exact h3
 ·cases h
theorem F00{s:U}(h1:1≤s)(h2:s<4096):∃t:U,A25 (s:P)=G ((t+1:U):P)∧2 ^ t≤s∧s<2 ^ (t+1)∧t<12:=by
 have key:∃l:U,A25 (s:P)=G ((l:U):P)∧1≤l∧2 ^ (l - 1)≤s∧s<2 ^ l:=by
  unfold A25 A5x
  rw[if_neg (by simp; omega)]
  unfold A14
  rw[if_neg (by simp; omega)]
  unfold A10
  by_cases hs:s<256
  ·rw[if_neg (by simp; omega)]
   obtain⟨l,e,l8,a1,a2⟩:=E99 hs 0
   obtain⟨a3,a4⟩:=a2 h1
   refine⟨l,?_,a3,a4,a1⟩
   rw[e,W,Int.zero_add,A5z (by omega)]
  ·rw[if_pos (by simp; omega)]
   have e8:A1f .u64 (s:P) 8=((s / 256:U):P):=by
    unfold A1f
    rw[show min 8 IntKind.u64.bits=8 by rfl,Int.fdiv_eq_ediv_of_nonneg _ (by decide)]
    have:((s:P) / 2 ^ 8)=((s / 256:U):P):=by simp
    rw[this,B1k (by omega)]
   have e9:yM .i64 ((0:P)+8)=((8:U):P):=by rw[A7 (by omega) (by omega)]; rfl
   rw[e8,e9]
   obtain⟨l,e,l8,a1,a2⟩:=E99 (x:=s / 256) (by omega) ((8:U):P)
   obtain⟨a3,a4⟩:=a2 (by omega)
   refine⟨8+l,?_,by omega,?_,?_⟩
   ·have:((8:U):P)+(l:P)=((8+l:U):P):=by omega
    rw[e,W,this,A5z (by omega)]
   ·rw[show 8+l - 1=(l - 1)+8 by omega,Nat.pow_add]
    omega
   ·rw[Nat.add_comm,Nat.pow_add]
    omega
 obtain⟨l,e,a1,a2,a3⟩:=key
 obtain⟨t,rfl⟩:=sn (n:=l) (by omega)
 refine⟨t,e,by simpa using a2,a3,?_⟩
 rcases zL t 12 with h|h
 ·exact h
 ·have:=zO (show 0<2 by omega) h
  simp at a2
  omega
theorem B9i{s t:U}(h1:2 ^ t≤s)(h2:s<2 ^ (t+1)):s.testBit t=F∧M4 s (2 ^ t)<2 ^ t∧(∀i,(M4 s (2 ^ t)).testBit i=F→s.testBit i=F)∧(∀i,s.testBit i=F→i=t∨(M4 s (2 ^ t)).testBit i=F):=by
 have hb:∀i,(M4 s (2 ^ t)).testBit i=(s.testBit i&& !decide (t=i)):=fun i=>by rw[A65,B14]
 refine⟨Nat.testBit_of_two_pow_le_and_two_pow_add_one_gt h1 h2,A9g fun i hi=> ?_,fun i hi=> ?_,fun i hi=> ?_⟩
 ·rw[hb,Y] at hi
  have:=B25 h2 hi.1
  have h3:t≠i:=by simpa using hi.2
  omega
 ·rw[hb,Y] at hi
  exact hi.1
 ·by_cases h:i=t
  ·exact .inl h
  ·right
   rw[hb,hi]
   simpa using fun e:t=i=>h e.symm
theorem C3f{α β R:Type}{L:U→P→H β→O R}(xs:H α)(g:α→β)(K:H β→O R)(hl:xs.length≤maxLen)
  (hs:∀(n i:U) (acc:H β) (h:i<xs.length),acc.length=i→L (n+1) (i:P) acc=L n (yM .i64 ((i:P)+1)) (acc++ [g xs[i]])) (he:∀n acc,acc.length=xs.length→L (n+1) (xs.length:P) acc=K acc):L bigN 0 []=K (xs.map g):=by
 have key:∀(k i n:U) (acc:H β),i+k=xs.length→k<n→acc=(xs.take i).map g→L n (i:P) acc=K (xs.map g):=by
  intro k
  induction k with
  | zero=>
   intro i n acc hi hn ha
   obtain⟨m,rfl⟩:=sn (n:=n) (by omega)
   have:i=xs.length:=by omega
   subst this
   rw[List.take_length] at ha
   rw[he m acc (by rw[ha]; simp),ha]
  | succ k ih=>
   intro i n acc hi hn ha
   obtain⟨m,rfl⟩:=sn (n:=n) (by omega)
   have hlt:i<xs.length:=by omega
   rw[hs m i acc hlt (by rw[ha]; simp; omega),E5 hlt hl]
   refine ih (i+1) m _ (by omega) (by omega) ?_
   rw[List.take_succ_eq_append_getElem hlt,List.map_append,ha]
   rfl
 exact key xs.length 0 bigN [] (by omega) (D7 hl) (by simp)
def A52(d:Xg):Q:=decide (0≤d.From)&&(decide (d.From<d.To)&&(decide (d.To≤2880)&&((decide (0≤d.A)&&decide (d.A<8))&&(decide (0≤d.B)&&decide (d.B<8)))))
theorem E4y{R:Type}(a b c d e:Q)(x y:R):(if(!a)=F then y else if(!b)=F then y else if(!c)=F then y else if d=F then(if e=F then x else y) else y)=if(a&&(b&&(c&&(d&&e))))=F then x else y:=by
 cases a<;>cases b<;>cases c<;>cases d<;>cases e<;>rfl
theorem A38{l:H Xg}:A08 l=G (decide (l.length≤12)&&l.all A52):=by
 unfold A08
 by_cases h:l.length≤12
 ·rw[if_neg (by simp; omega),B4z (L:=Y8 l) l A52 (by rw[G0]; omega) (fun n i hi=> ?_) (fun n=>by simp[Y8])]
  ·simp[h]
  ·simp only[Y8,C8,hi,decide_true,if_true,D8 hi,W,A79,A52]
   generalize l[i]=d
   have g1:decide (d.From<0)= !decide (0≤d.From):=by by_cases h:0≤d.From<;>simp[h]<;>omega
   have g2:decide (d.To≤d.From)= !decide (d.From<d.To):=by by_cases h:d.From<d.To<;>simp[h]<;>omega
   have g3:decide (2880<d.To)= !decide (d.To≤2880):=by by_cases h:d.To≤2880<;>simp[h]<;>omega
   simp only[g1,g2,g3]
   exact E4y _ _ _ _ _ _ _
 ·rw[if_pos (by simp; omega)]
  simp[h]
def C1a(m:H P):Q:=decide (m.length=64)&&m.all fun x=>decide (0≤x)&&decide (x≤240)
def B4e(p:P)(m:H P):Q:=A5s p&&C1a m
theorem B0r{m:H P}(h:m.length≤maxLen):A0u m=G (C1a m):=by
 unfold A0u C1a
 rw[B90 h]
 by_cases h1:m.length=64
 ·simp[h1]
 ·have:((m.length:P) !=64)=F:=by simpa using(by omega:¬((m.length:P)=64))
  simp[h1,this]
theorem B6k(p:P):G9 p=G (A5s p):=by rw[A02]; rfl
def fol(p:P)(m:H P)(d e:Xg):Q:=decide (yM .i64 (d.To+yM .i64 (p+m[(8*d.B+e.A).toNat]?.getD 0))≤e.From)
theorem C11{d:Xg}(h:A52 d=F):0≤d.From∧d.From<d.To∧d.To≤2880∧0≤d.A∧d.A<8∧0≤d.B∧d.B<8:=by
 simp only[A52,Y,decide_eq_true_eq] at h
 omega
theorem D8m{m:H P}(hm:C1a m=F){b a:P}(h0:0≤b)(h1:b<8)(h2:0≤a)(h3:a<8):ix m (8*b+a)=G (m[(8*b+a).toNat]?.getD 0):=by
 simp only[C1a,Y,decide_eq_true_eq] at hm
 obtain⟨k,hk⟩:∃k:U,8*b+a=(k:P):=⟨(8*b+a).toNat,by omega⟩
 rw[hk,S5,zD,X (by omega)]
 rfl
theorem B33{p:P}{m:H P}{d e:Xg}(hl:m.length≤maxLen)(ht:B4e p m=F)(hd:A52 d=F)(he:A52 e=F):A2h p m d e=G (fol p m d e):=by
 obtain⟨_,_,_,_,_,b0,b1⟩:=C11 hd
 obtain⟨_,_,_,a0,a1,_,_⟩:=C11 he
 have ht':=ht
 simp only[B4e,Y] at ht'
 unfold A2h B03
 have c1:(decide (0≤d.B)&&decide (d.B<8))=F:=by simp; omega
 have c2:(decide (0≤e.A)&&decide (e.A<8))=F:=by simp; omega
 have o1:(decide ([d].length≤12)&& [d].all A52)=F:=by simp[hd]
 have o2:(decide ([e].length≤12)&& [e].all A52)=F:=by simp[he]
 rw[B6k,ht'.1,W,if_pos rfl,B0r hl,ht'.2,W,if_pos rfl,A79,c1,W,if_pos rfl,A79,c2,W]
 unfold A36
 rw[if_neg (by simp),A7 (n:=8*d.B) (by omega) (by omega),A7 (n:=8*d.B+e.A) (by omega) (by omega),D8m ht'.2 b0 b1 a0 a1,W,W,if_pos rfl,A38,o1,W,if_pos rfl,A38,o2,W,if_pos rfl]
 rfl
def B41(p:P)(m:H P)(l:H Xg)(i k:U):Q:=match l[i]?,l[k]? with
 | some d,G e=>fol p m d e || fol p m e d
 | _,_=>E
theorem D7g(p:P)(m:H P)(l:H Xg)(i k:U):B41 p m l i k=B41 p m l k i:=by
 unfold B41
 cases l[i]?<;>cases l[k]?<;>simp[Bool.or_comm]
theorem C1m{n m b:U}(h:n+m≤1000000)(hb:b≤100):B9 n m b=F:=by
 unfold B9
 have:(n+m)*b≤1000000*100:=yC h hb
 simp
 omega
def nn(ms:H U):H P:=ms.map fun x:U=>(x:P)
theorem A8k(ms:H U):(nn ms).length=ms.length:=by simp[nn]
theorem A85{ms:H U}{i:U}(h:i<ms.length):ix (nn ms) (i:P)=G ((ms[i]:U):P):=by
 rw[S5,nn,yF,X h]; rfl
theorem B1x(ms:H U)(i a:U):(nn ms).set i (a:P)=nn (ms.set i a):=by simp[nn,List.map_set]
theorem E9c(ms:H U)(a:U):nn ms++ [(a:P)]=nn (ms++ [a]):=by simp[nn]
section
variable {p : P} {m : H P} {l : H Xg}
theorem E5z{i k:U}(hi:i<l.length)(hk:k<l.length):B41 p m l i k=(fol p m l[i] l[k] || fol p m l[k] l[i]):=by
 unfold B41
 rw[X hi,X hk]
def adj(p:P)(m:H P)(l:H Xg)(i j:U):Q:=decide (j<l.length)&&(decide (i≠j)&&B41 p m l i j)
theorem D1n(hl:m.length≤maxLen)(ht:B4e p m=F)(hd:∀d∈l,A52 d=F)(hN:l.length≤12)(K:P→H P→O (H P)){i:U}(hi:i<l.length)(ms:H U)(hms:ms.length=l.length) :
  ∀(r k n a:U),k+r=l.length→r<n→(∀j,a.testBit j=(decide (j<k)&&(decide (i≠j)&&B41 p m l i j)))→
   ∃q,(∀j,q.testBit j=adj p m l i j)∧H0 p m l (i:P) l[i] K n (k:P) (nn (ms.set i a))=K (yM .i64 ((i:P)+1)) (nn (ms.set i q)):=by
 have hm:l.length≤maxLen:=by rw[G0]; omega
 intro r
 induction r with
 | zero=>
  intro k n a hk hn ha
  obtain⟨n,rfl⟩:=sn (n:=n) (by omega)
  refine⟨a,fun j=> ?_,?_⟩
  ·rw[ha,show k=l.length by omega]; rfl
  ·rw[H0,if_neg (by simp; omega)]
 | succ r ih=>
  intro k n a hk hn ha
  obtain⟨n,rfl⟩:=sn (n:=n) (by omega)
  have hlt:k<l.length:=by omega
  have a12:a<2 ^ 12:=A9g fun j hj=>by
   rw[ha,Y,decide_eq_true_eq] at hj; omega
  have step:∀v:Q,v=(decide (i≠k)&&B41 p m l i k)→∃q,(∀j,q.testBit j=adj p m l i j)∧Z4 p m l (i:P) (k:P) l[i] (nn (ms.set i a)) (H0 p m l (i:P) l[i] K n) v=K (yM .i64 ((i:P)+1)) (nn (ms.set i q)):=by
   intro v hv
   unfold Z4
   cases v with
   | true=>
    rw[if_pos rfl,A85 (by simp; omega),W,if_neg (by simp),C20 (by omega),zZ]
    have h12:2 ^ k<2 ^ 64:=zR (by omega) (by omega)
    rw[C7x (zG a12 (by decide)) h12,zD,B1x,List.set_set,E5 hlt hm]
    refine ih (k+1) n _ (by omega) (by omega) fun j=> ?_
    rw[zM,ha,B14]
    by_cases hjk:k=j
    ·subst hjk
     have hx:¬i=k∧B41 p m l i k=F:=by simpa using hv.symm
     simp[hx.1,hx.2]
    ·have e:decide (j<k+1)=decide (j<k):=decide_eq_decide.2 (by omega)
     rw[e]
     simp[hjk]
   | false=>
    rw[if_neg (by simp),E5 hlt hm]
    refine ih (k+1) n a (by omega) (by omega) fun j=> ?_
    rw[ha]
    by_cases hjk:k=j
    ·subst hjk
     rw[← hv]
     simp
    ·have e:decide (j<k+1)=decide (j<k):=decide_eq_decide.2 (by omega)
     rw[e]
  rw[H0,C8,if_pos (by simpa using hlt),D8 hlt,W]
  by_cases hik:i=k
  ·subst hik
   rw[if_neg (by simp)]
   exact step E (by simp)
  ·have hne:((i:P) !=(k:P))=F:=by simp; omega
   rw[if_pos hne,B33 hl ht (hd _ (zB hi)) (hd _ (zB hlt)),W]
   have hb:=E5z (p:=p) (m:=m) hi hlt
   cases hf:fol p m l[i] l[k] with
   | true=>
    rw[if_pos rfl]
    exact step F (by rw[hb,hf]; simp[hik])
   | false=>
    rw[if_neg (by simp),B33 hl ht (hd _ (zB hlt)) (hd _ (zB hi)),W]
    exact step _ (by rw[hb,hf]; simp[hik])
theorem B89(hl:m.length≤maxLen)(ht:B4e p m=F)(hd:∀d∈l,A52 d=F)(hN:l.length≤12):∃ms:H U,ms.length=l.length∧(∀i j:U,i<l.length→(ms[i]?.getD 0).testBit j=adj p m l i j)∧A5e p m l=G (nn ms):=by
 have hm:l.length≤maxLen:=by rw[G0]; omega
 have key:∀(r i n:U) (ms:H U),i+r=l.length→r<n→ms.length=l.length→(∀i' j:U,i'<i→(ms[i']?.getD 0).testBit j=adj p m l i' j)→(∀i':U,i≤i'→ms[i']?.getD 0=0)→
   ∃ms':H U,ms'.length=l.length∧(∀i j:U,i<l.length→(ms'[i]?.getD 0).testBit j=adj p m l i j)∧N3 p m l n (i:P) (nn ms)=G (nn ms'):=by
  intro r
  induction r with
  | zero=>
   intro i n ms hi hn hms h1 h2
   obtain⟨n,rfl⟩:=sn (n:=n) (by omega)
   exact⟨ms,hms,fun i' j h=>h1 i' j (by omega),by rw[N3,if_neg (by simp; omega)]⟩
  | succ r ih=>
   intro i n ms hi hn hms h1 h2
   obtain⟨n,rfl⟩:=sn (n:=n) (by omega)
   have hlt:i<l.length:=by omega
   obtain⟨q,hq,e⟩:=D1n hl ht hd hN (N3 p m l n) hlt ms hms l.length 0 bigN 0 (by omega) (D7 hm) (fun j=>by simp)
   have e0:ms.set i 0=ms:=by
    have h3:=h2 i (Nat.le_refl _)
    rw[X (by omega)] at h3
    have h3:ms[i]'(by omega)=0:=h3
    apply List.ext_getElem (by simp)
    intro j hj1 hj2
    by_cases hij:i=j
    ·subst hij; simp[h3]
    ·rw[List.getElem_set_ne hij]
   rw[e0] at e
   rw[N3,C8,if_pos (by simpa using hlt),D8 hlt,W]
   have e:H0 p m l (i:P) l[i] (N3 p m l n) bigN 0 (nn ms)=_:=e
   rw[e,E5 hlt hm]
   refine ih (i+1) n (ms.set i q) (by omega) (by omega) (by simpa using hms) (fun i' j h=> ?_) (fun i' h=> ?_)
   ·by_cases hii:i=i'
    ·subst hii
     rw[zI (by omega)]
     exact hq j
    ·rw[zH hii]
     exact h1 i' j (by omega)
   ·rw[zH (by omega)]
    exact h2 i' (by omega)
 unfold A5e
 rw[D0x (by omega) (by omega),W]
 have hz:zE l.length (0:P)=nn (zE l.length 0):=by simp[nn]
 rw[hz]
 exact key l.length 0 bigN _ (by omega) (D7 hm) (by simp) (fun i' j h=>by omega) (fun i' h=>by
  rw[List.getElem?_replicate]
  split<;>rfl)
end
section
variable {B : U → U → Q} {N : U} {ms : H U}
def F81(B:U→U→Q)(N:U)(ms:H U):Prop:=ms.length=N∧∀i j:U,i<N→(ms[i]?.getD 0).testBit j=(decide (j<N)&&(decide (i≠j)&&B i j))
theorem E0x:Clq B 0:=fun i j hi=>by simp at hi
theorem E7x(hB:∀i j,B i j=B j i){s t:U}(h1:2 ^ t≤s)(h2:s<2 ^ (t+1)):Clq B s↔Clq B (M4 s (2 ^ t))∧∀i,(M4 s (2 ^ t)).testBit i=F→B t i=F:=by
 obtain⟨a1,a2,a3,a4⟩:=B9i h1 h2
 constructor
 ·intro h
  exact⟨fun i j hi hj=>h i j (a3 i hi) (a3 j hj),fun i hi=>h t i a1 (a3 i hi) (by have:=B25 a2 hi; omega)⟩
 ·rintro⟨k1,k2⟩ i j hi hj hne
  rcases a4 i hi with rfl|hi
  ·rcases a4 j hj with rfl|hj
   ·exact absurd rfl hne
   ·exact k2 j hj
  ·rcases a4 j hj with rfl|hj
   ·rw[hB]; exact k2 i hi
   ·exact k1 i j hi hj hne
theorem B65{a b:U}:M4 a b=0↔∀i,a.testBit i=F→b.testBit i=F:=by
 constructor
 ·intro h i hi
  have:=A65 a b i
  rw[h,hi] at this
  cases hb:b.testBit i with
  | true=>rfl
  | false=>rw[hb] at this; simp at this
 ·intro h
  apply zP
  intro i
  rw[A65,Nat.zero_testBit]
  cases hi:a.testBit i with
  | false=>rfl
  | true=>rw[h i hi]; rfl
theorem D0p(a b:U):M4 a b≤a:=by
 rcases zL a (M4 a b) with h|h
 ·obtain⟨i,h1,h2⟩:=Nat.exists_testBit_ne_of_ne (Nat.ne_of_lt h) |>.elim fun i hi=>(⟨i,hi,⟨⟩⟩:∃i,a.testBit i≠(M4 a b).testBit i∧True)
  exfalso
  have:M4 a b &&& a=M4 a b:=C8h fun i hi=>by
   rw[A65,Y] at hi
   exact hi.1
  have h3:= @Nat.and_le_right (M4 a b) a
  omega
 ·exact h
def E0o(B:U→U→Q)(tg:H Q)(s:U):Prop:=∀x,x<s→(tg[x]?.getD E=F↔Clq B x)
def E8f(B:U→U→Q)(ls:H U)(s:U):Prop:=∀x,x<s→B2x B x (ls[x]?.getD 0)
theorem C8n(hN:N≤12){x n:U}(hx:x<2 ^ N)(h:B2x B x n):n≤12:=Nat.le_trans (h.2 N (D8d hx)) hN
theorem C7e{tg:H Q}{x:U}(h:x<tg.length):ix tg (x:P)=G (tg[x]?.getD E):=by
 rw[S5,X h]; rfl
theorem C67{ls:H U}{x:U}(h:x<ls.length):ix (nn ls) (x:P)=G (((ls[x]?.getD 0:U)):P):=by
 rw[A85 h,X h]; rfl
theorem E3d(hN:N≤12):2 ^ N≤4096:=by
 have:=zO (show 0<2 by omega) hN
 simpa using this
theorem D0c(hN:N≤12)(y5:P){s t:U}(hs:s<2 ^ N)(h1:2 ^ t≤s)(h2:s<2 ^ (t+1)){tg:H Q}{ls:H U}(htl:tg.length=2 ^ N)(hll:ls.length=2 ^ N)(ht:E0o B tg (s+1))(hl:E8f B ls s)(K:P→H Q→H P→O P) :
  ∀(n q c:U),q<n→q &&& M4 s (2 ^ t)=q→Cov B s c→c≤100→(∀q',q' &&& M4 s (2 ^ t)=q'→q<q'→Clq B (q' ||| 2 ^ t)→c≤1+ls[M4 (M4 s (2 ^ t)) q']?.getD 0)→
   ∃c',B2x B s c'∧I8 (nn ms) y5 (s:P) (t:P) ((M4 s (2 ^ t):U):P) tg K n (q:P) (nn (ls.set s c))=K (yM .i64 ((s:P)+1)) tg (nn (ls.set s c')):=by
 obtain⟨a1,a2,a3,a4⟩:=B9i h1 h2
 have hp:=E3d hN
 have h2s:M4 s (2 ^ t)<s:=zV a2 h1
 generalize hr:M4 s (2 ^ t)=r at a2 a3 a4 h2s
 intro n
 induction n with
 | zero=>intro q c hq; omega
 | succ n ih=>
  intro q c hq hsub hc hc1 hall
  have ht12:t<12:=by
   rcases zL t 12 with h|h
   ·exact h
   ·have:=zO (show 0<2 by omega) h
    simp at this
    omega
  have hqr:q≤r:=by have:= @Nat.and_le_right q r; omega
  have hor:q ||| 2 ^ t≤s:=by
   have hsb:(q ||| 2 ^ t) &&& s=q ||| 2 ^ t:=C8h fun i hi=>by
    rw[zM,B14,yI,decide_eq_true_eq] at hi
    rcases hi with h|h
    ·exact a3 i (E8x hsub h)
    ·subst h; exact a1
   have:= @Nat.and_le_right (q ||| 2 ^ t) s
   omega
  have hsml:∀x:U,x≤s→x<2 ^ 63:=fun x hx=>yE hx (zV hs (Nat.le_trans hp (by decide)))
  have hand:M4 r q<s:=yE (D0p r q) h2s
  have hset:s<(ls.set s c).length:=by simp; omega
  have hnext:∀c1:U,Cov B s c1→c1≤100→(∀q',q' &&& r=q'→q≤q'→Clq B (q' ||| 2 ^ t)→c1≤1+ls[M4 r q']?.getD 0)→
    ∃c',B2x B s c'∧V4 (nn ms) y5 (s:P) (t:P) (r:P) (q:P) tg K (I8 (nn ms) y5 (s:P) (t:P) (r:P) tg K n) (nn (ls.set s c1))=K (yM .i64 ((s:P)+1)) tg (nn (ls.set s c')):=by
   intro c1 g1 g2 g3
   unfold V4
   by_cases h0:q=0
   ·subst h0
    refine⟨c1,⟨g1,fun m hm=> ?_⟩,by rw[if_pos (by simp)]⟩
    obtain⟨q',n',e1,e2,e3,e4⟩:=D7f a1 a3 hm
    have:=(hl (M4 r q') (yE (D0p r q') h2s)).2 n' e4
    have:=g3 q' e1 (Nat.zero_le _) e2
    omega
   ·rw[if_neg (by simpa using h0)]
    have ew:yM .i64 ((q:P) - 1)=((q - 1:U):P):=by
     rw[show(q:P) - 1=((q - 1:U):P) by omega]
     exact A5z (hsml _ (by omega))
    rw[ew,E51 (hsml _ (by omega)) (hsml _ (by omega))]
    have hlt:= @F1r q r (by omega)
    refine ih ((q - 1) &&& r) c1 (by omega) (E7u _ _) g1 g2 fun q' e1 e2 e3=> ?_
    refine g3 q' e1 ?_ e3
    rcases zL q' q with h|h
    ·have:=D86 r r q q' (Nat.le_refl _) hsub e1 h
     omega
    ·exact h
  rw[I8,if_neg (by simp),B7x (by omega),E9m (hsml _ (by omega)) (hsml _ (by omega)),C7e (by omega),W]
  have hk:=ht (q ||| 2 ^ t) (by omega)
  cases hb:tg[q ||| 2 ^ t]?.getD E with
  | false=>
   rw[if_neg (by simp)]
   refine hnext c hc hc1 fun q' e1 e2 e3=> ?_
   rcases zL q q' with h|h
   ·exact hall q' e1 h e3
   ·have:q'=q:=by omega
    subst this
    rw[hb] at hk
    exact absurd (hk.2 e3) (by simp)
  | true=>
   rw[if_pos rfl]
   have hcq:=hk.1 hb
   have e26:ix (nn (ls.set s c)) (s:P)=G (c:P):=by
    rw[A85 hset,zZ]
   have e27:ix (nn (ls.set s c)) (K6 .andNot .i64 (r:P) (q:P))=G ((ls[M4 r q]?.getD 0:U):P):=by
    rw[C9h (hsml _ (by omega)) (hsml _ (by omega)),C67 (by simp; omega),zH (by omega)]
   rw[e26,W,e27,W]
   have hle:=hl (M4 r q) hand
   have h12:=C8n hN (zG hand hs) hle
   generalize hv:ls[M4 r q]?.getD 0=v at hle h12
   have ew:yM .i64 ((1:P)+(v:P))=((1+v:U):P):=by
    rw[show(1:P)+(v:P)=((1+v:U):P) by omega]
    exact A5z (by omega)
   have emin:(if yM .i64 ((1:P)+(v:P))<(c:P) then yM .i64 ((1:P)+(v:P)) else(c:P))=((if 1+v<c then 1+v else c:U):P):=by
    rw[ew]
    by_cases h:1+v<c
    ·rw[if_pos (by omega),if_pos h]
    ·rw[if_neg (by omega),if_neg h]
   rw[emin,zD,B1x,List.set_set]
   refine hnext _ ?_ (by split<;>omega) fun q' e1 e2 e3=> ?_
   ·split
    ·exact E2h a4 hcq hle.1
    ·exact hc
   ·rcases zL q q' with h|h
    ·have:=hall q' e1 h e3
     split<;>omega
    ·have:q'=q:=by omega
     subst this
     rw[hv]
     split<;>omega
theorem C0x(hB:∀i j,B i j=B j i)(hN:N≤12)(hm:F81 B N ms):∃n:U,B2x B (2 ^ N - 1) n∧n≤12∧A1x (nn ms)=G (n:P):=by
 have hp:=E3d hN
 have hp0:0<2 ^ N:=Nat.pow_pos (by omega)
 obtain⟨hml,hmb⟩:=hm
 have key:∀(k s n:U) (tg:H Q) (ls:H U),s+k=2 ^ N→k<n→1≤s→tg.length=2 ^ N→ls.length=2 ^ N→E0o B tg s→E8f B ls s→
   ∃v:U,B2x B (2 ^ N - 1) v∧v≤12∧G2 (nn ms) ((2 ^ N:U):P) n (s:P) tg (nn ls)=G (v:P):=by
  intro k
  induction k with
  | zero=>
   intro s n tg ls hs hn hs1 htl hll ht hl
   obtain⟨n,rfl⟩:=sn (n:=n) (by omega)
   have:=hl (2 ^ N - 1) (by omega)
   refine⟨_,this,C8n hN (by omega) this,?_⟩
   have ew:yM .i64 (((2 ^ N:U):P) - 1)=((2 ^ N - 1:U):P):=by
    rw[show((2 ^ N:U):P) - 1=((2 ^ N - 1:U):P) by omega]
    exact A5z (by omega)
   rw[G2,if_neg (by simp only[C8,decide_eq_true_eq]; omega),ew,C67 (by omega),W]
  | succ k ih=>
   intro s n tg ls hs hn hs1 htl hll ht hl
   obtain⟨n,rfl⟩:=sn (n:=n) (by omega)
   obtain⟨t,e1,h1,h2,ht12⟩:=F00 hs1 (show s<4096 by omega)
   obtain⟨a1,a2,a3,a4⟩:=B9i h1 h2
   have htN:t<N:=B25 (show s<2 ^ N by omega) a1
   have h2s:M4 s (2 ^ t)<s:=zV a2 h1
   have hsml:∀x:U,x≤s→x<2 ^ 63:=fun x hx=>by
    have:(4096:U)<2 ^ 63:=by decide
    omega
   have ew:yM .i64 (((t+1:U):P) - 1)=(t:P):=by
    rw[show((t+1:U):P) - 1=(t:P) by omega]
    exact A5z (by omega)
   have er:K6 .andNot .i64 (s:P) (A1v .i64 (1:P) (t:P))=((M4 s (2 ^ t):U):P):=by
    rw[B7x (by omega),C9h (hsml _ (Nat.le_refl _)) (hsml _ h1)]
   have hu:IntKind.u64.wrap (s:P)=(s:P):=B1k (by omega)
   have hct:=E7x hB h1 h2
   have rest:∀b:Q,(b=F↔Clq B s)→∃v:U,B2x B (2 ^ N - 1) v∧v≤12∧
     V3 (nn ms) ((2 ^ N:U):P) (s:P) (nn ls) (G2 (nn ms) ((2 ^ N:U):P) n) (t:P) ((M4 s (2 ^ t):U):P) (tg.set s b)=G (v:P):=by
    intro b hb
    have ht':E0o B (tg.set s b) (s+1):=fun x hx=>by
     by_cases h:s=x
     ·subst h
      rw[zI (by omega)]
      exact hb
     ·rw[zH h]
      exact ht x (by omega)
    unfold V3
    rw[C67 (by omega),W,A8k,hml,zD,B1x]
    obtain⟨c',k1,k2⟩:=D0c (ms:=ms) hN ((2 ^ N:U):P) (show s<2 ^ N by omega) h1 h2 (tg:=tg.set s b) (ls:=ls) (by simpa using htl) hll ht' hl (G2 (nn ms) ((2 ^ N:U):P) n) bigN (M4 s (2 ^ t)) N (by rw[A0g]; omega) (Nat.and_self _) (D8d (by omega)) (by omega) (fun q' g1 g2=>by
     have:= @Nat.and_le_right q' (M4 s (2 ^ t))
     omega)
    rw[k2,E5 (show s<4096 by omega) (by rw[G0]; omega)]
    refine ih (s+1) n (tg.set s b) (ls.set s c') (by omega) (by omega) (by omega) (by simpa using htl) (by simpa using hll) ht' fun x hx=> ?_
    by_cases h:s=x
    ·subst h
     rw[zI (by omega)]
     exact k1
    ·rw[zH h]
     exact hl x (by omega)
   rw[G2,C8,if_pos (by simp; omega),hu,e1,W,ew,if_neg (by simp),er,C7e (by omega),W,zD]
   have hk:=ht (M4 s (2 ^ t)) h2s
   cases hb:tg[M4 s (2 ^ t)]?.getD E with
   | true=>
    rw[if_pos rfl,C67 (by omega),W,C7e (by omega),W]
    have hmt:ms[t]?.getD 0<2 ^ 12:=A9g fun j hj=>by
     rw[hmb t j htN,Y,decide_eq_true_eq] at hj
     omega
    rw[B1k (n:=M4 s (2 ^ t)) (by omega),B1v (by omega) (zG hmt (by decide)),E0d]
    refine rest _ ?_
    rw[decide_eq_true_eq,B65,hct]
    constructor
    ·intro h
     refine⟨hk.1 hb,fun i hi=> ?_⟩
     have:=h i hi
     rw[hmb t i htN] at this
     simp at this
     exact this.2.2
    ·rintro⟨_,h⟩ i hi
     have hit:=B25 a2 hi
     rw[hmb t i htN,h i hi]
     simp
     omega
   | false=>
    rw[if_neg (by simp),C7e (by omega),W]
    refine rest E ?_
    rw[hct]
    constructor
    ·intro h; cases h
    ·rintro⟨h,_⟩
     have:=hk.2 h
     rw[hb] at this
     cases this
 unfold A1x
 have hm1:∀b:U,b≤1000→mkS (A1v .i64 (1:P) ((N:U):P)) (A1v .i64 (1:P) ((N:U):P)) b=G (2 ^ N):=fun b hb=>by
  rw[B7x (by omega)]; exact D0x (by omega) hb
 rw[A8k,hml,if_neg (by simp),hm1 1 (by omega),W,hm1 8 (by omega),W,B7x (by omega)]
 have e0:ix (zE (2 ^ N) E) (0:P)=G E:=by
  have:=D8 (l:=zE (2 ^ N) E) (i:=0) (by simpa using hp0)
  simpa using this
 have hz:zE (2 ^ N) (0:P)=nn (zE (2 ^ N) 0):=by simp[nn]
 rw[e0,W,hz]
 obtain⟨v,k1,k2,k3⟩:=key (2 ^ N - 1) 1 bigN ((zE (2 ^ N) E).set 0 F) (zE (2 ^ N) 0) (by omega) (by rw[A0g]; omega) (by omega) (by simp) (by simp)
  (fun x hx=>by
   have:x=0:=by omega
   subst this
   rw[zI (by simpa using hp0)]
   exact⟨fun _=>E0x,fun _=>rfl⟩)
  (fun x hx=>by
   have:x=0:=by omega
   subst this
   rw[List.getElem?_replicate,if_pos hp0]
   exact D4c)
 exact⟨v,k1,k2,k3⟩
end
theorem E6a{g i:U}(h:g<2 ^ i):M4 (g ||| 2 ^ i) (2 ^ i)=g:=by
 apply zP
 intro j
 rw[A65,zM,B14]
 by_cases hj:i=j
 ·subst hj
  rw[Nat.testBit_lt_two_pow h]
  simp
 ·simp[hj]
theorem E1g{α:Type}{l:H α}{i:U}{x:α}(h:l[i]?=G x):l.set i x=l:=by
 apply List.ext_getElem?
 intro j
 by_cases hij:i=j
 ·subst hij
  rw[zI (List.getElem?_eq_some_iff.1 h).1,h]
 ·rw[zH hij]
theorem C95:∀(d fuel:U) (sm gs:H U) (most:P) (who:H P),who.length+d=sm.length→d<fuel→(∀x∈sm,x<2 ^ 12)→sm.length≤12→(∀g∈gs,0<g∧g<2 ^ who.length)→gs.length≤who.length→
  ∃b r,G5 fuel ⟨nn sm,most,nn gs,who⟩=G (b,r)∧r.most=most∧(b=E→r=⟨nn sm,most,nn gs,who⟩):=by
 intro d
 induction d with
 | zero=>
  intro fuel sm gs most who hd hf h1 h2 h3 h4
  obtain⟨fuel,rfl⟩:=sn (n:=fuel) (by omega)
  refine⟨F,⟨nn sm,most,nn gs,who⟩,?_,rfl,fun h=>by cases h⟩
  rw[G5,A0d,if_pos (by simp[A8k]; omega)]
 | succ d ih=>
  intro fuel sm gs most who hd hf h1 h2 h3 h4
  obtain⟨fuel,rfl⟩:=sn (n:=fuel) (by omega)
  rw[G5,A0d,if_neg (by simp[A8k]; omega)]
  have hi12:who.length≤11:=by omega
  have hpw:2 ^ who.length<2 ^ 64:=zR (by omega) (by omega)
  have hp0:0<2 ^ who.length:=Nat.pow_pos (by omega)
  have hpd:2 ^ (who.length+1)=2 ^ who.length+2 ^ who.length:=by rw[Nat.pow_succ]; omega
  have hsi:who.length<sm.length:=by omega
  have hsm:sm[who.length]<2 ^ 64:=zG (h1 _ (zB hsi)) (by decide)
  have key:∀(k p n:U),p+k=gs.length+1→k<n→∃b r,G4 (G5 fuel) ⟨nn sm,most,nn gs,who⟩ n (p:P) (nn sm) most (nn gs) who=G (b,r)∧r.most=most∧(b=E→r=⟨nn sm,most,nn gs,who⟩):=by
   intro k
   induction k with
   | zero=>
    intro p n hp hn
    obtain⟨n,rfl⟩:=sn (n:=n) (by omega)
    refine⟨E,_,?_,rfl,fun _=>rfl⟩
    rw[G4,if_neg (by simp[A8k]; omega)]
   | succ k ihk=>
    intro p n hp hn
    obtain⟨n,rfl⟩:=sn (n:=n) (by omega)
    have hpl:p≤gs.length:=by omega
    rw[G4,if_pos (by simp[A8k]; omega)]
    cases hmost:decide ((p:P)<most) with
    | false=>exact⟨E,_,by rw[if_neg (by simp)],rfl,fun _=>rfl⟩
    | true=>
     rw[if_pos rfl]
     by_cases hpe:p=gs.length
     ·-- a new person
      rw[if_pos (by simp[A8k]; omega),if_pos (C1m (by simp[A8k]; omega) (by omega))]
      have e0:nn gs++ [(0:P)]=nn (gs++ [0]):=E9c gs 0
      rw[e0]
      unfold T0
      dsimp only
      have hpg:p<(gs++ [0]).length:=by simp; omega
      have hg0:(gs++ [0])[p]=0:=by simp[hpe]
      rw[A85 hpg,W,hg0,A85 hsi,W,B1v (by decide) hsm]
      have ez:M4 0 sm[who.length]=0:=B65.2 fun i hi=>by simp at hi
      rw[ez,if_pos (by simp),if_neg (by simp),if_pos (C1m (by simp; omega) (by omega)),C20 (by omega),C7x (by decide) hpw,Nat.zero_or,zD,B1x]
      have es:(gs++ [0]).set p (2 ^ who.length)=gs++ [2 ^ who.length]:=by
       rw[List.set_append_right _ _ (by omega)]
       simp[hpe]
      rw[es]
      obtain⟨b,r,k1,k2,k3⟩:=ih fuel sm (gs++ [2 ^ who.length]) most (who++ [(p:P)]) (by simp; omega) (by omega) h1 h2 (fun g hg=>by
       rw[zW,zN,hpd]
       rcases List.mem_append.1 hg with hg|hg
       ·have:=h3 g hg; omega
       ·rw[List.mem_singleton] at hg; omega) (by simp; omega)
      rw[k1,W]
      cases b with
      | true=>exact⟨F,r,by rw[if_pos rfl],k2,fun h=>by cases h⟩
      | false=>
       have:=k3 rfl
       subst this
       rw[if_neg (by simp)]
       have hw:((who++ [(p:P)]).length:P)=((who.length+1:U):P):=by simp
       simp only[zW,zN]
       rw[show bnd ((who.length+1:U):P) (who.length:P) 0 (who.length+1)=G (0,who.length) from A5q (by omega),W]
       have hpg2:p<(gs++ [2 ^ who.length]).length:=by simp; omega
       have hg2:(gs++ [2 ^ who.length])[p]=2 ^ who.length:=by simp[hpe]
       rw[A85 hpg2,W,hg2,if_neg (by simp),B1v hpw hpw,B1x]
       have ez2:M4 (2 ^ who.length) (2 ^ who.length)=0:=B65.2 fun i hi=>hi
       have es2:(gs++ [2 ^ who.length]).set p 0=gs++ [0]:=by
        rw[List.set_append_right _ _ (by omega)]
        simp[hpe]
       have et:(who++ [(p:P)]).take who.length=who:=by simp
       rw[ez2,es2,et]
       unfold O8
       rw[A85 hpg,W,hg0,if_pos (by simp),A8k]
       have hl1:(gs++ [0]).length=gs.length+1:=by simp
       rw[hl1,show bnd ((gs.length+1:U):P) (p:P) 0 (gs.length+1)=G (0,p) from A5q (by omega),W]
       have et2:(nn (gs++ [0])).take p=nn gs:=by rw[hpe]; simp[nn]
       show ∃b r,G (E,(⟨nn sm,most,(nn (gs++ [0])).take p,who⟩:Xj))=G (b,r)∧_
       rw[et2]
       exact⟨E,_,rfl,rfl,fun _=>rfl⟩
     ·-- one that is there
      rw[if_neg (by simp[A8k]; omega)]
      have hpg:p<gs.length:=by omega
      have hgm:=h3 _ (zB hpg)
      have hnext:∃b r,O8 (G5 fuel) ⟨nn sm,most,nn gs,who⟩ (p:P) (G4 (G5 fuel) ⟨nn sm,most,nn gs,who⟩ n) (nn sm) most (nn gs) who=G (b,r)∧r.most=most∧(b=E→r=⟨nn sm,most,nn gs,who⟩):=by
       unfold O8
       rw[A85 hpg,W,if_neg (by simp; omega),E5 hpg (by rw[G0]; omega)]
       exact ihk (p+1) n (by omega) (by omega)
      unfold T0
      dsimp only
      rw[A85 hpg,W,A85 hsi,W,B1v (by omega) hsm]
      cases hfit:(((M4 gs[p] sm[who.length]:U):P)==0) with
      | false=>rw[if_neg (by simp)]; exact hnext
      | true=>
       rw[if_pos rfl,if_neg (by simp),if_pos (C1m (by simp; omega) (by omega)),C20 (by omega),C7x (by omega) hpw,zD,B1x]
       have hor:gs[p] ||| 2 ^ who.length<2 ^ (who.length+1):=zY (by omega) (by omega)
       have hop:0<gs[p] ||| 2 ^ who.length:=by
        have:= @Nat.left_le_or gs[p] (2 ^ who.length)
        omega
       have hor64:gs[p] ||| 2 ^ who.length<2 ^ 64:=zY (by omega) hpw
       obtain⟨b,r,k1,k2,k3⟩:=ih fuel sm (gs.set p (gs[p] ||| 2 ^ who.length)) most (who++ [(p:P)]) (by simp; omega) (by omega) h1 h2 (fun g hg=>by
        rw[zW,zN]
        rcases List.mem_or_eq_of_mem_set hg with hg|hg
        ·have:=h3 g hg; omega
        ·subst hg; exact⟨hop,hor⟩) (by simp; omega)
       rw[k1,W]
       cases b with
       | true=>exact⟨F,r,by rw[if_pos rfl],k2,fun h=>by cases h⟩
       | false=>
        have:=k3 rfl
        subst this
        rw[if_neg (by simp)]
        simp only[zW,zN]
        have hps:p<(gs.set p (gs[p] ||| 2 ^ who.length)).length:=by simp; omega
        rw[show bnd ((who.length+1:U):P) (who.length:P) 0 (who.length+1)=G (0,who.length) from A5q (by omega),W,A85 hps,W,zZ,if_neg (by simp),B1v hor64 hpw,B1x,E6a hgm.2,List.set_set,E1g (X hpg)]
        have et:(who++ [(p:P)]).take who.length=who:=by simp
        rw[et]
        exact hnext
  exact key (gs.length+1) 0 bigN (by omega) (by rw[A0g]; omega)
section
variable {p : P} {m : H P} {l : H Xg}
end
section
variable {c : X9} {fl : H Xc}
def C0n(c:X9)(p:X5):P × P:=if p.Toward=F then((U9 c p.Segment).A,(U9 c p.Segment).B) else((U9 c p.Segment).B,(U9 c p.Segment).A)
theorem B5r{p:X5}(h:idx p.Segment c.Segments.length=F):A0c p c=G (C0n c p):=by
 unfold A0c C0n
 rw[(A4e h).1,W]
 split<;>rfl
theorem B8i{p:X5}(hn:∀x∈c.Points,x.Name.length≤maxLen)(hf:∀x∈fl,x.Name.length≤maxLen)(h1:J4 c=F)(h2:A74 fl=F):A34 c fl p=G (A9h c fl p):=by
 unfold A34
 rw[O2 hn,h1,W,if_pos rfl,B2y hf,h2,W,if_pos rfl,B8g,W]
def B6j(c:X9)(p q:X5):Xg:=⟨p.Start,q.End,(C0n c p).1,(C0n c q).2⟩
theorem B6t{p q:X5}(h1:idx p.Segment c.Segments.length=F)(h2:idx q.Segment c.Segments.length=F):A66 c p q=G (B6j c p q):=by
 unfold A66
 rw[B5r h1,W,B5r h2,W]
 rfl
theorem D52{p:X5}{s:Xc}(h1:idx p.Segment c.Segments.length=F)(all:H X5)(v1:P)(K:P→H Xg→O (H Xg × Q)){T:U}(hT:s.Tugs=(T:P))(hT4:T≤4) :
  ∀(r k n:U) (acc:H Xg),k+r=T→r<n→acc.length≤12+k→R4 fl all v1 s c p K n (k:P) acc =
   if(decide ((12:P)<((acc++zE r (B6j c p p)).length:P))) then G (([]:H Xg),E) else K (yM .i64 (v1+(1:P))) (acc++zE r (B6j c p p)):=by
 intro r
 induction r with
 | zero=>
  intro k n acc hk hn ha
  obtain⟨n,rfl⟩:=sn (n:=n) (by omega)
  rw[R4,if_neg (by rw[hT]; simp; omega)]
  simp
 | succ r ih=>
  intro k n acc hk hn ha
  obtain⟨n,rfl⟩:=sn (n:=n) (by omega)
  rw[R4,if_pos (by rw[hT]; simp; omega),B6t h1 h1,W,if_pos (C1m (by simp; omega) (by omega)),E5 (i:=k) (n:=5) (by omega) (by rw[G0]; omega)]
  have:=ih (k+1) n (acc++ [B6j c p p]) (by omega) (by omega) (by simp; omega)
  refine this.trans ?_
  rw[List.append_assoc]
  rfl
def small(n:P):Prop:= -1≤n∧n≤12
end
end Go.Vi
