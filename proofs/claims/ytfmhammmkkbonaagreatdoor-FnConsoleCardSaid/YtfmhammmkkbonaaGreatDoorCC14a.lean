/-
Plain laws. No condition.
-/
import Derived.Test.YtfmhammmkkbonaaGreatDoorCNf
import Derived.KernelRfl
namespace Go.Vi
open Go.Lib
set_option linter.all false
open Option renaming bind_some → C, some → G
open List renaming getElem?_eq_getElem → I, getElem_mem → zB, take_succ_eq_append_getElem → zD, range → zF, mem_singleton → zG, getElem_of_mem → zH, all_eq_true → zK, length_append → zL, replicate → zN, mem_append → zO, take_length → zP, length_singleton → zR, length_cons → zS, mem_cons → zU, mem_range → zV, getElem?_set_ne → zX, getElem_append_left → zY, getElem?_set_self → zZ, take_of_length_le → yA, drop_eq_getElem_cons → yF, pairwise_iff_getElem → yG, range' → yH, length_pos_iff → yI, flatMap_singleton → yK, getElem?_map → yL, flatMap_cons → yM, mem_of_mem_take → yS, flatMap_append → yU, map_append → yX, getElem?_append_left → yY, getElem_append_right → yZ, map_cons → kE, range'_succ → kF, mem_flatMap → kG, not_mem_nil → kH, getElem_set_self → kI, filterMap_append → kJ, foldr_cons → kK, range_eq_range' → kL, length_nil → kO, replicate_zero → kP, drop_zero → kR, set_cons_succ → kT, sum_cons → kU, getElem?_eq_some_iff → kW, mem_take_iff_getElem → kX
open Bool renaming and_eq_true → zA, false_eq_true → zC, true_and → yD, eq_iff_iff → yJ, and_true → kV, true → F, false → E
open Option.some renaming injEq → zE
open Int renaming tdiv_eq_ediv_of_nonneg → zI, tdiv → zJ, toNat_natCast → zM, tmod_eq_emod_of_nonneg → zQ, ediv_nonneg → yW, emod_lt_of_pos → kB, emod_nonneg → kM, mul_le_mul_of_nonneg_right → kN, tmod → kS, neg_tdiv → kZ
open Nat renaming mod_two_eq_zero_or_one → zT, lt_trans → zW, lt_or_ge → yB, le_trans → yC, lt_irrefl → yE, testBit_or → yN, testBit_two_pow_sub_one → yO, pow_le_pow_right → yP, eq_of_testBit_eq → yQ, pow_lt_pow_right → yR, le_refl → yT, testBit_and → yV, lt_of_lt_of_le → kA, lt_of_le_of_lt → kC, or_lt_two_pow → kD, mul_le_mul → kQ, sub_zero → kY
open _root_ renaming List → O, Option → U, Int → V, Bool → W, Nat → X, UInt8 → Y, rfl → Z
theorem sn{n:X}(h:0<n):∃q,n=q+1:=⟨n - 1,by omega⟩
def AD(a b:X):X:=a ^^^ (a &&& b)
theorem EW(a b i:X):(AD a b).testBit i=(a.testBit i&& !b.testBit i):=by
 simp only[AD,Nat.testBit_xor,yV];cases a.testBit i<;>cases b.testBit i<;>rfl
theorem ID(n i:X):(2 ^ n).testBit i=decide (n=i):=Nat.testBit_two_pow
theorem GS{s n i:X}(h:s<2 ^ n)(hi:s.testBit i=F):i<n:=by
 rcases yB i n with h1|h1
 ·exact h1
 ·have:s<2 ^ i:=kA h (yP (by omega) h1);rw[Nat.testBit_lt_two_pow this] at hi
  cases hi
theorem wx{s i:X}(hi:s.testBit i=F):i<s:=GS Nat.lt_two_pow_self hi
theorem Wu(p:X→W):∀k:X,∃q:X,∀i,q.testBit i=(decide (i<k)&&p i)
 | 0=>⟨0,fun i=>by simp⟩
 | k+1=>by
  obtain⟨q,hq⟩:=Wu p k;refine⟨q ||| (if p k then 2 ^ k else 0),fun i=> ?_⟩;rw[yN,hq];by_cases hp:p k=F
  ·rw[if_pos hp,ID];by_cases h:k=i
   ·subst h; simp[hp]
   ·have:decide (i<k+1)=decide (i<k):=by simp; omega
    simp[h,this]
  ·rw[if_neg hp,Nat.zero_testBit];by_cases h:k=i
   ·subst h; simp[hp]
   ·have:decide (i<k+1)=decide (i<k):=by simp; omega
    simp[this]
theorem wj{q r:X}(h:q &&& r=q){i:X}(hi:q.testBit i=F):r.testBit i=F:=by
 have:=congrArg (fun x=>x.testBit i) h;simp only[yV,hi,yD] at this
 exact this
theorem RN{q r:X}(h:∀i,q.testBit i=F→r.testBit i=F):q &&& r=q:=by
 apply yQ
 intro i;rw[yV];cases hq:q.testBit i with
 | false=>rfl
 | true=>rw[h i hq]; rfl
theorem tD:∀(n r p q:X),r≤n→p &&& r=p→q &&& r=q→q<p→q≤(p - 1) &&& r:=by
 intro n
 induction n with
 | zero=>
  intro r p q hr hp hq hlt;have:r=0:=by omega
  subst this;rw[Nat.and_zero] at hp hq
  omega
 | succ n ih=>
  intro r p q hr hp hq hlt;by_cases h0:r=0
  ·subst h0;rw[Nat.and_zero] at hp hq
   omega
  have hp2:(p / 2) &&& (r / 2)=p / 2:=by rw[← Nat.and_div_two,hp]
  have hq2:(q / 2) &&& (r / 2)=q / 2:=by rw[← Nat.and_div_two,hq]
  have e2:∀a b:X,(a &&& b) % 2=(a % 2)*(b % 2):=fun a b=>by
   have h:=yV a b 0;simp only[Nat.testBit_zero] at h;rcases zT a with ha|ha<;>rcases zT b with hb|hb<;>rcases zT (a &&& b) with hc|hc<;>simp_all
  have hpm:=e2 p r;have hqm:=e2 q r;rw[hp] at hpm
  rw[hq] at hqm
  have hd:((p - 1) &&& r) / 2=((p - 1) / 2) &&& (r / 2):=Nat.and_div_two;have hm:=e2 (p - 1) r;rcases zT p with h1|h1
  ·-- an even one
   have i1:=ih (r / 2) (p / 2) (q / 2) (by omega) hp2 hq2 (by omega);have e3:(p - 1) / 2=p / 2 - 1:=by omega
   rw[e3] at hd
   have e4:(p - 1) % 2=1:=by omega
   rw[e4,Nat.one_mul] at hm
   have hqr:q % 2≤r % 2:=by
    rcases zT q with h2|h2
    ·omega
    ·rw[h2,Nat.one_mul] at hqm; omega
   omega
  ·have e3:(p - 1) / 2=p / 2:=by omega
   rw[e3,hp2] at hd
   omega
theorem dO{p r:X}(h:0<p):(p - 1) &&& r<p:=by
 have:= @Nat.and_le_left (p - 1) r;omega
theorem dQ(p r:X):(p &&& r) &&& r=p &&& r:=by rw[Nat.and_assoc,Nat.and_self]
def DY(B:X→X→W)(S m:X):Prop:=∃f:X→X,(∀i,S.testBit i=F→f i<m)∧∀i j,S.testBit i=F→S.testBit j=F→i≠j→f i=f j→B i j=F
def EZ(B:X→X→W)(S:X):Prop:=∀i j,S.testBit i=F→S.testBit j=F→i≠j→B i j=F
def DZ(B:X→X→W)(S n:X):Prop:=DY B S n∧∀m,DY B S m→n≤m
theorem NL{B:X→X→W}{S n:X}(h:S<2 ^ n):DY B S n:=⟨id,fun i hi=>GS h hi,fun i j _ _ hne e=>absurd e hne⟩
theorem rj{B:X→X→W}:DZ B 0 0:=⟨⟨id,fun i hi=>by simp at hi,fun i j hi=>by simp at hi⟩,fun m _=>Nat.zero_le m⟩
theorem gI{B:X→X→W}{S t rest q n:X}(hS:∀i,S.testBit i=F→i=t∨rest.testBit i=F)(hq:EZ B (q ||| 2 ^ t))(h:DY B (AD rest q) n):DY B S (1+n):=by
 obtain⟨f,f1,f2⟩:=h
 have key:∀i,S.testBit i=F→(i=t∨q.testBit i=F)∨(AD rest q).testBit i=F:=fun i hi=>by
  rcases hS i hi with h|h
  ·exact .inl (.inl h)
  ·cases hb:q.testBit i with
   | true=>exact .inl (.inr rfl)
   | false=>right; rw[EW,h,hb]; rfl
 have hin:∀i,(i=t∨q.testBit i=F)→(q ||| 2 ^ t).testBit i=F:=fun i hi=>by
  rw[yN,ID];rcases hi with h|h
  ·simp[h]
  ·simp[h]
 refine⟨fun i=>if i=t∨q.testBit i=F then n else f i,fun i hi=> ?_,fun i j hi hj hne e=> ?_⟩
 ·by_cases hx:i=t∨q.testBit i=F
  ·simp only[hx,if_true]; omega
  ·simp only[hx,if_false];rcases key i hi with h|h
   ·exact absurd h hx
   ·have:=f1 i h; omega
 ·by_cases hx:i=t∨q.testBit i=F
  ·by_cases hy:j=t∨q.testBit j=F
   ·exact hq i j (hin i hx) (hin j hy) hne
   ·simp only[hx,hy,if_true,if_false] at e
    have:=f1 j ((key j hj).resolve_left hy);omega
  ·by_cases hy:j=t∨q.testBit j=F
   ·simp only[hx,hy,if_true,if_false] at e
    have:=f1 i ((key i hi).resolve_left hx);omega
   ·simp only[hx,hy,if_false] at e
    exact f2 i j ((key i hi).resolve_left hx) ((key j hj).resolve_left hy) hne e
theorem gJ{B:X→X→W}{S t rest m:X}(hS:S.testBit t=F)(hr:∀i,rest.testBit i=F→S.testBit i=F)(h:DY B S m):∃q n,q &&& rest=q∧EZ B (q ||| 2 ^ t)∧n+1=m∧DY B (AD rest q) n:=by
 obtain⟨f,f1,f2⟩:=h;obtain⟨q,hq⟩:=Wu (fun i=>rest.testBit i&&decide (f i=f t)) rest
 have hq2:∀i,q.testBit i=F↔rest.testBit i=F∧f i=f t:=fun i=>by
  rw[hq i];constructor
  ·intro h;simp only[zA,decide_eq_true_eq] at h;exact h.2
  ·intro⟨h1,h2⟩;simp only[zA,decide_eq_true_eq];exact⟨wx h1,h1,h2⟩
 have hm:=f1 t hS;refine⟨q,m - 1,RN fun i hi=>((hq2 i).1 hi).1,fun i j hi hj hne=> ?_,by omega,fun i=>if f i=m - 1 then f t else f i,fun i hi=> ?_,fun i j hi hj hne e=> ?_⟩
 ·have side:∀i,(q ||| 2 ^ t).testBit i=F→S.testBit i=F∧f i=f t:=fun i hi=>by
   rw[yN,ID,Bool.or_eq_true,decide_eq_true_eq] at hi
   rcases hi with h|h
   ·exact⟨hr i ((hq2 i).1 h).1,((hq2 i).1 h).2⟩
   ·subst h; exact⟨hS,rfl⟩
  obtain⟨i1,i2⟩:=side i hi;obtain⟨j1,j2⟩:=side j hj;exact f2 i j i1 j1 hne (i2.trans j2.symm)
 ·rw[EW,zA] at hi
  have hne:f i≠f t:=fun e=>by
   have:=(hq2 i).2 ⟨hi.1,e⟩;rw[this] at hi
   simp at hi
  have:=f1 i (hr i hi.1);show(if f i=m - 1 then f t else f i)<m - 1
  split<;>omega
 ·rw[EW,zA] at hi hj
  have hni:f i≠f t:=fun e=>by
   have:=(hq2 i).2 ⟨hi.1,e⟩;rw[this] at hi
   simp at hi
  have hnj:f j≠f t:=fun e=>by
   have:=(hq2 j).2 ⟨hj.1,e⟩;rw[this] at hj
   simp at hj
  have e2:f i=f j:=by
   have e:(if f i=m - 1 then f t else f i)=(if f j=m - 1 then f t else f j):=e;split at e<;>split at e<;>omega
  exact f2 i j (hr i hi.1) (hr j hj.1) hne e2
theorem Cu(n lo hi:V):Bm n lo hi=G (decide (lo≤n)&&decide (n≤hi)):=by
 unfold Bm;by_cases h:lo≤n<;>simp[h]
theorem RG{n bytes:X}(h:n≤1048576)(hb:bytes≤1000):B2 (n:V) (n:V) bytes=G n:=by
 unfold B2
 have:(n:V)*(bytes:V)≤140737488355328:=by
  have:n*bytes≤1048576*1000:=kQ h hb;have e:((n*bytes:X):V)=(n:V)*(bytes:V):=by simp
  omega
 rw[if_pos ⟨by omega,by omega,this,by omega⟩];simp
theorem Ee(n:V):Cd n=G (decide (0≤n)&&decide (n≤2880)):=by simp[Cd,Cu]
theorem Uw{len:X}(p:X→W)(K:U W):∀(k i:X),(yH i k).foldr (fun i r=>if p i=F then r else G E) K=if(yH i k).all p=F then K else G E
 | 0,i=>by simp
 | k+1,i=>by
  rw[kF,kK,Uw (len:=len) p K k (i+1),List.all_cons];cases p i<;>rfl
theorem Ux{len:X}(p:X→W)(K:U W):∀(k i:X),(yH i k).foldr (fun i r=>if p i=F then G E else r) K=if(yH i k).any p=F then G E else K
 | 0,i=>by simp
 | k+1,i=>by
  rw[kF,kK,Ux (len:=len) p K k (i+1),List.any_cons];cases p i<;>rfl
theorem Nv{L:X→V→U W}(len:X)(p:X→W)(K:U W)(hl:len≤maxLen)
  (hs:∀(n i:X),i<len→L (n+1) (i:V)=if p i=F then L n (IntKind.i64.wrap ((i:V)+1)) else G E) (he:∀n,L (n+1) (len:V)=K):L bigN 0=if(zF len).all p=F then K else G E:=by
 have:=MU L len hl (fun i r=>if p i=F then r else G E) K hs he len 0 bigN (by omega) (Aj hl);rw[Uw (len:=len),← kL] at this
 exact this
theorem dT{L:X→V→U W}(len:X)(p:X→W)(K:U W)(hl:len≤maxLen)
  (hs:∀(n i:X),i<len→L (n+1) (i:V)=if p i=F then G E else L n (IntKind.i64.wrap ((i:V)+1))) (he:∀n,L (n+1) (len:V)=K):L bigN 0=if(zF len).any p=F then G E else K:=by
 have:=MU L len hl (fun i r=>if p i=F then G E else r) K hs he len 0 bigN (by omega) (Aj hl);rw[Ux (len:=len),← kL] at this
 exact this
def Pm(s:O Y)(i:X):W:=match s[i]? with
 | some b=>(decide (97≤(b.toNat:V))&&decide ((b.toNat:V)≤122)) || (!(decide (i=0))&&(decide (48≤(b.toNat:V))&&decide ((b.toNat:V)≤57)))
 | none=>E
def RH(s:O Y):W:=decide (1≤(s.length:V))&&decide ((s.length:V)≤8)
def GA(s:O Y):W:=RH s&&(zF s.length).all (Pm s)
theorem tK(c:V)(K:U W)(z':W)(z:V)(i:X)(hz:z=(i:V)) :
  (if decide (97≤c)=F then(if decide (c≤122)=F then K else if(z==0)=F then G E else if decide (c<48)=F then G E else if decide (57<c)=F then G E else K)
   else if E=F then K else if(z==0)=F then G E else if decide (c<48)=F then G E else if decide (57<c)=F then G E else K) =
  if((decide (97≤c)&&decide (c≤122)) || (!(decide (i=0))&&(decide (48≤c)&&decide (c≤57))))=F then K else G E:=by
 subst hz;have e0:(((i:X):V)==0)=decide (i=0):=by rw[yJ]; simp
 have e1:decide (c<48)= !decide (48≤c):=by rw[yJ]; simp
 have e2:decide (57<c)= !decide (c≤57):=by rw[yJ]; simp
 rw[e0,e1,e2];cases decide (i=0)<;>cases decide (97≤c)<;>cases decide (c≤122)<;>cases decide (48≤c)<;>cases decide (c≤57)<;>rfl
theorem VK{s:O Y}(h:s.length≤maxLen):Jl s=G (GA s):=by
 unfold Jl;rw[Cu];rw[Nv (L:=Ga s) s.length (Pm s) (G F) h (fun n i hi=> ?_) (fun n=>by simp[Ga])]
 ·unfold GA RH;simp only[C];cases(zF s.length).all (Pm s)<;>cases(decide (1≤(s.length:V))&&decide ((s.length:V)≤8))<;>simp
 ·simp only[Ga,La,Lb,Bz,Pm,I hi,C,Ag,hi,decide_true,if_true];exact tK _ _ F (i:V) i Z
theorem QY{R:Type}(p:X→W)(f:X→R)(z:R):∀(k i:X),(yH i k).foldr (fun i r=>if p i=F then G (f i) else r) (G z)=G ((yH i k).foldr (fun i r=>if p i=F then f i else r) z)
 | 0,i=>by simp
 | k+1,i=>by
  rw[kF,kK,QY p f z k (i+1),kK];cases p i<;>simp
def S3(xs:O Xa)(s:O Y)(i:X):W:=match xs[i]? with
 | some x=>decide (x.Name=s)
 | none=>E
def EV(xs:O Xa)(s:O Y):V:=(yH 0 xs.length).foldr (fun i r=>if S3 xs s i=F then(i:V) else r) (-1)
theorem Ic{c:X4}{s:O Y}(h:c.Points.length≤maxLen):BF c s=G (EV c.Points s):=by
 unfold BF;exact(MU (HE s c) c.Points.length h (fun i r=>if S3 c.Points s i=F then G (i:V) else r) (G (-1)) (fun n i hi=>by simp[HE,Bz,hi,S3]) (fun n=>by simp[HE]) c.Points.length 0 bigN (by omega) (Aj h)).trans (QY _ _ _ _ _)
def jn(y:X7)(a b:V):W:=(decide (y.A=a)&&decide (y.B=b)) || (decide (y.A=b)&&decide (y.B=a))
theorem qC(y:X7)(a b:V):Lw y a b=G (jn y a b):=by
 unfold Lw jn;by_cases h1:y.A=a<;>by_cases h2:y.B=b<;>by_cases h3:y.A=b<;>by_cases h4:y.B=a<;>simp_all
theorem Ig(i n:V):B8 i n=G (decide (0≤i)&&decide (i<n)):=by
 unfold B8;by_cases h:0≤i<;>simp[h]
def idx(i:V)(n:X):W:=decide (0≤i)&&decide (i<(n:V))
def GN(c:X4)(i:X):W:=match c.Segments[i]? with
 | some x=>idx x.A c.Points.length&&(idx x.B c.Points.length&&(!(decide (x.A=x.B))&&((decide (0≤x.Depth)&&decide (x.Depth≤3000))&&((decide (1≤x.Minutes)&&decide (x.Minutes≤240))&& !((zF i).any fun j=>match c.Segments[j]? with | some y=>jn y x.A x.B | none=>E)))))
 | none=>E
def Kj(c:X4)(i:X):W:=match c.Points[i]? with
 | some x=>GA x.Name&&decide (EV c.Points x.Name=(i:V))
 | none=>E
def AQ(c:X4):W:=decide (c.Points.length≤8)&&(decide (c.Segments.length≤10)&&((zF c.Points.length).all (Kj c)&&(zF c.Segments.length).all (GN c)))
theorem Ep{n i:X}(h:i≤n):bnd (n:V) (i:V) (0:V) n=G (0,i):=by
 unfold bnd;rw[if_pos ⟨by omega,by omega,by omega,by omega⟩];simp
theorem wr{α:Type}{l:O α}{i j:X}(hj:j<i):(l.take i)[j]?=l[j]?:=by simp[List.getElem?_take,hj]
theorem D6{c:X4}(hn:∀x∈c.Points,x.Name.length≤maxLen):D1 c=G (AQ c):=by
 unfold D1 AQ;by_cases h1:c.Points.length≤8
 ·have h1':¬(8:V)<c.Points.length:=by omega
  by_cases h2:c.Segments.length≤10
  ·have h2':¬(10:V)<c.Segments.length:=by omega
   have hp:c.Points.length≤maxLen:=by rw[Bo]; omega
   have hs:c.Segments.length≤maxLen:=by rw[Bo]; omega
   have inner:Ew c bigN 0=G ((zF c.Segments.length).all (GN c)):=by
    rw[Nv (L:=Ew c) c.Segments.length (GN c) (G F) hs (fun n i hi=> ?_) (fun n=>by simp[Ew])]
    ·cases(zF c.Segments.length).all (GN c)<;>rfl
    ·simp only[Ew,Bz,I hi,C,Ag,hi,decide_true,if_true,Cu,Ig,show ∀(a:V) (n:X),(decide (0≤a)&&decide (a<(n:V)))=idx a n from fun _ _=>rfl,Ep (Nat.le_of_lt hi),GN,kR,kY];have hl:(c.Segments.take i).length=i:=by simp; omega
     rw[hl]
     rw[dT (L:=Hd c i c.Segments[i] (c.Segments.take i) (i:V) (Ew c n)) i (fun j=>match c.Segments[j]? with | some y=>jn y c.Segments[i].A c.Segments[i].B | none=>E)
      (Ew c n (IntKind.i64.wrap ((i:V)+1))) (by omega) (fun m j hj=>by
       have hj2:j<c.Segments.length:=by omega
       simp only[Hd,Bz,wr hj,I hj2,C,Ag,hj,decide_true,if_true,qC]) (fun m=>by simp[Hd])]
     have e:(c.Segments[i].A==c.Segments[i].B)=decide (c.Segments[i].A=c.Segments[i].B):=rfl;rw[e]
     cases idx c.Segments[i].A c.Points.length<;>cases idx c.Segments[i].B c.Points.length<;>cases decide (c.Segments[i].A=c.Segments[i].B)<;>cases(decide (0≤c.Segments[i].Depth)&&decide (c.Segments[i].Depth≤3000)) <;>
      cases(decide (1≤c.Segments[i].Minutes)&&decide (c.Segments[i].Minutes≤240))<;>cases((zF i).any fun j=>match c.Segments[j]? with | some y=>jn y c.Segments[i].A c.Segments[i].B | none=>E)<;>rfl
   rw[Nv (L:=Hc c) c.Points.length (Kj c) _ hp (fun n i hi=> ?_) (fun n=>by simp only[Hc,Int.lt_irrefl,decide_false,zC,if_false]; exact inner)]
   ·simp only[h1,h2,h1',h2',decide_true,decide_false,yD,zC,if_false];cases(zF c.Points.length).all (Kj c)<;>rfl
   ·simp only[Hc,Bz,I hi,C,Ag,hi,decide_true,if_true,VK (hn _ (zB hi)),Ic hp,Kj];by_cases e:EV c.Points c.Points[i].Name=(i:V)<;>cases GA c.Points[i].Name<;>simp[e]
  ·have h2':(10:V)<c.Segments.length:=by omega
   simp[h1,h1',h2,h2']
 ·have h1':(8:V)<c.Points.length:=by omega
  simp[h1,h1']
theorem ML{s:O Y}(h:GA s=F):1≤s.length∧s.length≤8:=by
 simp only[GA,RH,zA,decide_eq_true_eq] at h;omega
def Cs(s:X8):W:=GA s.Name&&((decide (10≤s.Length)&&decide (s.Length≤400))&&((decide (100≤s.Draught)&&decide (s.Draught≤2000))&&((decide (0≤s.Line)&&decide (s.Line≤3))&&(decide (0≤s.Tugs)&&decide (s.Tugs≤4)))))
theorem pt(a b:W):(if a=F then G b else G E)=G (a&&b):=by cases a<;>rfl
theorem Ie{s:X8}(h:s.Name.length≤maxLen):Do s=G (Cs s):=by
 have e:(decide (0≤s.Line)&&decide (s.Line<4))=(decide (0≤s.Line)&&decide (s.Line≤3)):=by
  congr 1
  rw[yJ]; simp; omega
 simp only[Do,VK h,Cu,Ig,C,pt,Cs,e]
theorem Se{s:X8}(h:Cs s=F):GA s.Name=F∧i64 s.Length∧i64 s.Draught∧i64 s.Line∧i64 s.Tugs:=by
 simp only[Cs,zA,decide_eq_true_eq] at h;unfold i64;exact⟨h.1,by omega,by omega,by omega,by omega⟩
def N1(xs:O X8)(s:O Y)(i:X):W:=match xs[i]? with
 | some x=>decide (x.Name=s)
 | none=>E
def Ix(xs:O X8)(s:O Y):V:=(yH 0 xs.length).foldr (fun i r=>if N1 xs s i=F then(i:V) else r) (-1)
theorem P0{xs:O X8}{s:O Y}(h:xs.length≤maxLen):Dn xs s=G (Ix xs s):=by
 unfold Dn;exact(MU (HI s xs) xs.length h (fun i r=>if N1 xs s i=F then G (i:V) else r) (G (-1)) (fun n i hi=>by simp[HI,Bz,hi,N1]) (fun n=>by simp[HI]) xs.length 0 bigN (by omega) (Aj h)).trans (QY _ _ _ _ _)
def OB(xs:O X8)(i:X):W:=match xs[i]? with
 | some x=>Cs x&&decide (Ix xs x.Name=(i:V))
 | none=>E
def FA(xs:O X8):W:=decide (xs.length≤6)&&(zF xs.length).all (OB xs)
theorem TG(a b:V):(a !=b)= !decide (a=b):=rfl
theorem VJ{xs:O X8}(hn:∀x∈xs,x.Name.length≤maxLen):Jj xs=G (FA xs):=by
 unfold Jj FA;by_cases h:xs.length≤6
 ·have h':¬(6:V)<xs.length:=by omega
  have hm:xs.length≤maxLen:=by rw[Bo]; omega
  simp only[h,h',decide_true,decide_false,zC,if_false,yD];refine dL (L:=Hp xs) xs.length (OB xs) hm (fun n i hi=> ?_) (fun n=>by simp[Hp]);simp only[Hp,Ag,hi,decide_true,if_true,Aa hi,C,Ie (hn _ (zB hi)),P0 hm,OB,I hi,TG];cases Cs xs[i]<;>by_cases e:Ix xs xs[i].Name=(i:V)<;>simp[e]
 ·have h':(6:V)<xs.length:=by omega
  simp[h,h']
theorem DK{xs:O X8}(h:FA xs=F):xs.length≤6∧∀x∈xs,Cs x=F:=by
 simp only[FA,zA,decide_eq_true_eq,zK,zV] at h;refine⟨h.1,fun x hx=> ?_⟩;obtain⟨i,hi,rfl⟩:=zH hx;have:=h.2 i hi;simp only[OB,I hi,zA] at this
 exact this.1
def Bv(x:X7)(s:X8):V:=if s.Slow=F then IntKind.i64.wrap (2*x.Minutes) else x.Minutes
def BP(c:Y):O Y→O Y→O (O Y)
 | cur,[]=> [cur]
 | cur,b::r=>if b=c then cur::BP c [] r else BP c (cur++ [b]) r
def split(c:Y)(s:O Y):O (O Y):=BP c [] s
theorem Ms(x:X7)(s:X8):Fl s x=G (Bv x s):=by unfold Fl Bv; split<;>rfl
def Be(c:X4)(i:V):X7:=c.Segments[i.toNat]?.getD ⟨0,0,0,0,E⟩
def BK(l:O X8)(i:V):X8:=l[i.toNat]?.getD ⟨[],0,0,0,0,E⟩
theorem GC{α:Type}{l:O α}{i:V}(d:α)(h:idx i l.length=F):ix l i=G (l[i.toNat]?.getD d)∧l[i.toNat]?.getD d∈l:=by
 simp only[idx,zA,decide_eq_true_eq] at h;obtain⟨k,rfl⟩:∃k:X,i=(k:V):=⟨i.toNat,by omega⟩;have hk:k<l.length:=by omega
 have e:l[((k:X):V).toNat]?.getD d=l[k]:=by simp[hk]
 rw[Aa hk,e];exact⟨Z,zB hk⟩
theorem Cn{c:X4}{i:V}(h:idx i c.Segments.length=F):ix c.Segments i=G (Be c i)∧Be c i∈c.Segments:=GC _ h
theorem FF{l:O X8}{i:V}(h:idx i l.length=F):ix l i=G (BK l i)∧BK l i∈l:=GC _ h
theorem CR(i:V)(n:X):B8 i (n:V)=G (idx i n):=Ig i n
def Iq(p:V):W:=(decide (4≤p)&&decide (p≤2880))&&(IntKind.i64.wrap (kS p 4)==0)
def MR(x:Xf):W:=(decide (0≤x.Amp)&&decide (x.Amp≤1000))&&(Iq x.Period&&(decide (0≤x.Phase)&&decide (x.Phase≤IntKind.i64.wrap (x.Period - 1))))
def FS(t:Xq):W:=(decide (-1000≤t.Mean)&&decide (t.Mean≤1000))&&(decide (t.Parts.length≤4)&&t.Parts.all MR)
theorem W4(p:V):JE p=G (Iq p):=by
 simp only[JE,Cu,C,Iq];cases(decide (4≤p)&&decide (p≤2880))<;>rfl
theorem pw(x:Xf):Lm x=G (MR x):=by
 simp only[Lm,Cu,W4,C,MR];cases(decide (0≤x.Amp)&&decide (x.Amp≤1000))<;>cases Iq x.Period<;>rfl
theorem qA(t:Xq):LF t=G (FS t):=by
 simp only[LF,Cu,C,FS];cases(decide (-1000≤t.Mean)&&decide (t.Mean≤1000)) with
 | false=>rfl
 | true=>
  by_cases h1:t.Parts.length≤4
  ·have h1':¬(4:V)<t.Parts.length:=by omega
   rw[Nu (L:=HL t) t.Parts MR (by rw[Bo]; omega) (fun n i hi=>by simp only[HL,Bz,I hi,C,Ag,hi,decide_true,if_true,pw]) (fun n=>by simp[HL])];simp[h1,h1']
  ·have h1':(4:V)<t.Parts.length:=by omega
   simp[h1,h1']
def Ks(x p:V):V:=if x<IntKind.i64.wrap (zJ p 2) then
  IntKind.i64.wrap (zJ (IntKind.i64.wrap (IntKind.i64.wrap (40000*x)*IntKind.i64.wrap (IntKind.i64.wrap (zJ p 2) - x))) (IntKind.i64.wrap (IntKind.i64.wrap (zJ p 2)*IntKind.i64.wrap (zJ p 2))))
 else IntKind.i64.wrap (0 - IntKind.i64.wrap (zJ (IntKind.i64.wrap (IntKind.i64.wrap (40000*IntKind.i64.wrap (x - IntKind.i64.wrap (zJ p 2)))*IntKind.i64.wrap (IntKind.i64.wrap (zJ p 2) - IntKind.i64.wrap (x - IntKind.i64.wrap (zJ p 2))))) (IntKind.i64.wrap (IntKind.i64.wrap (zJ p 2)*IntKind.i64.wrap (zJ p 2)))))
theorem WS{p:V}(h:Iq p=F):4≤p∧p≤2880∧IntKind.i64.wrap (kS p 4)=0:=by
 simp only[Iq,zA,decide_eq_true_eq,beq_iff_eq] at h;exact⟨h.1.1,h.1.2,h.2⟩
theorem oz{p:V}(h1:4≤p)(h2:p≤2880):(IntKind.i64.wrap (IntKind.i64.wrap (zJ p 2)*IntKind.i64.wrap (zJ p 2))==0)=E:=by
 have e:zJ p 2=p / 2:=zI (by omega);rw[e,Ah (n:=p / 2) (by omega) (by omega)];generalize hq:p / 2=q
 have q1:2≤q:=by omega
 have q2:q≤1440:=by omega
 have m1:2*2≤q*q:=Int.mul_le_mul q1 q1 (by omega) (by omega);have m2:q*q≤1440*1440:=Int.mul_le_mul q2 q2 (by omega) (by omega);rw[Ah (by omega) (by omega)];simp only[beq_eq_false_iff_ne,ne_eq];omega
theorem qB{n p:V}(hp:Iq p=F)(hn:0≤n)(hn2:n≤100000):LI n p=G (Ks (kS n p) p):=by
 obtain⟨p1,p2,p3⟩:=WS hp;have hm:kS n p=n % p:=zQ hn;have r1:=kM n (show p≠0 by omega);have r2:=kB n (show 0<p by omega);have k3:(p==0)=E:=by simp; omega
 have hmm:kS (n % p+p) p=n % p:=by
  rw[zQ (by omega),Int.add_emod_right,Int.emod_emod]
 unfold LI;rw[W4,hp,C,hm,Ah (n:=n % p) (by omega) (by omega),Ah (n:=n % p+p) (by omega) (by omega),hmm,Ah (n:=n % p) (by omega) (by omega),oz p1 p2];simp only[k3,zC,if_false,if_true,decide_eq_true_eq];unfold Ks;by_cases hx:n % p<IntKind.i64.wrap (zJ p 2)
 ·rw[if_pos hx,if_neg (by omega)]
 ·rw[if_neg hx,if_pos (by omega)]
def Kl(x:Xc):W:=(decide (0≤x.From)&&decide (x.From≤2880))&&((decide (-500≤x.Low)&&decide (x.Low≤500))&&(decide (x.Low≤x.High)&&decide (x.High≤500)))
theorem pz(x:Xc):LD x=G (Kl x):=by
 simp only[LD,Ee,C,Kl];cases(decide (0≤x.From)&&decide (x.From≤2880))
 ·rfl
 ·by_cases a1: -500≤x.Low<;>by_cases a2:x.Low≤x.High<;>by_cases a3:x.High≤500<;>by_cases a4:x.Low≤500<;>simp[a1,a2,a3,a4]
  omega
def N3(l:O Xc)(i:X):W:=match l[i]? with
 | some x=>Kl x&&(match i with | 0=>F | j+1=>match l[j]? with | some y=> !(decide (x.From≤y.From)) | none=>E)
 | none=>E
def YF(l:O Xc):W:=match l[0]? with
 | some x=>decide (x.From=0)
 | none=>E
def D3(f:Xb):W:=FS f.Tide&&((decide (1≤(f.Surges.length:V))&&decide ((f.Surges.length:V)≤6))&&(YF f.Surges&&(zF f.Surges.length).all (N3 f.Surges)))
theorem A09(j:X)(h:j≤1000):IntKind.i64.wrap (((j+1:X):V) - 1)=(j:V):=by
 rw[Ah (by omega) (by omega)];omega
theorem JV(f:Xb):DI f=G (D3 f):=by
 simp only[DI,qA,Cu,C,D3];cases FS f.Tide with
 | false=>rfl
 | true=>
  cases hb:(decide (1≤(f.Surges.length:V))&&decide ((f.Surges.length:V)≤6)) with
  | false=>rfl
  | true=>
   simp only[zA,decide_eq_true_eq] at hb
   have h0:0<f.Surges.length:=by omega
   have hl:f.Surges.length≤maxLen:=by rw[Bo]; omega
   rw[Nv (L:=G7 f) f.Surges.length (N3 f.Surges) (G F) hl (fun n i hi=> ?_) (fun n=>by simp[G7])]
   ·have e0:ix f.Surges 0=G f.Surges[0]:=Aa h0;simp only[e0,C,YF,I h0,yD,if_true];by_cases e:f.Surges[0].From=0<;>cases(zF f.Surges.length).all (N3 f.Surges)<;>simp[e]
   ·simp only[G7,Bz,I hi,C,Ag,hi,decide_true,if_true,pz,N3];cases i with
    | zero=>cases Kl f.Surges[0]<;>simp
    | succ j=>
     have hj:j<f.Surges.length:=by omega
     rw[A09 j (by omega)];simp only[Bz,I hj,C];have hp:(0:V)<((j+1:X):V):=by omega
     cases Kl f.Surges[j+1]<;>cases decide (f.Surges[j+1].From≤f.Surges[j].From)<;>simp
theorem Md{f:Xb}(h:D3 f=F):FS f.Tide=F∧0<f.Surges.length∧f.Surges.length≤6:=by
 simp only[D3,zA,decide_eq_true_eq] at h;refine⟨h.1,?_,?_⟩<;>omega
def D7(m:V):W:=decide (0≤m)&&decide (m≤2880)
theorem wy{a b:V}(hb:1≤b){B:V}(h1: -B≤a)(h2:a≤B): -B≤zJ a b∧zJ a b≤B:=by
 have hB:0≤B:=by omega
 by_cases ha:0≤a
 ·rw[zI ha];have:=yW ha (show 0≤b by omega);have:=Int.ediv_le_self b ha;omega
 ·obtain⟨c,rfl⟩:∃c,a= -c:=⟨-a,by omega⟩;rw[kZ,zI (by omega)];have:=yW (show 0≤c by omega) (show 0≤b by omega);have:=Int.ediv_le_self b (show 0≤c by omega);omega
theorem Pk{a b A B:V}(a1: -A≤a)(a2:a≤A)(b1: -B≤b)(b2:b≤B): -(A*B)≤a*b∧a*b≤A*B:=by
 have hA:0≤A:=by omega
 have hB:0≤B:=by omega
 have h:(a*b).natAbs≤(A*B).natAbs:=by
  rw[Int.natAbs_mul,Int.natAbs_mul];exact kQ (by omega) (by omega)
 have hp:0≤A*B:=Int.mul_nonneg hA hB;omega
theorem A0t{x p:V}(h0:0≤x)(hx:x<p)(p1:4≤p)(p2:p≤2880): -200000000000≤Ks x p∧Ks x p≤200000000000:=by
 have e:zJ p 2=p / 2:=zI (by omega);unfold Ks;rw[e,Ah (n:=p / 2) (by omega) (by omega)];generalize hq:p / 2=q
 have q1:2≤q:=by omega
 have q2:q≤1440:=by omega
 have qq:=Pk (a:=q) (b:=q) (A:=1440) (B:=1440) (by omega) (by omega) (by omega) (by omega);have q4:2*2≤q*q:=Int.mul_le_mul q1 q1 (by omega) (by omega);rw[Ah (n:=q*q) (by omega) (by omega)]
 have key:∀y:V,-3000≤y→y≤3000→ -200000000000≤zJ (IntKind.i64.wrap (IntKind.i64.wrap (40000*y)*IntKind.i64.wrap (q - y))) (q*q)∧zJ (IntKind.i64.wrap (IntKind.i64.wrap (40000*y)*IntKind.i64.wrap (q - y))) (q*q)≤200000000000*5:=by
  intro y y1 y2;rw[Ah (n:=40000*y) (by omega) (by omega),Ah (n:=q - y) (by omega) (by omega)];have m:=Pk (a:=40000*y) (b:=q - y) (A:=120000000) (B:=5000) (by omega) (by omega) (by omega) (by omega);rw[Ah (by omega) (by omega)];have t:=wy (b:=q*q) (show 1≤q*q by omega) (B:=600000000000) (a:=40000*y*(q - y)) (by omega) (by omega)
  have t4:∀a:V,-600000000000≤a→a≤600000000000→ -150000000000≤zJ a (q*q)∧zJ a (q*q)≤150000000000:=by
   intro a a1 a2
   have hd:∀c:V,0≤c→c≤600000000000→0≤c / (q*q)∧c / (q*q)≤150000000000:=by
    intro c c1 c2;refine⟨yW c1 (by omega),?_⟩;have h3:=Int.mul_ediv_self_le (x:=c) (k:=q*q) (by omega);have h4:0≤c / (q*q):=yW c1 (by omega);have h5:4*(c / (q*q))≤q*q*(c / (q*q)):=kN (by omega) h4;omega
   by_cases ha:0≤a
   ·rw[zI ha];have:=hd a ha a2;omega
   ·obtain⟨c,rfl⟩:∃c,a= -c:=⟨-a,by omega⟩;rw[kZ,zI (by omega)];have:=hd c (by omega) (by omega);omega
  have:=t4 (40000*y*(q - y)) (by omega) (by omega);omega
 have key2:∀y:V,-3000≤y→y≤3000→ -150000000000≤zJ (IntKind.i64.wrap (IntKind.i64.wrap (40000*y)*IntKind.i64.wrap (q - y))) (q*q)∧zJ (IntKind.i64.wrap (IntKind.i64.wrap (40000*y)*IntKind.i64.wrap (q - y))) (q*q)≤150000000000:=by
  intro y y1 y2;rw[Ah (n:=40000*y) (by omega) (by omega),Ah (n:=q - y) (by omega) (by omega)];have m:=Pk (a:=40000*y) (b:=q - y) (A:=120000000) (B:=5000) (by omega) (by omega) (by omega) (by omega);rw[Ah (by omega) (by omega)]
  have hd:∀c:V,0≤c→c≤600000000000→0≤c / (q*q)∧c / (q*q)≤150000000000:=by
   intro c c1 c2;have h4:0≤c / (q*q):=yW c1 (by omega);refine⟨h4,?_⟩;have h3:=Int.mul_ediv_self_le (x:=c) (k:=q*q) (by omega);have h5:4*(c / (q*q))≤q*q*(c / (q*q)):=kN (by omega) h4;omega
  generalize hz:40000*y*(q - y)=z at m
  by_cases ha:0≤z
  ·rw[zI ha];have:=hd z ha (by omega);omega
  ·obtain⟨c,rfl⟩:∃c,z= -c:=⟨-z,by omega⟩;rw[kZ,zI (by omega)];have:=hd c (by omega) (by omega);omega
 split
 ·have:=key2 x (by omega) (by omega);rw[Ah (by omega) (by omega)];omega
 ·rw[Ah (n:=x - q) (by omega) (by omega)];have:=key2 (x - q) (by omega) (by omega);rw[Ah (n:=zJ _ _) (by omega) (by omega),Ah (by omega) (by omega)];omega
theorem YH{f:Xb}(hf:D3 f=F)(a:X)(ha:a<f.Surges.length): -500≤f.Surges[a].Low∧f.Surges[a].Low≤500∧f.Surges[a].Low≤f.Surges[a].High∧f.Surges[a].High≤500:=by
 simp only[D3,zA,zK,zV] at hf
 have:=hf.2.2.2 a ha;simp only[N3,I ha,zA,Kl,decide_eq_true_eq] at this
 omega
def IZ(w:Xr):W:=(decide (0≤w.Tugs)&&decide (w.Tugs≤12))&&((decide (0≤w.Pilots)&&decide (w.Pilots≤12))&&(D7 w.Rest&&(decide (w.Moves.length=64)&&w.Moves.all fun x=>decide (0≤x)&&decide (x≤240))))
theorem VG(a b:W):(if a=F then G b else G E)=G (a&&b):=by cases a<;>rfl
theorem WB{l:O V}(h:l.length≤maxLen):Gr l bigN 0=G (l.all fun x=>decide (0≤x)&&decide (x≤240)):=
 Nu (L:=Gr l) l _ h (fun n i hi=>by simp[Gr,Bz,hi,Cu]) (fun n=>by simp[Gr])
theorem Rn{w:Xr}(h:w.Moves.length≤maxLen):Hm w=G (IZ w):=by
 simp only[Hm,Gq,Cu,Ee,C,WB h,IZ,D7];by_cases e:w.Moves.length=64
 ·have e':((w.Moves.length:V) !=64)=E:=by simp; omega
  simp only[e,e',zC,if_false,decide_true,yD,C];cases(decide (0≤w.Tugs)&&decide (w.Tugs≤12))<;>cases(decide (0≤w.Pilots)&&decide (w.Pilots≤12))<;>cases(decide (0≤w.Rest)&&decide (w.Rest≤2880))<;>rfl
 ·have e':((w.Moves.length:V) !=64)=F:=by simp; omega
  simp only[e,e',if_true,decide_false,Bool.false_and,Bool.and_false,C];cases(decide (0≤w.Tugs)&&decide (w.Tugs≤12))<;>cases(decide (0≤w.Pilots)&&decide (w.Pilots≤12))<;>cases(decide (0≤w.Rest)&&decide (w.Rest≤2880))<;>rfl
def XG(r:Xm):W:=decide (0≤r.Gap)&&decide (r.Gap≤60)
def Ap(h:X1):W:=D3 h.Forecast&&(AQ h.Chart&&(FA h.Fleet&&(XG h.Regime&&IZ h.Crew)))
structure HSmall (h:X1):Prop where
 pn:∀x∈h.Chart.Points,x.Name.length≤maxLen
 fn:∀x∈h.Fleet,x.Name.length≤maxLen
 mv:h.Crew.Moves.length≤maxLen
theorem Mr{h:X1}(s:HSmall h):G8 h=G (Ap h):=by
 simp only[G8,O9,JV,D6 s.pn,VJ s.fn,Rn s.mv,Cu,C,VG,Ap,XG]
theorem MY{c:X4}(h:AQ c=F):c.Points.length≤8∧c.Segments.length≤10∧∀x∈c.Segments,0≤x.Depth∧x.Depth≤3000∧1≤x.Minutes∧x.Minutes≤240:=by
 simp only[AQ,zA,decide_eq_true_eq,zK,zV] at h;obtain⟨h1,h2,h3,h4⟩:=h;refine⟨h1,h2,fun x hx=> ?_⟩;obtain⟨i,hi,rfl⟩:=zH hx;have:=h4 i hi;simp only[GN,I hi,zA,decide_eq_true_eq] at this
 omega
def DA(c:X4)(fl:O X8)(p:X2):W:=idx p.Ship fl.length&&(idx p.Segment c.Segments.length&&(D7 p.Start&&(decide (p.End≤2880)&&decide (p.End=IntKind.i64.wrap (p.Start+Bv (Be c p.Segment) (BK fl p.Ship))))))
theorem qD{c:X4}{fl:O X8}{p:X2}:M1 c fl p=G (DA c fl p):=by
 unfold M1;simp only[CR,C,Ee,DA,D7];cases h3:idx p.Ship fl.length with
 | false=>simp
 | true=>
  cases h4:idx p.Segment c.Segments.length with
  | false=>simp
  | true=>
   cases h5:decide (0≤p.Start)&&decide (p.Start≤2880) with
   | false=>simp
   | true=>
    simp only[if_true,yD,(FF h3).1,(Cn h4).1,C,Ms];have e0:decide (2880<p.End)= !decide (p.End≤2880):=by rw[yJ]; simp
    rw[e0];cases decide (p.End≤2880)<;>simp;rfl
theorem DB{c:X4}{fl:O X8}{p:X2}(hc:AQ c=F)(h:DA c fl p=F):idx p.Ship fl.length=F∧idx p.Segment c.Segments.length=F∧0≤p.Start∧p.Start≤p.End∧p.End≤2880:=by
 simp only[DA,D7,zA,decide_eq_true_eq] at h;obtain⟨h3,h4,h5,h6,h7⟩:=h;refine⟨h3,h4,h5.1,?_,h6⟩;obtain⟨_,_,a,b⟩:=(MY hc).2.2 _ (Cn h4).2;rw[h7];unfold Bv;split
 ·rw[Ah (n:=2*_) (by omega) (by omega),Ah (by omega) (by omega)]; omega
 ·rw[Ah (by omega) (by omega)]; omega
def Y8(s:X8):V:=if s.Slow=F then IntKind.i64.wrap (zJ s.Draught 50) else IntKind.i64.wrap (zJ s.Draught 20)
def Pl(c:X4)(i:V)(s:X8):V:=IntKind.i64.wrap (IntKind.i64.wrap (IntKind.i64.wrap (s.Draught+Y8 s)+50) - (Be c i).Depth)
theorem pv{c:X4}{s:X8}{i:V}(hn:∀x∈c.Points,x.Name.length≤maxLen)(hs:s.Name.length≤maxLen)(h1:AQ c=F)(h2:Cs s=F)(h3:idx i c.Segments.length=F):Le c i s=G (Pl c i s):=by
 unfold Le JH Ob Oc;simp only[D6 hn,Ie hs,h1,h2,C,if_true,CR,h3,(Cn h3).1,Pl,Y8];cases s.Slow<;>rfl
structure CurOk (c:Xl):Prop where
 i0:0≤c.i
 i1:c.i≤(c.b.length:V)
 len:c.b.length≤maxLen
theorem Nw(x:V):0≤AM .and .i64 x 255∧AM .and .i64 x 255≤255:=by
 have h:(BitVec.ofInt IntKind.i64.bits x &&& BitVec.ofInt IntKind.i64.bits 255).toNat≤255:=by
  rw[BitVec.toNat_and];exact yC Nat.and_le_right (by decide)
 have e:AM .and .i64 x 255=((BitVec.ofInt IntKind.i64.bits x &&& BitVec.ofInt IntKind.i64.bits 255).toNat:V):=by
  unfold AM;exact Ah (by omega) (by omega)
 rw[e];omega
theorem KI{c:Xl}(h:CurOk c):∃v c',Fy c=G (v,c')∧CurOk c'∧0≤v∧v≤255:=by
 unfold Fy;have hl:=h.len;rw[Bo] at hl
 by_cases hlt:c.i<(c.b.length:V)
 ·obtain⟨i,hi⟩:∃i:X,c.i=(i:V):=⟨c.i.toNat,by have:=h.i0; omega⟩;have h2:i<c.b.length:=by omega
  simp only[hlt,decide_true,if_true];rw[hi,Aa h2];simp only[C];refine⟨_,_,Z,⟨?_,?_,h.len⟩,(Nw _).1,(Nw _).2⟩
  ·show 0≤IntKind.i64.wrap ((i:V)+1)
   rw[Ah (by omega) (by omega)]; omega
  ·show IntKind.i64.wrap ((i:V)+1)≤(c.b.length:V)
   rw[Ah (by omega) (by omega)]; omega
 ·simp only[hlt,decide_false,zC,if_false];exact⟨_,_,Z,⟨h.i0,h.i1,h.len⟩,(Nw _).1,(Nw _).2⟩
theorem Qg{c:Xl}{n:V}(h:CurOk c)(hn:n≤1000000):∃v c',I3 c n=G (v,c')∧CurOk c'∧0≤v∧(0<n→v<n)∧(n≤0→v=0):=by
 unfold I3;by_cases h0:n≤0
 ·simp only[h0,decide_true,if_true];exact⟨0,c,Z,h,by omega,fun h=>by omega,fun _=>rfl⟩
 simp only[h0,decide_false,zC,if_false];have hne:(n==0)=E:=by simpa using fun e:n=0=>h0 (by omega)
 by_cases h1:n≤256
 ·obtain⟨v,c',e,k1,k2,k3⟩:=KI h;simp only[h1,decide_true,if_true,e,C,hne,zC,if_false];have hm:=kM v (b:=n) (by omega);have hm2:=kB v (b:=n) (by omega);refine⟨_,_,Z,k1,?_,?_,fun h=>by first | exact h.elim | exact absurd h h0⟩
  ·rw[zQ k2,Ah (by omega) (by omega)]; exact hm
  ·intro _; rw[zQ k2,Ah (by omega) (by omega)]; exact hm2
 ·obtain⟨v1,c1,e1,a1,a2,a3⟩:=KI h;obtain⟨v2,c2,e2,b1,b2,b3⟩:=KI a1;obtain⟨v3,c3,e3,d1,d2,d3⟩:=KI b1;obtain⟨v4,c4,e4,g1,g2,g3⟩:=KI d1;simp only[h1,decide_false,zC,if_false,e1,e2,e3,e4,C,hne]
  rw[Ah (n:=v1*16777216) (by omega) (by omega),Ah (n:=v2*65536) (by omega) (by omega),Ah (n:=v3*256) (by omega) (by omega),Ah (n:=v1*16777216+v2*65536) (by omega) (by omega),
   Ah (n:=v1*16777216+v2*65536+v3*256) (by omega) (by omega),Ah (n:=v1*16777216+v2*65536+v3*256+v4) (by omega) (by omega)]
  have k2:0≤v1*16777216+v2*65536+v3*256+v4:=by omega
  have hm:=kM (v1*16777216+v2*65536+v3*256+v4) (b:=n) (by omega);have hm2:=kB (v1*16777216+v2*65536+v3*256+v4) (b:=n) (by omega);refine⟨_,_,Z,g1,?_,?_,fun h=>by first | exact h.elim | exact absurd h h0⟩
  ·rw[zQ k2,Ah (by omega) (by omega)]; exact hm
  ·intro _; rw[zQ k2,Ah (by omega) (by omega)]; exact hm2
theorem tB{a:O V}(ha:a.length≤maxLen):∃c,Mc a=G c∧CurOk c:=by
 unfold Mc
 have key:∀(k i n:X) (v:V),i+k=a.length→k<n→∃c,I4 a n v (i:V)=G c∧CurOk c:=by
  intro k
  induction k with
  | zero=>
   intro i n v hi hn;obtain⟨m,rfl⟩:=sn (n:=n) (by omega);have:i=a.length:=by omega
   subst this;exact⟨_,by simp[I4,JM]; rfl,⟨by simp,by simp,ha⟩⟩
  | succ k ih=>
   intro i n v hi hn;obtain⟨m,rfl⟩:=sn (n:=n) (by omega);have hlt:i<a.length:=by omega
   simp only[I4,Ag,hlt,decide_true,if_true,Aa hlt,C,Ak hlt ha];by_cases h4:(i:V)<4000
   ·simp only[h4,decide_true,if_true];exact ih (i+1) m _ (by omega) (by omega)
   ·simp only[h4,decide_false,zC,if_false,JM];exact⟨_,Z,⟨by simp,by simp,ha⟩⟩
 exact key a.length 0 bigN _ (by omega) (Aj ha)
theorem xN{n:V}(h0:0≤n)(h1:n<18446744073709551616):IntKind.u64.wrap n=n:=by
 simp only[IntKind.wrap,IntKind.bits,IntKind.signed];have:n % 18446744073709551616=n:=Int.emod_eq_of_lt h0 h1;simp[this]
theorem Ef{n:X}(h:n<2 ^ 63):IntKind.i64.wrap (n:V)=n:=Ah (by omega) (by omega)
theorem Ka{n:X}(h:n<2 ^ 64):IntKind.u64.wrap (n:V)=n:=xN (by omega) (by omega)
theorem K3{s n:X}(h:∀i,s.testBit i=F→i<n):s<2 ^ n:=Nat.lt_pow_two_of_testBit s fun i hi=>by
 cases hb:s.testBit i with
 | false=>rfl
 | true=>have:=h i hb; omega
theorem Tn{a b n:X}(h:a<2 ^ n):AD a b<2 ^ n:=K3 fun i hi=>by
 rw[EW,zA] at hi
 exact GS h hi.1
theorem GH{w n:X}(h:n<2 ^ w):(BitVec.ofInt w (n:V)).toNat=n:=by
 rw[BitVec.ofInt_natCast,BitVec.toNat_ofNat,Nat.mod_eq_of_lt h]
theorem TI{w a b:X}(ha:a<2 ^ w)(hb:b<2 ^ w):(BitVec.ofInt w (a:V) &&& ~~~ BitVec.ofInt w (b:V)).toNat=AD a b:=by
 rw[BitVec.toNat_and,BitVec.toNat_not,GH ha,GH hb];apply yQ
 intro i;rw[show 2 ^ w - 1 - b=2 ^ w - (b+1) by omega,yV,Nat.testBit_two_pow_sub_succ hb,EW];cases hi:a.testBit i with
 | false=>rfl
 | true=>simp[GS ha hi]
theorem dN{a b:X}(ha:a<2 ^ 63)(hb:b<2 ^ 63):AM .and .i64 (a:V) (b:V)=((a &&& b:X):V):=by
 show IntKind.i64.wrap ((BitVec.ofInt 64 (a:V) &&& BitVec.ofInt 64 (b:V)).toNat:V)=_
 rw[BitVec.toNat_and,GH (zW ha (by decide)),GH (zW hb (by decide)),Ef (Nat.and_lt_two_pow a hb)]
theorem tb{a b:X}(ha:a<2 ^ 63)(hb:b<2 ^ 63):AM .or .i64 (a:V) (b:V)=((a ||| b:X):V):=by
 show IntKind.i64.wrap ((BitVec.ofInt 64 (a:V) ||| BitVec.ofInt 64 (b:V)).toNat:V)=_
 rw[BitVec.toNat_or,GH (zW ha (by decide)),GH (zW hb (by decide)),Ef (kD ha hb)]
theorem Tl{a b:X}(ha:a<2 ^ 63)(hb:b<2 ^ 63):AM .andNot .i64 (a:V) (b:V)=((AD a b:X):V):=by
 show IntKind.i64.wrap ((BitVec.ofInt 64 (a:V) &&& ~~~ BitVec.ofInt 64 (b:V)).toNat:V)=_
 rw[TI (zW ha (by decide)) (zW hb (by decide)),Ef (Tn ha)]
theorem RQ{a b:X}(ha:a<2 ^ 64)(hb:b<2 ^ 64):AM .or .u64 (a:V) (b:V)=((a ||| b:X):V):=by
 show IntKind.u64.wrap ((BitVec.ofInt 64 (a:V) ||| BitVec.ofInt 64 (b:V)).toNat:V)=_
 rw[BitVec.toNat_or,GH ha,GH hb,Ka (kD ha hb)]
theorem KE{a b:X}(ha:a<2 ^ 64)(hb:b<2 ^ 64):AM .andNot .u64 (a:V) (b:V)=((AD a b:X):V):=by
 show IntKind.u64.wrap ((BitVec.ofInt 64 (a:V) &&& ~~~ BitVec.ofInt 64 (b:V)).toNat:V)=_
 rw[TI ha hb,Ka (Tn ha)]
theorem Pz{n:X}(h:n≤20):Bi .i64 (1:V) (n:V)=((2 ^ n:X):V):=by
 have hp:2 ^ n<2 ^ 63:=yR (by omega) (by omega);unfold Bi;rw[zM,show min n IntKind.i64.bits=n by simp[IntKind.bits]; omega,Int.one_mul];have:((2:V) ^ n)=((2 ^ n:X):V):=by simp
 rw[this,Ef hp]
theorem Sf{n:X}(h:n≤20):Bi .u64 (1:V) (n:V)=((2 ^ n:X):V):=by
 have hp:2 ^ n<2 ^ 64:=yR (by omega) (by omega);unfold Bi;rw[zM,show min n IntKind.u64.bits=n by simp[IntKind.bits]; omega,Int.one_mul];have:((2:V) ^ n)=((2 ^ n:X):V):=by simp
 rw[this,Ka hp]
theorem eV(n:X):((n:V)==(0:V))=decide (n=0):=by
 rw[yJ];simp
def Wj:O Y:= [0,1,2,2,3,3,3,3,4,4,4,4,4,4,4,4,5,5,5,5,5,5,5,5,5,5,5,5,5,5,5,5,6,6,6,6,6,6,6,6,6,6,6,6,6,6,6,6,6,6,6,6,6,6,6,6,6,6,6,6,6,6,6,6,7,7,7,7,7,7,7,7,7,7,7,7,7,7,7,7,7,7,7,7,7,7,7,7,7,7,7,7,7,7,7,7,7,7,7,7,7,7,7,7,7,7,7,7,7,7,7,7,7,7,7,7,7,7,7,7,7,7,7,7,7,7,7,7,8,8,8,8,8,8,8,8,8,8,8,8,8,8,8,8,8,8,8,8,8,8,8,8,8,8,8,8,8,8,8,8,8,8,8,8,8,8,8,8,8,8,8,8,8,8,8,8,8,8,8,8,8,8,8,8,8,8,8,8,8,8,8,8,8,8,8,8,8,8,8,8,8,8,8,8,8,8,8,8,8,8,8,8,8,8,8,8,8,8,8,8,8,8,8,8,8,8,8,8,8,8,8,8,8,8,8,8,8,8,8,8,8,8,8,8,8,8,8,8,8,8,8,8,8,8,8,8]
theorem rk(v8 v9:V):JL v8 v9=(ix Wj (IntKind.u8.wrap v8)).bind fun b10=>G (IntKind.i64.wrap (v9+(IntKind.i64.wrap (b10.toNat:V)))):=rfl
def Wi(x:X):W:=match Wj[x]? with
 | some b=>decide (b.toNat≤8)&&(decide (x<2 ^ b.toNat)&&(x==0 || (decide (1≤b.toNat)&&decide (2 ^ (b.toNat - 1)≤x))))
 | none=>E
theorem rl:(zF 256).all Wi=F:=by kernel_rfl
theorem Wh{x:X}(hx:x<256)(n:V):∃l:X,JL (x:V) n=G (IntKind.i64.wrap (n+(l:V)))∧l≤8∧x<2 ^ l∧(0<x→1≤l∧2 ^ (l - 1)≤x):=by
 have h:=zK.1 rl x (by simpa using hx);unfold Wi at h;split at h
 ·rename_i b hb
  simp only[zA,decide_eq_true_eq,Bool.or_eq_true,beq_iff_eq] at h
  have hw:IntKind.u8.wrap (x:V)=(x:V):=by
   simp only[IntKind.wrap,IntKind.bits,IntKind.signed];have:(x:V) % 256=x:=Int.emod_eq_of_lt (by omega) (by omega);simp[this]
  refine⟨b.toNat,?_,h.1,h.2.1,fun h0=> ?_⟩
  ·rw[rk,hw,Bz,hb,C,Ef (n:=b.toNat) (by omega)]
  ·rcases h.2.2 with h3|h3
   ·omega
   ·exact h3
 ·cases h
theorem rq{s:X}(h1:1≤s)(h2:s<4096):∃t:X,JK (s:V)=G ((t+1:X):V)∧2 ^ t≤s∧s<2 ^ (t+1)∧t<12:=by
 have key:∃l:X,JK (s:V)=G ((l:X):V)∧1≤l∧2 ^ (l - 1)≤s∧s<2 ^ l:=by
  unfold JK Ou;rw[if_neg (by simp; omega)];unfold M8;rw[if_neg (by simp; omega)];unfold M9;by_cases hs:s<256
  ·rw[if_neg (by simp; omega)];obtain⟨l,e,l8,a1,a2⟩:=Wh hs 0;obtain⟨a3,a4⟩:=a2 h1;refine⟨l,?_,a3,a4,a1⟩;rw[e,C,Int.zero_add,Ef (by omega)]
  ·rw[if_pos (by simp; omega)]
   have e8:Bf .u64 (s:V) 8=((s / 256:X):V):=by
    unfold Bf;rw[show min 8 IntKind.u64.bits=8 by rfl,Int.fdiv_eq_ediv_of_nonneg _ (by decide)];have:((s:V) / 2 ^ 8)=((s / 256:X):V):=by simp
    rw[this,Ka (by omega)]
   have e9:IntKind.i64.wrap ((0:V)+8)=((8:X):V):=by rw[Ah (by omega) (by omega)]; rfl
   rw[e8,e9];obtain⟨l,e,l8,a1,a2⟩:=Wh (x:=s / 256) (by omega) ((8:X):V);obtain⟨a3,a4⟩:=a2 (by omega);refine⟨8+l,?_,by omega,?_,?_⟩
   ·have:((8:X):V)+(l:V)=((8+l:X):V):=by omega
    rw[e,C,this,Ef (by omega)]
   ·rw[show 8+l - 1=(l - 1)+8 by omega,Nat.pow_add];omega
   ·rw[Nat.add_comm,Nat.pow_add];omega
 obtain⟨l,e,a1,a2,a3⟩:=key;obtain⟨t,rfl⟩:=sn (n:=l) (by omega);refine⟨t,e,by simpa using a2,a3,?_⟩;rcases yB t 12 with h|h
 ·exact h
 ·have:=yP (show 0<2 by omega) h;simp at a2
  omega
theorem Ss{s t:X}(h1:2 ^ t≤s)(h2:s<2 ^ (t+1)):s.testBit t=F∧AD s (2 ^ t)<2 ^ t∧(∀i,(AD s (2 ^ t)).testBit i=F→s.testBit i=F)∧(∀i,s.testBit i=F→i=t∨(AD s (2 ^ t)).testBit i=F):=by
 have hb:∀i,(AD s (2 ^ t)).testBit i=(s.testBit i&& !decide (t=i)):=fun i=>(by rw[EW,ID])
 refine⟨Nat.testBit_of_two_pow_le_and_two_pow_add_one_gt h1 h2,K3 fun i hi=> ?_,fun i hi=> ?_,fun i hi=> ?_⟩
 ·rw[hb,zA] at hi
  have:=GS h2 hi.1;have h3:t≠i:=by simpa using hi.2
  omega
 ·rw[hb,zA] at hi
  exact hi.1
 ·by_cases h:i=t
  ·exact .inl h
  ·right
   rw[hb,hi];simpa using fun e:t=i=>h e.symm
theorem Xy{α β R:Type}{L:X→V→O β→U R}(xs:O α)(g:α→β)(K:O β→U R)(hl:xs.length≤maxLen)
  (hs:∀(n i:X) (acc:O β) (h:i<xs.length),acc.length=i→L (n+1) (i:V) acc=L n (IntKind.i64.wrap ((i:V)+1)) (acc++ [g xs[i]])) (he:∀n acc,acc.length=xs.length→L (n+1) (xs.length:V) acc=K acc):L bigN 0 []=K (xs.map g):=by
 have key:∀(k i n:X) (acc:O β),i+k=xs.length→k<n→acc=(xs.take i).map g→L n (i:V) acc=K (xs.map g):=by
  intro k
  induction k with
  | zero=>
   intro i n acc hi hn ha;obtain⟨m,rfl⟩:=sn (n:=n) (by omega);have:i=xs.length:=by omega
   subst this;rw[zP] at ha
   rw[he m acc (by rw[ha]; simp),ha]
  | succ k ih=>
   intro i n acc hi hn ha;obtain⟨m,rfl⟩:=sn (n:=n) (by omega);have hlt:i<xs.length:=by omega
   rw[hs m i acc hlt (by rw[ha]; simp; omega),Ak hlt hl];refine ih (i+1) m _ (by omega) (by omega) ?_;rw[zD hlt,yX,ha];rfl
 exact key xs.length 0 bigN [] (by omega) (Aj hl) (by simp)
def BE(d:Xd):W:=decide (0≤d.From)&&(decide (d.From<d.To)&&(decide (d.To≤2880)&&((decide (0≤d.A)&&decide (d.A<8))&&(decide (0≤d.B)&&decide (d.B<8)))))
theorem pu{R:Type}(a b c d e:W)(x y:R):(if(!a)=F then y else if(!b)=F then y else if(!c)=F then y else if d=F then(if e=F then x else y) else y)=if(a&&(b&&(c&&(d&&e))))=F then x else y:=by
 cases a<;>cases b<;>cases c<;>cases d<;>cases e<;>rfl
theorem JU{l:O Xd}:Hn l=G (decide (l.length≤12)&&l.all BE):=by
 unfold Hn;by_cases h:l.length≤12
 ·rw[if_neg (by simp; omega),Nu (L:=Ho l) l BE (by rw[Bo]; omega) (fun n i hi=> ?_) (fun n=>by simp[Ho])]
  ·simp[h]
  ·simp only[Ho,Ag,hi,decide_true,if_true,Aa hi,C,Ig,BE];generalize l[i]=d
   have g1:decide (d.From<0)= !decide (0≤d.From):=by by_cases h:0≤d.From<;>simp[h]<;>omega
   have g2:decide (d.To≤d.From)= !decide (d.From<d.To):=by by_cases h:d.From<d.To<;>simp[h]<;>omega
   have g3:decide (2880<d.To)= !decide (d.To≤2880):=by by_cases h:d.To≤2880<;>simp[h]<;>omega
   simp only[g1,g2,g3];exact pu _ _ _ _ _ _ _
 ·rw[if_pos (by simp; omega)];simp[h]
def Im(m:O V):W:=decide (m.length=64)&&m.all fun x=>decide (0≤x)&&decide (x≤240)
def CW(p:V)(m:O V):W:=D7 p&&Im m
theorem P3{m:O V}(h:m.length≤maxLen):Gq m=G (Im m):=by
 unfold Gq Im;rw[WB h];by_cases h1:m.length=64
 ·simp[h1]
 ·have:((m.length:V) !=64)=F:=by simpa using(by omega:¬((m.length:V)=64))
  simp[h1,this]
theorem Pj(p:V):Cd p=G (D7 p):=by rw[Ee]; rfl
def JO(p:V)(m:O V)(d e:Xd):W:=decide (IntKind.i64.wrap (d.To+IntKind.i64.wrap (p+m[(8*d.B+e.A).toNat]?.getD 0))≤e.From)
theorem Ue{d:Xd}(h:BE d=F):0≤d.From∧d.From<d.To∧d.To≤2880∧0≤d.A∧d.A<8∧0≤d.B∧d.B<8:=by
 simp only[BE,zA,decide_eq_true_eq] at h;omega
theorem sy{m:O V}(hm:Im m=F){b a:V}(h0:0≤b)(h1:b<8)(h2:0≤a)(h3:a<8):ix m (8*b+a)=G (m[(8*b+a).toNat]?.getD 0):=by
 simp only[Im,zA,decide_eq_true_eq] at hm
 obtain⟨k,hk⟩:∃k:X,8*b+a=(k:V):=⟨(8*b+a).toNat,by omega⟩;rw[hk,Bz,zM,I (by omega)];rfl
theorem VL{p:V}{m:O V}{d e:Xd}(hl:m.length≤maxLen)(ht:CW p m=F)(hd:BE d=F)(he:BE e=F):Jc p m d e=G (JO p m d e):=by
 obtain⟨_,_,_,_,_,b0,b1⟩:=Ue hd;obtain⟨_,_,_,a0,a1,_,_⟩:=Ue he;have ht':=ht;simp only[CW,zA] at ht'
 unfold Jc O2;have c1:(decide (0≤d.B)&&decide (d.B<8))=F:=by simp; omega
 have c2:(decide (0≤e.A)&&decide (e.A<8))=F:=by simp; omega
 have o1:(decide ([d].length≤12)&& [d].all BE)=F:=by simp[hd]
 have o2:(decide ([e].length≤12)&& [e].all BE)=F:=by simp[he]
 rw[Pj,ht'.1,C,if_pos rfl,P3 hl,ht'.2,C,if_pos rfl,Ig,c1,C,if_pos rfl,Ig,c2,C];unfold Hr;rw[if_neg (by simp),Ah (n:=8*d.B) (by omega) (by omega),Ah (n:=8*d.B+e.A) (by omega) (by omega),sy ht'.2 b0 b1 a0 a1,C,C,if_pos rfl,JU,o1,C,if_pos rfl,JU,o2,C,if_pos rfl];rfl
def CN(p:V)(m:O V)(l:O Xd)(i k:X):W:=match l[i]?,l[k]? with
 | some d,G e=>JO p m d e || JO p m e d
 | _,_=>E
theorem TH(p:V)(m:O V)(l:O Xd)(i k:X):CN p m l i k=CN p m l k i:=by
 unfold CN;cases l[i]?<;>cases l[k]?<;>simp[Bool.or_comm]
theorem NA{n m b:X}(h:n+m≤1000000)(hb:b≤100):A4 n m b=F:=by
 unfold A4;have:(n+m)*b≤1000000*100:=kQ h hb;simp;omega
def nn(ms:O X):O V:=ms.map fun x:X=>(x:V)
theorem EQ(ms:O X):(nn ms).length=ms.length:=by simp[nn]
theorem Eg{ms:O X}{i:X}(h:i<ms.length):ix (nn ms) (i:V)=G ((ms[i]:X):V):=by
 rw[Bz,nn,yL,I h]; rfl
theorem In(ms:O X)(i a:X):(nn ms).set i (a:V)=nn (ms.set i a):=by simp[nn,List.map_set]
theorem tL(ms:O X)(a:X):nn ms++ [(a:V)]=nn (ms++ [a]):=by simp[nn]
section
variable {p : V} {m : O V} {l : O Xd}
theorem fH{i k:X}(hi:i<l.length)(hk:k<l.length):CN p m l i k=(JO p m l[i] l[k] || JO p m l[k] l[i]):=by
 unfold CN;rw[I hi,I hk]
def F2(p:V)(m:O V)(l:O Xd)(i j:X):W:=decide (j<l.length)&&(decide (i≠j)&&CN p m l i j)
theorem tz(hl:m.length≤maxLen)(ht:CW p m=F)(hd:∀d∈l,BE d=F)(hN:l.length≤12)(K:V→O V→U (O V)){i:X}(hi:i<l.length)(ms:O X)(hms:ms.length=l.length) :
  ∀(r k n a:X),k+r=l.length→r<n→(∀j,a.testBit j=(decide (j<k)&&(decide (i≠j)&&CN p m l i j)))→
   ∃q,(∀j,q.testBit j=F2 p m l i j)∧E8 p m l (i:V) l[i] K n (k:V) (nn (ms.set i a))=K (IntKind.i64.wrap ((i:V)+1)) (nn (ms.set i q)):=by
 have hm:l.length≤maxLen:=by rw[Bo]; omega
 intro r
 induction r with
 | zero=>
  intro k n a hk hn ha;obtain⟨n,rfl⟩:=sn (n:=n) (by omega);refine⟨a,fun j=> ?_,?_⟩
  ·rw[ha,show k=l.length by omega]; rfl
  ·rw[E8,if_neg (by simp; omega)]
 | succ r ih=>
  intro k n a hk hn ha;obtain⟨n,rfl⟩:=sn (n:=n) (by omega);have hlt:k<l.length:=by omega
  have a12:a<2 ^ 12:=K3 fun j hj=>by
   rw[ha,zA,decide_eq_true_eq] at hj; omega
  have step:∀v:W,v=(decide (i≠k)&&CN p m l i k)→∃q,(∀j,q.testBit j=F2 p m l i j)∧HT p m l (i:V) (k:V) l[i] (nn (ms.set i a)) (E8 p m l (i:V) l[i] K n) v=K (IntKind.i64.wrap ((i:V)+1)) (nn (ms.set i q)):=by
   intro v hv;unfold HT;cases v with
   | true=>
    rw[if_pos rfl,Eg (by simp; omega),C,if_neg (by simp),Sf (by omega),kI];have h12:2 ^ k<2 ^ 64:=yR (by omega) (by omega);rw[RQ (zW a12 (by decide)) h12,zM,In,List.set_set,Ak hlt hm];refine ih (k+1) n _ (by omega) (by omega) fun j=> ?_
    rw[yN,ha,ID];by_cases hjk:k=j
    ·subst hjk;have hx:¬i=k∧CN p m l i k=F:=by simpa using hv.symm
     simp[hx.1,hx.2]
    ·have e:decide (j<k+1)=decide (j<k):=decide_eq_decide.2 (by omega);rw[e];simp[hjk]
   | false=>
    rw[if_neg (by simp),Ak hlt hm];refine ih (k+1) n a (by omega) (by omega) fun j=> ?_
    rw[ha];by_cases hjk:k=j
    ·subst hjk;rw[← hv];simp
    ·have e:decide (j<k+1)=decide (j<k):=decide_eq_decide.2 (by omega);rw[e]
  rw[E8,Ag,if_pos (by simpa using hlt),Aa hlt,C];by_cases hik:i=k
  ·subst hik;rw[if_neg (by simp)];exact step E (by simp)
  ·have hne:((i:V) !=(k:V))=F:=by simp; omega
   rw[if_pos hne,VL hl ht (hd _ (zB hi)) (hd _ (zB hlt)),C];have hb:=fH (p:=p) (m:=m) hi hlt;cases hf:JO p m l[i] l[k] with
   | true=>
    rw[if_pos rfl];exact step F (by rw[hb,hf]; simp[hik])
   | false=>
    rw[if_neg (by simp),VL hl ht (hd _ (zB hlt)) (hd _ (zB hi)),C];exact step _ (by rw[hb,hf]; simp[hik])
theorem VM(hl:m.length≤maxLen)(ht:CW p m=F)(hd:∀d∈l,BE d=F)(hN:l.length≤12):∃ms:O X,ms.length=l.length∧(∀i j:X,i<l.length→(ms[i]?.getD 0).testBit j=F2 p m l i j)∧M0 p m l=G (nn ms):=by
 have hm:l.length≤maxLen:=by rw[Bo]; omega
 have key:∀(r i n:X) (ms:O X),i+r=l.length→r<n→ms.length=l.length→(∀i' j:X,i'<i→(ms[i']?.getD 0).testBit j=F2 p m l i' j)→(∀i':X,i≤i'→ms[i']?.getD 0=0)→
   ∃ms':O X,ms'.length=l.length∧(∀i j:X,i<l.length→(ms'[i]?.getD 0).testBit j=F2 p m l i j)∧Ft p m l n (i:V) (nn ms)=G (nn ms'):=by
  intro r
  induction r with
  | zero=>
   intro i n ms hi hn hms h1 h2;obtain⟨n,rfl⟩:=sn (n:=n) (by omega);exact⟨ms,hms,fun i' j h=>h1 i' j (by omega),by rw[Ft,if_neg (by simp; omega)]⟩
  | succ r ih=>
   intro i n ms hi hn hms h1 h2;obtain⟨n,rfl⟩:=sn (n:=n) (by omega);have hlt:i<l.length:=by omega
   obtain⟨q,hq,e⟩:=tz hl ht hd hN (Ft p m l n) hlt ms hms l.length 0 bigN 0 (by omega) (Aj hm) (fun j=>by simp)
   have e0:ms.set i 0=ms:=by
    have h3:=h2 i (yT _);rw[I (by omega)] at h3
    have h3:ms[i]'(by omega)=0:=h3;apply List.ext_getElem (by simp)
    intro j hj1 hj2;by_cases hij:i=j
    ·subst hij; simp[h3]
    ·rw[List.getElem_set_ne hij]
   rw[e0] at e
   rw[Ft,Ag,if_pos (by simpa using hlt),Aa hlt,C];have e:E8 p m l (i:V) l[i] (Ft p m l n) bigN 0 (nn ms)=_:=e;rw[e,Ak hlt hm];refine ih (i+1) n (ms.set i q) (by omega) (by omega) (by simpa using hms) (fun i' j h=> ?_) (fun i' h=> ?_)
   ·by_cases hii:i=i'
    ·subst hii;rw[zZ (by omega)];exact hq j
    ·rw[zX hii];exact h1 i' j (by omega)
   ·rw[zX (by omega)];exact h2 i' (by omega)
 unfold M0;rw[RG (by omega) (by omega),C];have hz:zN l.length (0:V)=nn (zN l.length 0):=by simp[nn]
 rw[hz]
 exact key l.length 0 bigN _ (by omega) (Aj hm) (by simp) (fun i' j h=>by omega) (fun i' h=>by
  rw[List.getElem?_replicate];split<;>rfl)
end
section
variable {B : X → X → W} {N : X} {ms : O X}
def cy(B:X→X→W)(N:X)(ms:O X):Prop:=ms.length=N∧∀i j:X,i<N→(ms[i]?.getD 0).testBit j=(decide (j<N)&&(decide (i≠j)&&B i j))
theorem fw:EZ B 0:=fun i j hi=>by simp at hi
theorem fv(hB:∀i j,B i j=B j i){s t:X}(h1:2 ^ t≤s)(h2:s<2 ^ (t+1)):EZ B s↔EZ B (AD s (2 ^ t))∧∀i,(AD s (2 ^ t)).testBit i=F→B t i=F:=by
 obtain⟨a1,a2,a3,a4⟩:=Ss h1 h2;constructor
 ·intro h;exact⟨fun i j hi hj=>h i j (a3 i hi) (a3 j hj),fun i hi=>h t i a1 (a3 i hi) (by have:=GS a2 hi; omega)⟩
 ·rintro⟨k1,k2⟩ i j hi hj hne
  rcases a4 i hi with rfl|hi
  ·rcases a4 j hj with rfl|hj
   ·exact absurd Z hne
   ·exact k2 j hj
  ·rcases a4 j hj with rfl|hj
   ·rw[hB]; exact k2 i hi
   ·exact k1 i j hi hj hne
theorem Q8{a b:X}:AD a b=0↔∀i,a.testBit i=F→b.testBit i=F:=by
 constructor
 ·intro h i hi;have:=EW a b i;rw[h,hi] at this
  cases hb:b.testBit i with
  | true=>rfl
  | false=>rw[hb] at this; simp at this
 ·intro h;apply yQ
  intro i;rw[EW,Nat.zero_testBit];cases hi:a.testBit i with
  | false=>rfl
  | true=>rw[h i hi]; rfl
theorem Tm(a b:X):AD a b≤a:=by
 rcases yB a (AD a b) with h|h
 ·obtain⟨i,h1,h2⟩:=Nat.exists_testBit_ne_of_ne (Nat.ne_of_lt h) |>.elim fun i hi=>(⟨i,hi,⟨⟩⟩:∃i,a.testBit i≠(AD a b).testBit i∧True)
  exfalso
  have:AD a b &&& a=AD a b:=RN fun i hi=>by
   rw[EW,zA] at hi
   exact hi.1
  have h3:= @Nat.and_le_right (AD a b) a;omega
 ·exact h
def PZ(B:X→X→W)(tg:O W)(s:X):Prop:=∀x,x<s→(tg[x]?.getD E=F↔EZ B x)
def Td(B:X→X→W)(ls:O X)(s:X):Prop:=∀x,x<s→DZ B x (ls[x]?.getD 0)
theorem Wg(hN:N≤12){x n:X}(hx:x<2 ^ N)(h:DZ B x n):n≤12:=yC (h.2 N (NL hx)) hN
theorem P8{tg:O W}{x:X}(h:x<tg.length):ix tg (x:V)=G (tg[x]?.getD E):=by
 rw[Bz,I h]; rfl
theorem P6{ls:O X}{x:X}(h:x<ls.length):ix (nn ls) (x:V)=G (((ls[x]?.getD 0:X)):V):=by
 rw[Eg h,I h]; rfl
theorem WY(hN:N≤12):2 ^ N≤4096:=by
 have:=yP (show 0<2 by omega) hN;simpa using this
theorem ri(hN:N≤12)(y5:V){s t:X}(hs:s<2 ^ N)(h1:2 ^ t≤s)(h2:s<2 ^ (t+1)){tg:O W}{ls:O X}(htl:tg.length=2 ^ N)(hll:ls.length=2 ^ N)(ht:PZ B tg (s+1))(hl:Td B ls s)(K:V→O W→O V→U V) :
  ∀(n q c:X),q<n→q &&& AD s (2 ^ t)=q→DY B s c→c≤100→(∀q',q' &&& AD s (2 ^ t)=q'→q<q'→EZ B (q' ||| 2 ^ t)→c≤1+ls[AD (AD s (2 ^ t)) q']?.getD 0)→
   ∃c',DZ B s c'∧Gp (nn ms) y5 (s:V) (t:V) ((AD s (2 ^ t):X):V) tg K n (q:V) (nn (ls.set s c))=K (IntKind.i64.wrap ((s:V)+1)) tg (nn (ls.set s c')):=by
 obtain⟨a1,a2,a3,a4⟩:=Ss h1 h2;have hp:=WY hN;have h2s:AD s (2 ^ t)<s:=kA a2 h1;generalize hr:AD s (2 ^ t)=r at a2 a3 a4 h2s
 intro n
 induction n with
 | zero=>intro q c hq; omega
 | succ n ih=>
  intro q c hq hsub hc hc1 hall
  have ht12:t<12:=by
   rcases yB t 12 with h|h
   ·exact h
   ·have:=yP (show 0<2 by omega) h;simp at this
    omega
  have hqr:q≤r:=by have:= @Nat.and_le_right q r; omega
  have hor:q ||| 2 ^ t≤s:=by
   have hsb:(q ||| 2 ^ t) &&& s=q ||| 2 ^ t:=RN fun i hi=>by
    rw[yN,ID,Bool.or_eq_true,decide_eq_true_eq] at hi
    rcases hi with h|h
    ·exact a3 i (wj hsub h)
    ·subst h; exact a1
   have:= @Nat.and_le_right (q ||| 2 ^ t) s;omega
  have hsml:∀x:X,x≤s→x<2 ^ 63:=fun x hx=>kC hx (kA hs (yC hp (by decide)))
  have hand:AD r q<s:=kC (Tm r q) h2s;have hset:s<(ls.set s c).length:=by simp; omega
  have hnext:∀c1:X,DY B s c1→c1≤100→(∀q',q' &&& r=q'→q≤q'→EZ B (q' ||| 2 ^ t)→c1≤1+ls[AD r q']?.getD 0)→
    ∃c',DZ B s c'∧JG (nn ms) y5 (s:V) (t:V) (r:V) (q:V) tg K (Gp (nn ms) y5 (s:V) (t:V) (r:V) tg K n) (nn (ls.set s c1))=K (IntKind.i64.wrap ((s:V)+1)) tg (nn (ls.set s c')):=by
   intro c1 g1 g2 g3;unfold JG;by_cases h0:q=0
   ·subst h0;refine⟨c1,⟨g1,fun m hm=> ?_⟩,by rw[if_pos (by simp)]⟩;obtain⟨q',n',e1,e2,e3,e4⟩:=gJ a1 a3 hm;have:=(hl (AD r q') (kC (Tm r q') h2s)).2 n' e4;have:=g3 q' e1 (Nat.zero_le _) e2;omega
   ·rw[if_neg (by simpa using h0)]
    have ew:IntKind.i64.wrap ((q:V) - 1)=((q - 1:X):V):=by
     rw[show(q:V) - 1=((q - 1:X):V) by omega];exact Ef (hsml _ (by omega))
    rw[ew,dN (hsml _ (by omega)) (hsml _ (by omega))];have hlt:= @dO q r (by omega);refine ih ((q - 1) &&& r) c1 (by omega) (dQ _ _) g1 g2 fun q' e1 e2 e3=> ?_
    refine g3 q' e1 ?_ e3;rcases yB q' q with h|h
    ·have:=tD r r q q' (yT _) hsub e1 h;omega
    ·exact h
  rw[Gp,if_neg (by simp),Pz (by omega),tb (hsml _ (by omega)) (hsml _ (by omega)),P8 (by omega),C];have hk:=ht (q ||| 2 ^ t) (by omega);cases hb:tg[q ||| 2 ^ t]?.getD E with
  | false=>
   rw[if_neg (by simp)];refine hnext c hc hc1 fun q' e1 e2 e3=> ?_
   rcases yB q q' with h|h
   ·exact hall q' e1 h e3
   ·have:q'=q:=by omega
    subst this;rw[hb] at hk
    exact absurd (hk.2 e3) (by simp)
  | true=>
   rw[if_pos rfl];have hcq:=hk.1 hb
   have e26:ix (nn (ls.set s c)) (s:V)=G (c:V):=by
    rw[Eg hset,kI]
   have e27:ix (nn (ls.set s c)) (AM .andNot .i64 (r:V) (q:V))=G ((ls[AD r q]?.getD 0:X):V):=by
    rw[Tl (hsml _ (by omega)) (hsml _ (by omega)),P6 (by simp; omega),zX (by omega)]
   rw[e26,C,e27,C];have hle:=hl (AD r q) hand;have h12:=Wg hN (zW hand hs) hle;generalize hv:ls[AD r q]?.getD 0=v at hle h12
   have ew:IntKind.i64.wrap ((1:V)+(v:V))=((1+v:X):V):=by
    rw[show(1:V)+(v:V)=((1+v:X):V) by omega];exact Ef (by omega)
   have emin:(if IntKind.i64.wrap ((1:V)+(v:V))<(c:V) then IntKind.i64.wrap ((1:V)+(v:V)) else(c:V))=((if 1+v<c then 1+v else c:X):V):=by
    rw[ew];by_cases h:1+v<c
    ·rw[if_pos (by omega),if_pos h]
    ·rw[if_neg (by omega),if_neg h]
   rw[emin,zM,In,List.set_set];refine hnext _ ?_ (by split<;>omega) fun q' e1 e2 e3=> ?_
   ·split
    ·exact gI a4 hcq hle.1
    ·exact hc
   ·rcases yB q q' with h|h
    ·have:=hall q' e1 h e3;split<;>omega
    ·have:q'=q:=by omega
     subst this;rw[hv];split<;>omega
theorem We(hB:∀i j,B i j=B j i)(hN:N≤12)(hm:cy B N ms):∃n:X,DZ B (2 ^ N - 1) n∧n≤12∧LX (nn ms)=G (n:V):=by
 have hp:=WY hN;have hp0:0<2 ^ N:=Nat.pow_pos (by omega);obtain⟨hml,hmb⟩:=hm
 have key:∀(k s n:X) (tg:O W) (ls:O X),s+k=2 ^ N→k<n→1≤s→tg.length=2 ^ N→ls.length=2 ^ N→PZ B tg s→Td B ls s→
   ∃v:X,DZ B (2 ^ N - 1) v∧v≤12∧EG (nn ms) ((2 ^ N:X):V) n (s:V) tg (nn ls)=G (v:V):=by
  intro k
  induction k with
  | zero=>
   intro s n tg ls hs hn hs1 htl hll ht hl;obtain⟨n,rfl⟩:=sn (n:=n) (by omega);have:=hl (2 ^ N - 1) (by omega);refine⟨_,this,Wg hN (by omega) this,?_⟩
   have ew:IntKind.i64.wrap (((2 ^ N:X):V) - 1)=((2 ^ N - 1:X):V):=by
    rw[show((2 ^ N:X):V) - 1=((2 ^ N - 1:X):V) by omega];exact Ef (by omega)
   rw[EG,if_neg (by simp only[Ag,decide_eq_true_eq]; omega),ew,P6 (by omega),C]
  | succ k ih=>
   intro s n tg ls hs hn hs1 htl hll ht hl;obtain⟨n,rfl⟩:=sn (n:=n) (by omega);obtain⟨t,e1,h1,h2,ht12⟩:=rq hs1 (show s<4096 by omega);obtain⟨a1,a2,a3,a4⟩:=Ss h1 h2;have htN:t<N:=GS (show s<2 ^ N by omega) a1;have h2s:AD s (2 ^ t)<s:=kA a2 h1
   have hsml:∀x:X,x≤s→x<2 ^ 63:=fun x hx=>by
    have:(4096:X)<2 ^ 63:=by decide
    omega
   have ew:IntKind.i64.wrap (((t+1:X):V) - 1)=(t:V):=by
    rw[show((t+1:X):V) - 1=(t:V) by omega];exact Ef (by omega)
   have er:AM .andNot .i64 (s:V) (Bi .i64 (1:V) (t:V))=((AD s (2 ^ t):X):V):=by
    rw[Pz (by omega),Tl (hsml _ (yT _)) (hsml _ h1)]
   have hu:IntKind.u64.wrap (s:V)=(s:V):=Ka (by omega);have hct:=fv hB h1 h2
   have rest:∀b:W,(b=F↔EZ B s)→∃v:X,DZ B (2 ^ N - 1) v∧v≤12∧
     JF (nn ms) ((2 ^ N:X):V) (s:V) (nn ls) (EG (nn ms) ((2 ^ N:X):V) n) (t:V) ((AD s (2 ^ t):X):V) (tg.set s b)=G (v:V):=by
    intro b hb
    have ht':PZ B (tg.set s b) (s+1):=fun x hx=>by
     by_cases h:s=x
     ·subst h;rw[zZ (by omega)];exact hb
     ·rw[zX h];exact ht x (by omega)
    unfold JF;rw[P6 (by omega),C,EQ,hml,zM,In]
    obtain⟨c',k1,k2⟩:=ri (ms:=ms) hN ((2 ^ N:X):V) (show s<2 ^ N by omega) h1 h2 (tg:=tg.set s b) (ls:=ls) (by simpa using htl) hll ht' hl (EG (nn ms) ((2 ^ N:X):V) n) bigN (AD s (2 ^ t)) N (by rw[DF]; omega) (Nat.and_self _) (NL (by omega)) (by omega) (fun q' g1 g2=>by
     have:= @Nat.and_le_right q' (AD s (2 ^ t));omega)
    rw[k2,Ak (show s<4096 by omega) (by rw[Bo]; omega)];refine ih (s+1) n (tg.set s b) (ls.set s c') (by omega) (by omega) (by omega) (by simpa using htl) (by simpa using hll) ht' fun x hx=> ?_
    by_cases h:s=x
    ·subst h;rw[zZ (by omega)];exact k1
    ·rw[zX h];exact hl x (by omega)
   rw[EG,Ag,if_pos (by simp; omega),hu,e1,C,ew,if_neg (by simp),er,P8 (by omega),C,zM];have hk:=ht (AD s (2 ^ t)) h2s;cases hb:tg[AD s (2 ^ t)]?.getD E with
   | true=>
    rw[if_pos rfl,P6 (by omega),C,P8 (by omega),C]
    have hmt:ms[t]?.getD 0<2 ^ 12:=K3 fun j hj=>by
     rw[hmb t j htN,zA,decide_eq_true_eq] at hj
     omega
    rw[Ka (n:=AD s (2 ^ t)) (by omega),KE (by omega) (zW hmt (by decide)),eV];refine rest _ ?_;rw[decide_eq_true_eq,Q8,hct];constructor
    ·intro h;refine⟨hk.1 hb,fun i hi=> ?_⟩;have:=h i hi;rw[hmb t i htN] at this
     simp at this
     exact this.2.2
    ·rintro⟨_,h⟩ i hi
     have hit:=GS a2 hi;rw[hmb t i htN,h i hi];simp;omega
   | false=>
    rw[if_neg (by simp),P8 (by omega),C];refine rest E ?_;rw[hct];constructor
    ·intro h; cases h
    ·rintro⟨h,_⟩
     have:=hk.2 h;rw[hb] at this
     cases this
 unfold LX
 have hm1:∀b:X,b≤1000→B2 (Bi .i64 (1:V) ((N:X):V)) (Bi .i64 (1:V) ((N:X):V)) b=G (2 ^ N):=fun b hb=>by
  rw[Pz (by omega)]; exact RG (by omega) hb
 rw[EQ,hml,if_neg (by simp),hm1 1 (by omega),C,hm1 8 (by omega),C,Pz (by omega)]
 have e0:ix (zN (2 ^ N) E) (0:V)=G E:=by
  have:=Aa (l:=zN (2 ^ N) E) (i:=0) (by simpa using hp0);simpa using this
 have hz:zN (2 ^ N) (0:V)=nn (zN (2 ^ N) 0):=by simp[nn]
 rw[e0,C,hz]
 obtain⟨v,k1,k2,k3⟩:=key (2 ^ N - 1) 1 bigN ((zN (2 ^ N) E).set 0 F) (zN (2 ^ N) 0) (by omega) (by rw[DF]; omega) (by omega) (by simp) (by simp)
  (fun x hx=>by
   have:x=0:=by omega
   subst this;rw[zZ (by simpa using hp0)];exact⟨fun _=>fw,fun _=>rfl⟩)
  (fun x hx=>by
   have:x=0:=by omega
   subst this;rw[List.getElem?_replicate,if_pos hp0];exact rj)
 exact⟨v,k1,k2,k3⟩
end
theorem dS{g i:X}(h:g<2 ^ i):AD (g ||| 2 ^ i) (2 ^ i)=g:=by
 apply yQ
 intro j;rw[EW,yN,ID];by_cases hj:i=j
 ·subst hj;rw[Nat.testBit_lt_two_pow h];simp
 ·simp[hj]
theorem vr{α:Type}{l:O α}{i:X}{x:α}(h:l[i]?=G x):l.set i x=l:=by
 apply List.ext_getElem?
 intro j;by_cases hij:i=j
 ·subst hij;rw[zZ (kW.1 h).1,h]
 ·rw[zX hij]
theorem U7:∀(d fuel:X) (sm gs:O X) (most:V) (who:O V),who.length+d=sm.length→d<fuel→(∀x∈sm,x<2 ^ 12)→sm.length≤12→(∀g∈gs,0<g∧g<2 ^ who.length)→gs.length≤who.length→
  ∃b r,E6 fuel ⟨nn sm,most,nn gs,who⟩=G (b,r)∧r.most=most∧(b=E→r=⟨nn sm,most,nn gs,who⟩):=by
 intro d
 induction d with
 | zero=>
  intro fuel sm gs most who hd hf h1 h2 h3 h4;obtain⟨fuel,rfl⟩:=sn (n:=fuel) (by omega);refine⟨F,⟨nn sm,most,nn gs,who⟩,?_,Z,fun h=>by cases h⟩;rw[E6,LV,if_pos (by simp[EQ]; omega)]
 | succ d ih=>
  intro fuel sm gs most who hd hf h1 h2 h3 h4;obtain⟨fuel,rfl⟩:=sn (n:=fuel) (by omega);rw[E6,LV,if_neg (by simp[EQ]; omega)];have hi12:who.length≤11:=by omega
  have hpw:2 ^ who.length<2 ^ 64:=yR (by omega) (by omega);have hp0:0<2 ^ who.length:=Nat.pow_pos (by omega);have hpd:2 ^ (who.length+1)=2 ^ who.length+2 ^ who.length:=by rw[Nat.pow_succ]; omega
  have hsi:who.length<sm.length:=by omega
  have hsm:sm[who.length]<2 ^ 64:=zW (h1 _ (zB hsi)) (by decide)
  have key:∀(k p n:X),p+k=gs.length+1→k<n→∃b r,Fp (E6 fuel) ⟨nn sm,most,nn gs,who⟩ n (p:V) (nn sm) most (nn gs) who=G (b,r)∧r.most=most∧(b=E→r=⟨nn sm,most,nn gs,who⟩):=by
   intro k
   induction k with
   | zero=>
    intro p n hp hn;obtain⟨n,rfl⟩:=sn (n:=n) (by omega);refine⟨E,_,?_,Z,fun _=>rfl⟩;rw[Fp,if_neg (by simp[EQ]; omega)]
   | succ k ihk=>
    intro p n hp hn;obtain⟨n,rfl⟩:=sn (n:=n) (by omega);have hpl:p≤gs.length:=by omega
    rw[Fp,if_pos (by simp[EQ]; omega)];cases hmost:decide ((p:V)<most) with
    | false=>exact⟨E,_,by rw[if_neg (by simp)],rfl,fun _=>rfl⟩
    | true=>
     rw[if_pos rfl];by_cases hpe:p=gs.length
     ·-- a new person
      rw[if_pos (by simp[EQ]; omega),if_pos (NA (by simp[EQ]; omega) (by omega))];have e0:nn gs++ [(0:V)]=nn (gs++ [0]):=tL gs 0;rw[e0];unfold JD;dsimp only
      have hpg:p<(gs++ [0]).length:=by simp; omega
      have hg0:(gs++ [0])[p]=0:=by simp[hpe]
      rw[Eg hpg,C,hg0,Eg hsi,C,KE (by decide) hsm];have ez:AD 0 sm[who.length]=0:=Q8.2 fun i hi=>(by simp at hi)
      rw[ez,if_pos (by simp),if_neg (by simp),if_pos (NA (by simp; omega) (by omega)),Sf (by omega),RQ (by decide) hpw,Nat.zero_or,zM,In]
      have es:(gs++ [0]).set p (2 ^ who.length)=gs++ [2 ^ who.length]:=by
       rw[List.set_append_right _ _ (by omega)];simp[hpe]
      rw[es]
      obtain⟨b,r,k1,k2,k3⟩:=ih fuel sm (gs++ [2 ^ who.length]) most (who++ [(p:V)]) (by simp; omega) (by omega) h1 h2 (fun g hg=>by
       rw[zL,zR,hpd];rcases zO.1 hg with hg|hg
       ·have:=h3 g hg; omega
       ·rw[zG] at hg; omega) (by simp; omega)
      rw[k1,C];cases b with
      | true=>exact⟨F,r,by rw[if_pos rfl],k2,fun h=>by cases h⟩
      | false=>
       have:=k3 rfl;subst this;rw[if_neg (by simp)];have hw:((who++ [(p:V)]).length:V)=((who.length+1:X):V):=by simp
       simp only[zL,zR];rw[show bnd ((who.length+1:X):V) (who.length:V) 0 (who.length+1)=G (0,who.length) from Ep (by omega),C];have hpg2:p<(gs++ [2 ^ who.length]).length:=by simp; omega
       have hg2:(gs++ [2 ^ who.length])[p]=2 ^ who.length:=by simp[hpe]
       rw[Eg hpg2,C,hg2,if_neg (by simp),KE hpw hpw,In];have ez2:AD (2 ^ who.length) (2 ^ who.length)=0:=Q8.2 fun i hi=>hi
       have es2:(gs++ [2 ^ who.length]).set p 0=gs++ [0]:=by
        rw[List.set_append_right _ _ (by omega)];simp[hpe]
       have et:(who++ [(p:V)]).take who.length=who:=by simp
       rw[ez2,es2,et];unfold HQ;rw[Eg hpg,C,hg0,if_pos (by simp),EQ];have hl1:(gs++ [0]).length=gs.length+1:=by simp
       rw[hl1,show bnd ((gs.length+1:X):V) (p:V) 0 (gs.length+1)=G (0,p) from Ep (by omega),C];have et2:(nn (gs++ [0])).take p=nn gs:=by rw[hpe]; simp[nn]
       show ∃b r,G (E,(⟨nn sm,most,(nn (gs++ [0])).take p,who⟩:Xh))=G (b,r)∧_
       rw[et2];exact⟨E,_,Z,Z,fun _=>rfl⟩
     ·-- one that is there
      rw[if_neg (by simp[EQ]; omega)];have hpg:p<gs.length:=by omega
      have hgm:=h3 _ (zB hpg)
      have hnext:∃b r,HQ (E6 fuel) ⟨nn sm,most,nn gs,who⟩ (p:V) (Fp (E6 fuel) ⟨nn sm,most,nn gs,who⟩ n) (nn sm) most (nn gs) who=G (b,r)∧r.most=most∧(b=E→r=⟨nn sm,most,nn gs,who⟩):=by
       unfold HQ;rw[Eg hpg,C,if_neg (by simp; omega),Ak hpg (by rw[Bo]; omega)];exact ihk (p+1) n (by omega) (by omega)
      unfold JD;dsimp only
      rw[Eg hpg,C,Eg hsi,C,KE (by omega) hsm];cases hfit:(((AD gs[p] sm[who.length]:X):V)==0) with
      | false=>rw[if_neg (by simp)]; exact hnext
      | true=>
       rw[if_pos rfl,if_neg (by simp),if_pos (NA (by simp; omega) (by omega)),Sf (by omega),RQ (by omega) hpw,zM,In];have hor:gs[p] ||| 2 ^ who.length<2 ^ (who.length+1):=kD (by omega) (by omega)
       have hop:0<gs[p] ||| 2 ^ who.length:=by
        have:= @Nat.left_le_or gs[p] (2 ^ who.length);omega
       have hor64:gs[p] ||| 2 ^ who.length<2 ^ 64:=kD (by omega) hpw
       obtain⟨b,r,k1,k2,k3⟩:=ih fuel sm (gs.set p (gs[p] ||| 2 ^ who.length)) most (who++ [(p:V)]) (by simp; omega) (by omega) h1 h2 (fun g hg=>by
        rw[zL,zR];rcases List.mem_or_eq_of_mem_set hg with hg|hg
        ·have:=h3 g hg; omega
        ·subst hg; exact⟨hop,hor⟩) (by simp; omega)
       rw[k1,C];cases b with
       | true=>exact⟨F,r,by rw[if_pos rfl],k2,fun h=>by cases h⟩
       | false=>
        have:=k3 rfl;subst this;rw[if_neg (by simp)];simp only[zL,zR];have hps:p<(gs.set p (gs[p] ||| 2 ^ who.length)).length:=by simp; omega
        rw[show bnd ((who.length+1:X):V) (who.length:V) 0 (who.length+1)=G (0,who.length) from Ep (by omega),C,Eg hps,C,kI,if_neg (by simp),KE hor64 hpw,In,dS hgm.2,List.set_set,vr (I hpg)];have et:(who++ [(p:V)]).take who.length=who:=by simp
        rw[et];exact hnext
  exact key (gs.length+1) 0 bigN (by omega) (by rw[DF]; omega)
section
variable {c : X4} {fl : O X8}
def F8(c:X4)(p:X2):V × V:=if p.Toward=F then((Be c p.Segment).A,(Be c p.Segment).B) else((Be c p.Segment).B,(Be c p.Segment).A)
theorem P2{p:X2}(h:idx p.Segment c.Segments.length=F):Gc p c=G (F8 c p):=by
 unfold Gc F8;rw[(Cn h).1,C];split<;>rfl
theorem Uh{p:X2}(hc:AQ c=F)(h:idx p.Segment c.Segments.length=F):0≤(F8 c p).1∧(F8 c p).1<8∧0≤(F8 c p).2∧(F8 c p).2<8:=by
 have hp:=(MY hc).1;have hx:=(Cn h).2;simp only[AQ,zA,decide_eq_true_eq,zK,zV] at hc
 obtain⟨i,hi,e⟩:=zH hx;have:=hc.2.2.2 i hi;simp only[GN,I hi,e,idx,zA,decide_eq_true_eq] at this
 unfold F8;split<;>(simp only; omega)
theorem WQ{p:X2}(hc:AQ c=F)(h:DA c fl p=F):p.Start<p.End:=by
 simp only[DA,D7,zA,decide_eq_true_eq] at h;obtain⟨h3,h4,h5,h6,h7⟩:=h;obtain⟨_,_,a,b⟩:=(MY hc).2.2 _ (Cn h4).2;rw[h7];unfold Bv;split
 ·rw[Ah (n:=2*_) (by omega) (by omega),Ah (by omega) (by omega)]; omega
 ·rw[Ah (by omega) (by omega)]; omega
theorem Ro{p:X2}(hn:∀x∈c.Points,x.Name.length≤maxLen)(hf:∀x∈fl,x.Name.length≤maxLen)(h1:AQ c=F)(h2:FA fl=F):Jo c fl p=G (DA c fl p):=by
 unfold Jo;rw[D6 hn,h1,C,if_pos rfl,VJ hf,h2,C,if_pos rfl,qD,C]
def Dj(c:X4)(p q:X2):Xd:=⟨p.Start,q.End,(F8 c p).1,(F8 c q).2⟩
theorem P1{p q:X2}(h1:idx p.Segment c.Segments.length=F)(h2:idx q.Segment c.Segments.length=F):HR c p q=G (Dj c p q):=by
 unfold HR;rw[P2 h1,C,P2 h2,C];rfl
theorem Ud{p q:X2}(hc:AQ c=F)(h1:idx p.Segment c.Segments.length=F)(h2:idx q.Segment c.Segments.length=F)(h3:0≤p.Start)(h4:p.Start<q.End)(h5:q.End≤2880):BE (Dj c p q)=F:=by
 obtain⟨a1,a2,_,_⟩:=Uh hc h1;obtain⟨_,_,b1,b2⟩:=Uh hc h2;unfold BE Dj;simp only[zA,decide_eq_true_eq];exact⟨h3,h4,h5,⟨a1,a2⟩,b1,b2⟩
theorem YY{p:X2}{s:X8}(h1:idx p.Segment c.Segments.length=F)(all:O X2)(v1:V)(K:V→O Xd→U (O Xd × W)){T:X}(hT:s.Tugs=(T:V))(hT4:T≤4) :
  ∀(r k n:X) (acc:O Xd),k+r=T→r<n→acc.length≤12+k→Fu fl all v1 s c p K n (k:V) acc =
   if(decide ((12:V)<((acc++zN r (Dj c p p)).length:V))) then G (([]:O Xd),E) else K (IntKind.i64.wrap (v1+(1:V))) (acc++zN r (Dj c p p)):=by
 intro r
 induction r with
 | zero=>
  intro k n acc hk hn ha;obtain⟨n,rfl⟩:=sn (n:=n) (by omega);rw[Fu,if_neg (by rw[hT]; simp; omega)];simp
 | succ r ih=>
  intro k n acc hk hn ha;obtain⟨n,rfl⟩:=sn (n:=n) (by omega);rw[Fu,if_pos (by rw[hT]; simp; omega),P1 h1 h1,C,if_pos (NA (by simp; omega) (by omega)),Ak (i:=k) (n:=5) (by omega) (by rw[Bo]; omega)];have:=ih (k+1) n (acc++ [Dj c p p]) (by omega) (by omega) (by simp; omega);refine this.trans ?_;rw[List.append_assoc];rfl
theorem Qy{w:Xr}(h:IZ w=F):D7 w.Rest=F∧Im w.Moves=F:=by
 simp only[IZ,zA] at h;exact⟨h.2.2.1,by simp only[Im,zA]; exact h.2.2.2⟩
end
theorem Wl{t:Xq}{m:V}(ht:FS t=F)(h0:0≤m)(h1:m≤2880):∃r,LG t m=G r∧ -1000000000000≤r∧r≤1000000000000:=by
 have ht':=ht;simp only[FS,zA,decide_eq_true_eq,zK] at ht
 obtain⟨hmean,hl,hp⟩:=ht;have hlm:t.Parts.length≤maxLen:=by rw[Bo]; omega
 have key:∀(k i n:X) (v:V),i+k=t.Parts.length→k<n→ -(1000+20000000000*(i:V))≤v→v≤1000+20000000000*(i:V)→∃r,HM m t n v (i:V)=G r∧ -(1000+20000000000*(t.Parts.length:V))≤r∧r≤1000+20000000000*(t.Parts.length:V):=by
  intro k
  induction k with
  | zero=>
   intro i n v hi hn v1 v2;obtain⟨q,rfl⟩:=sn (n:=n) (by omega);have:i=t.Parts.length:=by omega
   subst this;exact⟨v,by simp[HM],v1,v2⟩
  | succ k ih=>
   intro i n v hi hn v1 v2;obtain⟨q,rfl⟩:=sn (n:=n) (by omega);have hlt:i<t.Parts.length:=by omega
   have hx:=hp _ (zB hlt);simp only[MR,zA,decide_eq_true_eq] at hx
   obtain⟨⟨am1,am2⟩,hx1,hx2,hx3⟩:=hx;obtain⟨p1,p2,_⟩:=WS hx1;rw[Ah (by omega) (by omega)] at hx3
   have hw:=Ah (n:=m+t.Parts[i].Phase) (by omega) (by omega);have hnn:0≤m+t.Parts[i].Phase:=by omega
   have hmm:kS (m+t.Parts[i].Phase) t.Parts[i].Period=(m+t.Parts[i].Phase) % t.Parts[i].Period:=zQ hnn;have w:=A0t (x:=(m+t.Parts[i].Phase) % t.Parts[i].Period) (p:=t.Parts[i].Period) (kM _ (by omega)) (kB _ (by omega)) p1 p2;rw[← hmm] at w
   generalize hwv:Ks (kS (m+t.Parts[i].Phase) t.Parts[i].Period) t.Parts[i].Period=wv at w
   have mm:=Pk (a:=t.Parts[i].Amp) (b:=wv) (A:=1000) (B:=200000000000) (by omega) (by omega) (by omega) (by omega)
   have hd: -20000000000≤zJ (t.Parts[i].Amp*wv) 10000∧zJ (t.Parts[i].Amp*wv) 10000≤20000000000:=by
    generalize t.Parts[i].Amp*wv=z at mm
    by_cases ha:0≤z
    ·rw[zI ha]; omega
    ·obtain⟨c,rfl⟩:∃c,z= -c:=⟨-z,by omega⟩;rw[kZ,zI (by omega)]; omega
   obtain⟨r,e1,e2,e3⟩:=ih (i+1) q (IntKind.i64.wrap (v+IntKind.i64.wrap (zJ (IntKind.i64.wrap (t.Parts[i].Amp*wv)) 10000))) (by omega) (by omega)
    (by rw[Ah (n:=t.Parts[i].Amp*wv) (by omega) (by omega),Ah (n:=zJ _ _) (by omega) (by omega),Ah (by omega) (by omega)]; omega)
    (by rw[Ah (n:=t.Parts[i].Amp*wv) (by omega) (by omega),Ah (n:=zJ _ _) (by omega) (by omega),Ah (by omega) (by omega)]; omega)
   rw[← Ak hlt hlm] at e1
   refine⟨r,?_,e2,e3⟩;simp only[HM,Bz,I hlt,C,Ag,hlt,decide_true,if_true,hw,qB hx1 (show 0≤m+t.Parts[i].Phase by omega) (by omega),hwv];exact e1
 obtain⟨r,e1,e2,e3⟩:=key t.Parts.length 0 bigN t.Mean (by omega) (Aj hlm) (by omega) (by omega);exact⟨r,e1,by omega,by omega⟩
theorem Sj{f:Xb}{m:V}(h0:0<f.Surges.length)(h6:f.Surges.length≤6):∃(a:X) (ha:a<f.Surges.length),Jk f m=G (a:V):=by
 have hl:f.Surges.length≤maxLen:=by rw[Bo]; omega
 have key:∀(k i n a:X) (ha:a<f.Surges.length),i+k=f.Surges.length→k<n→∃(a':X) (ha':a'<f.Surges.length),Fg m f n (a:V) (i:V)=G (a':V):=by
  intro k
  induction k with
  | zero=>
   intro i n a ha hi hn;obtain⟨q,rfl⟩:=sn (n:=n) (by omega);have:i=f.Surges.length:=by omega
   subst this;exact⟨a,ha,by simp[Fg]⟩
  | succ k ih=>
   intro i n a ha hi hn;obtain⟨q,rfl⟩:=sn (n:=n) (by omega);have hlt:i<f.Surges.length:=by omega
   by_cases hm:f.Surges[i].From≤m
   ·obtain⟨a',ha',e1⟩:=ih (i+1) q i hlt (by omega) (by omega);rw[← Ak hlt hl] at e1
    refine⟨a',ha',?_⟩;simp only[Fg,Bz,I hlt,C,Ag,hlt,decide_true,if_true,hm];exact e1
   ·obtain⟨a',ha',e1⟩:=ih (i+1) q a ha (by omega) (by omega);rw[← Ak hlt hl] at e1
    refine⟨a',ha',?_⟩;simp only[Fg,Bz,I hlt,C,Ag,hlt,decide_true,if_true,hm,decide_false,zC,if_false];exact e1
 obtain⟨a,ha,e1⟩:=key f.Surges.length 0 bigN 0 h0 (by omega) (Aj hl);exact⟨a,ha,e1⟩
theorem Wn{f:Xb}{m:V}(hf:D3 f=F)(h0:0≤m)(h1:m≤2880):∃r,Ff f m=G r∧ -2000000000000≤r∧r≤2000000000000:=by
 obtain⟨ht,s0,s6⟩:=Md hf;obtain⟨t,e1,b1,b2⟩:=Wl ht h0 h1;obtain⟨a,ha,e2⟩:=Sj (m:=m) s0 s6;have hs:=YH hf a ha;have w:=Ah (n:=t+f.Surges[a].Low) (by omega) (by omega)
 have e3:Ff f m=G (t+f.Surges[a].Low):=by
  unfold Ff;rw[e1,C,e2,C,Aa ha,C,w]
 exact⟨t+f.Surges[a].Low,e3,by omega,by omega⟩
def K2(f:Xb)(m:V):V:=(Ff f m).getD 0
theorem sO{f:Xb}{m:V}(hf:D3 f=F)(h0:0≤m)(h1:m≤2880):Ff f m=G (K2 f m)∧ -2000000000000≤K2 f m∧K2 f m≤2000000000000:=by
 obtain⟨r,e1,b1,b2⟩:=Wn hf h0 h1;have:K2 f m=r:=by simp[K2,e1]
 rw[this];exact⟨e1,b1,b2⟩
theorem AR{n k b:X}(h:n≤100000000)(hk:k≤1000)(hb:b≤1000):A4 n k b=F:=by
 have:(n+k)*b≤100001000*1000:=kQ (by omega) hb;simp only[A4,decide_eq_true_eq];omega
def WinIn(p:V→W)(m:V)(l:O X9):Prop:=∀w∈l,0≤w.From∧w.From≤w.To∧w.To<m∧∀k,w.From≤k→k≤w.To→p k=F
theorem WinIn.more{p:V→W}{m:V}{l:O X9}(h:WinIn p m l):WinIn p (m+1) l:=fun w hw=>by
 obtain⟨a,b,c,d⟩:=h w hw;exact⟨a,b,by omega,d⟩
theorem WinIn.app{p:V→W}{m:V}{l:O X9}{x:X9}(h:WinIn p m l)(hx:WinIn p m [x]):WinIn p m (l++ [x]):=fun w hw=>by
 rcases zO.1 hw with hw|hw
 ·exact h w hw
 ·exact hx w hw
theorem Y1{α:Type}(l:O α)(x y:α):(l++ [x]).set l.length y=l++ [y]:=by simp
theorem A0w{f:V→U W}{p:V→W}(hf:∀m,0≤m→m≤2880→f m=G (p m)):∃l,Oq f=G l∧WinIn p 2881 l∧l.length≤2881:=by
 have key:∀(k n:X) (b:W) (m:V) (l:O X9),m+(k:V)=2881→k<n→0≤m→(l.length:V)≤m→(b=E→WinIn p m l)→
   (b=F→∃l0 x,l=l0++ [x]∧WinIn p m l0∧0≤x.From∧x.From<m∧x.To=m - 1∧∀k,x.From≤k→k<m→p k=F)→∃r,Fw f n b m l=G r∧WinIn p 2881 r∧r.length≤2881:=by
  intro k
  induction k with
  | zero=>
   intro n b m l hk hn hm hl hF hT;obtain⟨q,rfl⟩:=sn (n:=n) (by omega);have:¬m≤2880:=by omega
   refine⟨l,by rw[Fw]; simp only[this,decide_false,zC,if_false],?_,by omega⟩;have hm':m=2881:=by omega
   subst hm';cases b with
   | false=>exact hF rfl
   | true=>
    obtain⟨l0,x,rfl,h0,a1,a2,a3,a4⟩:=hT rfl;refine h0.app fun w hw=> ?_
    simp only[zG] at hw
    subst hw;exact⟨a1,by omega,by omega,fun k h1 h2=>a4 k h1 (by omega)⟩
  | succ k ih=>
   intro n b m l hk hn hm hl hF hT;obtain⟨q,rfl⟩:=sn (n:=n) (by omega);have hle:m≤2880:=by omega
   rw[Fw];simp only[hle,decide_true,if_true,hf m hm hle,C];have w1:IntKind.i64.wrap (m+1)=m+1:=Ah (by omega) (by omega)
   have last:∀(l0:O X9) (x:X9),IntKind.i64.wrap (((l0++ [x]).length:V) - 1)=(l0.length:V)∨3000<l0.length:=fun l0 x=>by
    by_cases hb:l0.length≤3000
    ·left; rw[Ah (by simp<;>omega) (by simp<;>omega)]; simp
    ·right; omega
   cases hp:p m with
   | false=>
    simp only[zC,if_false,HY,w1];refine ih q E (m+1) l (by omega) (by omega) (by omega) (by omega) (fun _=> ?_) (fun h=>by cases h);cases b with
    | false=>exact(hF rfl).more
    | true=>
     obtain⟨l0,x,rfl,h0,a1,a2,a3,a4⟩:=hT rfl;refine h0.more.app fun w hw=> ?_
     simp only[zG] at hw
     subst hw;exact⟨a1,by omega,by omega,fun k h1 h2=>a4 k h1 (by omega)⟩
   | true=>
    simp only[if_true];cases b with
    | true=>
     obtain⟨l0,x,rfl,h0,a1,a2,a3,a4⟩:=hT rfl;simp only[zL,zR] at hl
     simp only[if_true,JJ,HY,w1];have e:=(last l0 x).resolve_right (by omega);have e2:ix (l0++ [x]) (l0.length:V)=G x:=by rw[Bz]; simp
     rw[e,e2,C,zM,Y1];refine ih q F (m+1) _ (by omega) (by omega) (by omega) (by simp; omega) (fun h=>by cases h) (fun _=>⟨l0,_,Z,h0.more,a1,by simp; omega,by simp,fun k h1 h2=> ?_⟩);simp only at h1
     by_cases hk:k=m
     ·exact hk▸hp
     ·exact a4 k h1 (by omega)
    | false=>
     simp only[zC,if_false];rw[if_pos (AR (by omega) (by simp) (by omega))];simp only[JJ,HY,w1];have e:=(last l ⟨m,0⟩).resolve_right (by omega);have e2:ix (l++ [(⟨m,0⟩:X9)]) (l.length:V)=G ⟨m,0⟩:=by rw[Bz]; simp
     rw[e,e2,C,zM,Y1];refine ih q F (m+1) _ (by omega) (by omega) (by omega) (by simp; omega) (fun h=>by cases h) (fun _=>⟨l,_,Z,(hF Z).more,hm,by simp; omega,by simp,fun k h1 h2=> ?_⟩);simp only at h1
     have:k=m:=by omega
     exact this▸hp
 exact key 2881 bigN E 0 [] (by omega) (by rw[DF]; omega) (by omega) (by simp) (fun _ w hw=>by cases hw) (fun h=>by cases h)
theorem SE(l:O X9)(hl:l.length≤100000)(hb:∀w∈l,0≤w.From∧w.To≤2880):∃b,Jv l=G b:=by
 have key:∀(k i n:X),i+k=l.length→k<n→∃b,Gh l n (i:V)=G b:=by
  intro k
  induction k with
  | zero=>
   intro i n hi hn;obtain⟨q,rfl⟩:=sn (n:=n) (by omega);have:i=l.length:=by omega
   subst this;exact⟨F,by simp[Gh]⟩
  | succ k ih=>
   intro i n hi hn;obtain⟨q,rfl⟩:=sn (n:=n) (by omega);have hlt:i<l.length:=by omega
   obtain⟨b,e⟩:=ih (i+1) q (by omega) (by omega);rw[← Ak hlt (by rw[Bo]; omega)] at e
   rw[Gh];simp only[Ag,hlt,decide_true,if_true,Aa hlt,C];by_cases c1:l[i].From<0
   ·exact⟨E,by simp only[c1,decide_true,if_true]⟩
   by_cases c2:l[i].To<l[i].From
   ·exact⟨E,by simp only[c1,c2,decide_true,decide_false,zC,if_false,if_true]⟩
   by_cases c3:2880<l[i].To
   ·exact⟨E,by simp only[c1,c2,c3,decide_true,decide_false,zC,if_false,if_true]⟩
   simp only[c1,c2,c3,decide_false,zC,if_false];by_cases c4:(0:V)<(i:V)
   ·have e4:IntKind.i64.wrap ((i:V) - 1)=((i - 1:X):V):=by rw[Ah (by omega) (by omega)]; omega
    simp only[c4,decide_true,if_true,e4,Aa (show i - 1<l.length by omega),C];by_cases c5:l[i].From≤IntKind.i64.wrap (l[i - 1].To+1)
    ·exact⟨E,by simp only[c5,decide_true,if_true]⟩
    ·exact⟨b,by simp only[c5,decide_false,zC,if_false]; exact e⟩
   ·exact⟨b,by simp only[c4,decide_false,zC,if_false]; exact e⟩
 exact key l.length 0 bigN (by omega) (Aj (by rw[Bo]; omega))
def FX(p:V→W)(a:V)(l:O X9):Prop:=∀w∈l,0≤w.From∧w.From≤w.To∧w.To≤2880∧∀k,w.From≤k→k≤w.To→k+a≤2880∧∀m,k≤m→m≤k+a→p m=F
theorem vu{p:V→W}{l:O X9}{a:V}(hl:l.length≤3000)(h:WinIn p 2881 l):∃r,Lz l a=G r∧FX p a r∧r.length≤3000:=by
 unfold Lz;obtain⟨b,e⟩:=SE l (by omega) fun w hw=>⟨(h w hw).1,by have:=(h w hw).2.2.1; omega⟩
 rw[e,C,Ee];have hnil:∃r,G ([]:O X9)=G r∧FX p a r∧r.length≤3000:=⟨[],rfl,(fun w hw=>by cases hw),by simp⟩;cases b with
 | false=>simpa using hnil
 | true=>
  simp only[if_true,C];cases ha:(decide (0≤a)&&decide (a≤2880)) with
  | false=>simpa using hnil
  | true=>
   simp only[zA,decide_eq_true_eq] at ha
   simp only[if_true]
   have key:∀(k i n:X) (acc:O X9),i+k=l.length→k<n→acc.length≤i→FX p a acc→∃r,Gf a l n (i:V) acc=G r∧FX p a r∧r.length≤3000:=by
    intro k
    induction k with
    | zero=>
     intro i n acc hi hn hc hs;obtain⟨q,rfl⟩:=sn (n:=n) (by omega);have:i=l.length:=by omega
     subst this;exact⟨acc,by simp[Gf],hs,by omega⟩
    | succ k ih=>
     intro i n acc hi hn hc hs;obtain⟨q,rfl⟩:=sn (n:=n) (by omega);have hlt:i<l.length:=by omega
     obtain⟨a1,a2,a3,a4⟩:=h _ (zB hlt);rw[Gf];simp only[Ag,hlt,decide_true,if_true,Aa hlt,C,Ak hlt (show l.length≤maxLen by rw[Bo]; omega)];rw[Ah (n:=l[i].To - l[i].From) (by omega) (by omega),Ah (n:=l[i].To - a) (by omega) (by omega)];by_cases c:a≤l[i].To - l[i].From
     ·simp only[c,decide_true,if_true];rw[if_pos (AR (by omega) (by simp) (by omega))];refine ih (i+1) q _ (by omega) (by omega) (by simp; omega) fun w hw=> ?_
      rcases zO.1 hw with hw|hw
      ·exact hs w hw
      ·simp only[zG] at hw
       subst hw;refine⟨a1,by simp only; omega,by simp only; omega,fun k h1 h2=> ?_⟩;simp only at h1 h2
       exact⟨by omega,fun m h3 h4=>a4 m (by omega) (by omega)⟩
     ·simp only[c,decide_false,zC,if_false];exact ih (i+1) q acc (by omega) (by omega) (by omega) hs
   exact key l.length 0 bigN [] (by omega) (Aj (by rw[Bo]; omega)) (by simp) fun w hw=>by cases hw
theorem pC{l:O X9}{a:V}(hl:l.length≤100000):∃b,O3 l a=G b∧(b=F→∃w∈l,w.From≤a∧a≤w.To):=by
 have key:∀(k i n:X),i+k=l.length→k<n→∃b,Ht a l n (i:V)=G b∧(b=F→∃w∈l,w.From≤a∧a≤w.To):=by
  intro k
  induction k with
  | zero=>
   intro i n hi hn;obtain⟨q,rfl⟩:=sn (n:=n) (by omega);have:i=l.length:=by omega
   subst this;exact⟨E,by simp[Ht],fun h=>by cases h⟩
  | succ k ih=>
   intro i n hi hn;obtain⟨q,rfl⟩:=sn (n:=n) (by omega);have hlt:i<l.length:=by omega
   rw[Ht];simp only[Ag,hlt,decide_true,if_true,Aa hlt,C,Cu,Ak hlt (show l.length≤maxLen by rw[Bo]; omega)];cases c:(decide (l[i].From≤a)&&decide (a≤l[i].To)) with
   | true=>
    simp only[zA,decide_eq_true_eq] at c
    exact⟨F,by simp only[if_true],fun _=>⟨_,zB hlt,c⟩⟩
   | false=>
    simp only[zC,if_false];exact ih (i+1) q (by omega) (by omega)
 exact key l.length 0 bigN (by omega) (Aj (by rw[Bo]; omega))
theorem tC{l:O X9}{a:V}(hl:l.length≤100000)(hb:∀w∈l,0≤w.From∧w.From≤w.To∧w.To≤2880):∃r,Lh l a=G r∧(r= -1∨(a≤r∧∃w∈l,w.From≤r∧r≤w.To)):=by
 unfold Lh;obtain⟨b,e⟩:=SE l hl fun w hw=>⟨(hb w hw).1,(hb w hw).2.2⟩
 rw[e,C];cases b with
 | false=>exact⟨-1,by simp,Or.inl rfl⟩
 | true=>
  simp only[if_true]
  have key:∀(k i n:X),i+k=l.length→k<n→∃r,Hy a l n (i:V)=G r∧(r= -1∨(a≤r∧∃w∈l,w.From≤r∧r≤w.To)):=by
   intro k
   induction k with
   | zero=>
    intro i n hi hn;obtain⟨q,rfl⟩:=sn (n:=n) (by omega);have:i=l.length:=by omega
    subst this;exact⟨-1,by simp[Hy],Or.inl Z⟩
   | succ k ih=>
    intro i n hi hn;obtain⟨q,rfl⟩:=sn (n:=n) (by omega);have hlt:i<l.length:=by omega
    rw[Hy];simp only[Ag,hlt,decide_true,if_true,Aa hlt,C,Ak hlt (show l.length≤maxLen by rw[Bo]; omega)];by_cases c:a≤l[i].To
    ·simp only[c,decide_true,if_true];by_cases d:l[i].From<a
     ·exact⟨a,by simp only[d,if_true],Or.inr ⟨Int.le_refl a,_,zB hlt,by omega,c⟩⟩
     ·exact⟨l[i].From,by simp only[d,if_false],Or.inr ⟨by omega,_,zB hlt,Int.le_refl _,(hb _ (zB hlt)).2.1⟩⟩
    ·simp only[c,decide_false,zC,if_false];exact ih (i+1) q (by omega) (by omega)
  exact key l.length 0 bigN (by omega) (Aj (by rw[Bo]; omega))
def Iu(f:Xb)(c:X4)(i:V)(s:X8)(m:V):W:=decide (Pl c i s≤K2 f m)
theorem A5{n:X}(h:n≤1000000):n≤maxLen:=by rw[Bo]; omega
theorem BD{c:X4}(h:AQ c=F):c.Points.length≤8∧c.Segments.length≤10∧(∀x∈c.Points,x.Name.length≤maxLen)∧∀x∈c.Segments,idx x.A c.Points.length=F∧idx x.B c.Points.length=F:=by
 simp only[AQ,zA,decide_eq_true_eq,zK,zV] at h;obtain⟨h1,h2,h3,h4⟩:=h;refine⟨h1,h2,fun x hx=> ?_,fun x hx=> ?_⟩
 ·obtain⟨i,hi,rfl⟩:=zH hx;have:=h3 i hi;simp only[Kj,I hi,zA] at this
  exact A5 (by have:=(ML this.1).2; omega)
 ·obtain⟨i,hi,rfl⟩:=zH hx;have:=h4 i hi;simp only[GN,I hi,zA,decide_eq_true_eq] at this
  exact⟨this.1,this.2.1⟩
theorem Iy{s:X8}(h:Cs s=F):s.Name.length≤maxLen:=A5 (by have:=(ML (Se h).1).2; omega)
theorem K5{c:X4}{s:X8}{i:V}(hc:AQ c=F)(hi:idx i c.Segments.length=F):1≤Bv (Be c i) s∧Bv (Be c i) s≤480:=by
 obtain⟨_,_,a,b⟩:=(MY hc).2.2 _ (Cn hi).2;unfold Bv;split
 ·rw[Ah (n:=2*_) (by omega) (by omega)]; omega
 ·omega
theorem YG{f:Xb}{c:X4}{s:X8}{i:V}(hf:D3 f=F)(hc:AQ c=F)(hs:Cs s=F)(hi:idx i c.Segments.length=F) :
  ∃l,Jt f c i s=G l∧FX (Iu f c i s) (Bv (Be c i) s) l∧l.length≤3000:=by
 have hn:=(BD hc).2.2.1;have hm:=Iy hs
 obtain⟨ws,e1,e2,e3⟩:=A0w (f:=fun z0=>Lf z0 f (Pl c i s)) (p:=Iu f c i s) fun m h0 h1=>by
  simp only[Lf,(sO hf h0 h1).1,C,Iu]
 obtain⟨r,e4,e5,e6⟩:=vu (a:=Bv (Be c i) s) (by omega) e2;refine⟨r,?_,e5,e6⟩;unfold Jt JH O6 O7;simp only[JV,D6 hn,Ie hm,hf,hc,hs,hi,C,if_true,CR,pv hn hm hc hs hi,e1,(Cn hi).1,Ms,e4]
def Iw(x:X7)(a:V):V:=if a=x.A then x.B else if a=x.B then x.A else -1
theorem Uf(x:X7)(a:V):Js x a=G (Iw x a):=by
 unfold Js Iw;by_cases h1:a=x.A
 ·rw[if_pos (by simpa using h1),if_pos h1]
 ·rw[if_neg (by simpa using h1),if_neg h1];by_cases h2:a=x.B
  ·rw[if_pos (by simpa using h2),if_pos h2]
  ·rw[if_neg (by simpa using h2),if_neg h2]
theorem Ug{c:X4}(hc:AQ c=F){x:X7}(hx:x∈c.Segments)(a:V):Iw x a= -1∨idx (Iw x a) c.Points.length=F:=by
 obtain⟨h1,h2⟩:=(BD hc).2.2.2 x hx;unfold Iw;split
 ·exact Or.inr h2
 ·split
  ·exact Or.inr h1
  ·exact Or.inl Z
theorem Ds{i:V}{n:X}:idx i n=F↔0≤i∧i<(n:V):=by simp[idx]
theorem W6(y:X5){i:V}(h0:0≤i)(h1:i<8):∃b,ix ([y.i0,y.i1,y.i2,y.i3,y.i4,y.i5,y.i6,y.i7]:O W) i=G b:=by
 obtain⟨n,rfl⟩:∃n:X,i=(n:V):=⟨i.toNat,by omega⟩;exact⟨_,Aa (show n<([y.i0,y.i1,y.i2,y.i3,y.i4,y.i5,y.i6,y.i7]:O W).length by simp; omega)⟩
theorem S0{c:X4}(hc:AQ c=F)(rt:O V)(a:V)(hl:rt.length≤1000):∃l b,He c a rt=G (l,b)∧l.length≤rt.length+1∧(∀x∈l,idx x c.Points.length=F)∧
  (b=F→l.length=rt.length+1∧∀x∈rt,idx x c.Segments.length=F):=by
 obtain⟨hp8,hs10,_,_⟩:=BD hc
 have none_:∃l b,(G (([]:O V),E):U (O V × W))=G (l,b)∧l.length≤rt.length+1∧(∀x∈l,idx x c.Points.length=F)∧(b=F→l.length=rt.length+1∧∀x∈rt,idx x c.Segments.length=F):=
  ⟨[],E,rfl,by simp,(fun x hx=>by cases hx),fun h=>by cases h⟩
 have key:∀(k i n:X) (v5:V) (v7:X5) (v8:O V),i+k=rt.length→k<n→v8.length=i+1→(∀x∈v8,idx x c.Points.length=F)→(∀j (h:j<rt.length),j<i→idx rt[j] c.Segments.length=F)→
   ∃l b,G3 rt c n v5 (i:V) v7 v8=G (l,b)∧l.length≤rt.length+1∧(∀x∈l,idx x c.Points.length=F)∧(b=F→l.length=rt.length+1∧∀x∈rt,idx x c.Segments.length=F):=by
  intro k
  induction k with
  | zero=>
   intro i n v5 v7 v8 hi hn h8 h9 hj;obtain⟨q,rfl⟩:=sn (n:=n) (by omega);have:i=rt.length:=by omega
   subst this;refine⟨v8,F,by simp[G3],by omega,h9,fun _=>⟨h8,fun x hx=> ?_⟩⟩;obtain⟨j,hj',rfl⟩:=zH hx;exact hj j hj' hj'
  | succ k ih=>
   intro i n v5 v7 v8 hi hn h8 h9 hj;obtain⟨q,rfl⟩:=sn (n:=n) (by omega);have hlt:i<rt.length:=by omega
   rw[G3];simp only[Ag,hlt,decide_true,if_true,Aa hlt,C,CR];cases hx:idx rt[i] c.Segments.length with
   | false=>simpa using none_
   | true=>
    simp only[if_true,(Cn hx).1,C,Uf];have he:=Ug hc (Cn hx).2 v5;generalize Iw (Be c rt[i]) v5=r at he
    by_cases h0:r<0
    ·simp only[h0,decide_true,if_true,Hf];exact none_
    ·have hr:=he.resolve_left (by omega);have hr':=Ds.1 hr;have hd:(decide (0≤r)&&decide (r<8))=F:=by simp; omega
     simp only[h0,decide_false,zC,if_false,hd,if_true];obtain⟨b,e⟩:=W6 v7 hr'.1 (by omega);rw[e,C];cases b with
     | true=>simp only[Hf,if_true]; exact none_
     | false=>
      simp only[Hf,zC,if_false,hd,if_true];rw[if_pos (AR (by omega) (by simp) (by omega)),Ak hlt (A5 (by omega))];refine ih (i+1) q _ _ _ (by omega) (by omega) (by simp; omega) (fun x hx=> ?_) fun j h1 h2=> ?_
      ·rcases zO.1 hx with hx|hx
       ·exact h9 x hx
       ·simp only[zG] at hx; exact hx▸hr
      ·by_cases hji:j=i
       ·subst hji; exact hx
       ·exact hj j h1 (by omega)
 unfold He;rw[CR,C];cases ha:idx a c.Points.length with
 | false=>simpa using none_
 | true=>
  have ha':=Ds.1 ha;have hd:(decide (0≤a)&&decide (a<8))=F:=by simp; omega
  simp only[if_true,hd];exact key rt.length 0 bigN _ _ _ (by omega) (Aj (A5 (by omega))) (by simp) (by simpa using ha) fun j h1 h2=>by omega
theorem XJ{c:X4}(hc:AQ c=F)(rt:O V)(hl:rt.length≤1000):∃r,Fj c rt=G r:=by
 unfold Fj;rw[D6 (BD hc).2.2.1,hc,C,if_pos rfl]
 have key:∀(k i n:X) (v:V),i+k=rt.length→k<n→∃r,Ez rt c n v (i:V)=G r:=by
  intro k
  induction k with
  | zero=>
   intro i n v hi hn;obtain⟨q,rfl⟩:=sn (n:=n) (by omega);have:i=rt.length:=by omega
   subst this;exact⟨v,by simp[Ez]⟩
  | succ k ih=>
   intro i n v hi hn;obtain⟨q,rfl⟩:=sn (n:=n) (by omega);have hlt:i<rt.length:=by omega
   rw[Ez];simp only[Ag,hlt,decide_true,if_true,Aa hlt,C,CR,Ak hlt (A5 (by omega))];cases hx:idx rt[i] c.Segments.length with
   | false=>exact⟨-1,by simp⟩
   | true=>
    simp only[if_true,(Cn hx).1,C];exact ih (i+1) q _ (by omega) (by omega)
 exact key rt.length 0 bigN 0 (by omega) (Aj (A5 (by omega)))
structure VoyOk (f:Xb) (c:X4) (s:X8) (a:V) (rt:O V) (v:Xk):Prop where
 ne:rt≠ []
 w:v.waits.length=rt.length
 m:v.minutes.length=rt.length
 u:v.sure.length=rt.length
 seg:∀x∈rt,idx x c.Segments.length=F
 mins:∀i (h:i<rt.length),v.minutes[i]?=G (Bv (Be c rt[i]) s)
 sure:∀i (h:i<rt.length),∃l,v.sure[i]?=G l∧FX (Iu f c rt[i] s) (Bv (Be c rt[i]) s) l∧l.length≤3000
 rok:∃pts,He c a rt=G (pts,F)∧pts.length=rt.length+1
theorem xe{f:Xb}{c:X4}{s:X8}(hf:D3 f=F)(hc:AQ c=F)(hs:Cs s=F)(rt:O V)(a:V)(hl:rt.length≤1000) :
  ∃v b,M4 f c s a rt=G (v,b)∧(b=F→VoyOk f c s a rt v):=by
 have hn:=(BD hc).2.2.1;obtain⟨pts,b,e1,e2,e3,e4⟩:=S0 hc rt a hl;have eo:HG c a rt=G b:=by simp only[HG,D6 hn,hc,C,if_true,e1]
 have er:E4 c a rt=G pts:=by simp only[E4,D6 hn,hc,C,if_true,e1]
 have none_:∃v b',(G ((⟨[],[],[]⟩:Xk),E):U (Xk × W))=G (v,b')∧(b'=F→VoyOk f c s a rt v):=⟨_,E,rfl,fun h=>by cases h⟩;unfold M4;simp only[JV,Ie (Iy hs),hf,hs,eo,C,if_true,HW];cases b with
 | false=>simpa using none_
 | true=>
  obtain⟨e5,e6⟩:=e4 rfl;simp only[if_true];cases rt with
  | nil=>simpa using none_
  | cons r0 rs=>
   have hnz:(((r0::rs).length:V)==(0:V))=E:=by simp; omega
   simp only[hnz,zC,if_false,er,C];generalize hrt:r0::rs=rt at *
   rw[Ep (by omega),C];simp only[kR,kY];have hlen:(pts.take rt.length).length=rt.length:=by simp; omega
   have key:∀(k i n:X) (ws:O W) (ms:O V) (us:O (O X9)),i+k=rt.length→k<n→ws.length=i→ms.length=i→us.length=i→
     (∀j (h:j<rt.length),j<i→ms[j]?=G (Bv (Be c rt[j]) s))→(∀j (h:j<rt.length),j<i→∃l,us[j]?=G l∧FX (Iu f c rt[j] s) (Bv (Be c rt[j]) s) l∧l.length≤3000)→
     ∃v b,HX rt f c s (pts.take rt.length) ((pts.take rt.length).length:V) n (i:V) ws ms us=G (v,b)∧(b=F→VoyOk f c s a rt v):=by
    intro k
    induction k with
    | zero=>
     intro i n ws ms us hi hn h1 h2 h3 h4 h5;obtain⟨q,rfl⟩:=sn (n:=n) (by omega);have:i=rt.length:=by omega
     subst this;refine⟨⟨ws,ms,us⟩,F,by rw[hlen]; simp[HX],fun _=>⟨by rw[← hrt]; simp,h1,h2,h3,e6,fun j h=>h4 j h h,fun j h=>h5 j h h,pts,e1,e5⟩⟩
    | succ k ih=>
     intro i n ws ms us hi hn h1 h2 h3 h4 h5;obtain⟨q,rfl⟩:=sn (n:=n) (by omega);have hlt:i<rt.length:=by omega
     have hlt':i<(pts.take rt.length).length:=by omega
     have hx:=e6 _ (zB hlt);have hpt:=e3 _ (yS (zB hlt'));obtain⟨l,g1,g2,g3⟩:=YG hf hc hs hx;rw[HX];simp only[Ag,hlt',decide_true,if_true,Aa hlt',Aa hlt,C,(GC (⟨[],E⟩:Xa) hpt).1,(Cn hx).1,Ms,g1];rw[if_pos (AR (by omega) (by simp) (by omega)),if_pos (AR (by omega) (by simp) (by omega)),if_pos (AR (by omega) (by simp) (by omega)),Ak hlt (A5 (by omega))];refine ih (i+1) q _ _ _ (by omega) (by omega) (by simp; omega) (by simp; omega) (by simp; omega) (fun j hj1 hj2=> ?_) fun j hj1 hj2=> ?_
     ·by_cases hji:j=i
      ·subst hji; subst h2; simp
      ·rw[yY (by omega)]; exact h4 j hj1 (by omega)
     ·by_cases hji:j=i
      ·subst hji; subst h3; exact⟨l,by simp,g2,g3⟩
      ·rw[yY (by omega)]; exact h5 j hj1 (by omega)
   exact key rt.length 0 bigN [] [] [] (by omega) (Aj (A5 (by omega))) Z Z Z (fun j _ h=>by omega) fun j _ h=>by omega
def Ik(y:X5):O W:= [y.i0,y.i1,y.i2,y.i3,y.i4,y.i5,y.i6,y.i7]
def NK(y:X5):X:=(Ik y).countP fun b=> !b
theorem vk(y:X5){n:X}(hn:n<8):Ik (X5.set y n F)=(Ik y).set n F:=by
 have:n=0∨n=1∨n=2∨n=3∨n=4∨n=5∨n=6∨n=7:=by omega
 rcases this with rfl|rfl|rfl|rfl|rfl|rfl|rfl|rfl<;>rfl
theorem gH{l:O W}:∀{n:X},l[n]?=G E→((l.set n F).countP fun b=> !b)+1=l.countP fun b=> !b:=by
 induction l with
 | nil=>intro n h; simp at h
 | cons a l ih=>
  intro n h;cases n with
  | zero=>simp only[List.getElem?_cons_zero,zE] at h; subst h; simp
  | succ n=>
   simp only[List.getElem?_cons_succ] at h;have:=ih h;simp only[kT,List.countP_cons];omega
theorem TX{y:X5}{a:V}(h:ix (Ik y) a=G E):NK (X5.set y (Int.toNat a) F)+1=NK y∧0≤a∧a<8:=by
 have hg:=Am h;have hl:(Ik y).length=8:=rfl
 have ha:0≤a:=by
  unfold ix at h;split at h
  ·rename_i h1; exact h1
  ·cases h
 have hn:a.toNat<8:=by
  have:=(kW.1 hg).1;omega
 refine⟨?_,ha,by omega⟩;unfold NK;rw[vk y hn];exact gH hg
theorem IX{l:O V}(h:l.length≤1000):Bl l=G l:=by
 unfold Bl B2;rw[if_pos ⟨by omega,by omega,by omega,by omega⟩];simp only[C,Int.toNat_zero,kP,List.nil_append];rw[if_pos (by simp only[A4,kO,decide_eq_true_eq]; omega)]
theorem vC{c:X4}(hc:AQ c=F):∀(u n:X) (a b:V) (rt:O V) (y:X5) (out:O (O V)),u<n→NK y≤u→ix (Ik y) a=G E→rt.length+u≤100→out.length+10 ^ u≤100000000→
  ∃r,Fa n c a b rt y out=G r∧r.length≤out.length+10 ^ u∧∀x∈r,x∈out∨x.length≤100:=by
 obtain⟨_,hs10,_,_⟩:=BD hc;intro u
 induction u with
 | zero=>
  intro n a b rt y out hn hu hi;have:=(TX hi).1;omega
 | succ u ih=>
  intro n a b rt y out hn hu hi hr ho;obtain⟨q,rfl⟩:=sn (n:=n) (by omega);obtain⟨hc1,ha0,ha8⟩:=TX hi;have hp:10 ^ (u+1)=10*10 ^ u:=by rw[Nat.pow_succ]; omega
  have hp1:0<10 ^ u:=Nat.pow_pos (by omega);rw[Fa,NQ];by_cases hab:(a==b)=F
  ·rw[if_pos hab,IX (by omega),C,if_pos (AR (by omega) (by simp) (by omega))];refine⟨_,Z,by simp; omega,fun x hx=> ?_⟩;rcases zO.1 hx with hx|hx
   ·exact Or.inl hx
   ·simp only[zG] at hx; subst hx; exact Or.inr (by omega)
  ·rw[if_neg hab,if_pos (by simp; omega)];generalize hy:X5.set y (Int.toNat a) F=y'
   have hy':(⟨y'.i0,y'.i1,y'.i2,y'.i3,y'.i4,y'.i5,y'.i6,y'.i7⟩:X5)=y':=rfl;rw[hy'];rw[hy] at hc1
   have key:∀(k i m:X) (o:O (O V)),i+k=c.Segments.length→k<m→o.length≤out.length+i*10 ^ u→(∀x∈o,x∈out∨x.length≤100)→
     ∃r,F9 (Fa q) a b rt c y' m (i:V) o=G r∧r.length≤out.length+c.Segments.length*10 ^ u∧∀x∈r,x∈out∨x.length≤100:=by
    intro k
    induction k with
    | zero=>
     intro i m o hi hm hl hx;obtain⟨p,rfl⟩:=sn (n:=m) (by omega);have:i=c.Segments.length:=by omega
     subst this;exact⟨o,by simp[F9],hl,hx⟩
    | succ k ihk=>
     intro i m o hi hm hl hx;obtain⟨p,rfl⟩:=sn (n:=m) (by omega);have hlt:i<c.Segments.length:=by omega
     have hsucc:(i+1)*10 ^ u=i*10 ^ u+10 ^ u:=Nat.succ_mul i _;have hle:i*10 ^ u≤9*10 ^ u:=Nat.mul_le_mul_right _ (by omega)
     have go:∀o',o'.length≤out.length+(i+1)*10 ^ u→(∀x∈o',x∈out∨x.length≤100)→∃r,F9 (Fa q) a b rt c y' p (IntKind.i64.wrap ((i:V)+1)) o'=G r∧r.length≤out.length+c.Segments.length*10 ^ u∧∀x∈r,x∈out∨x.length≤100:=fun o' h1 h2=>by
      rw[Ak hlt (A5 (by omega))];exact ihk (i+1) p o' (by omega) (by omega) h1 h2
     rw[F9];simp only[Ag,hlt,decide_true,if_true,Aa hlt,C,Uf];have he:=Ug hc (zB hlt) a;generalize Iw c.Segments[i] a=e at he
     by_cases h0:0≤e
     ·have he':=Ds.1 (he.resolve_left (by omega));have hp8:=(BD hc).1;have hd:(decide (0≤e)&&decide (e<8))=F:=by simp; omega
      simp only[h0,decide_true,if_true,hd,yD];rw[if_pos (by simp; omega)];obtain⟨bb,eb⟩:=W6 y' h0 (by omega);rw[eb,C];cases bb with
      | true=>
       simp only[Hg,Bool.not_true,zC,if_false];exact go o (by omega) hx
      | false=>
       simp only[Hg,Bool.not_false,if_true];rw[IX (by omega),C,if_pos (AR (by omega) (by simp) (by omega))];obtain⟨r,e1,e2,e3⟩:=ih q e b (rt++ [(i:V)]) y' o (by omega) (by omega) eb (by simp; omega) (by omega);rw[e1,C]
       exact go r (by omega) fun x h=>by
        rcases e3 x h with h|h
        ·exact hx x h
        ·exact Or.inr h
     ·simp only[h0,decide_false,zC,if_false,Hg];exact go o (by omega) hx
   obtain⟨r,e1,e2,e3⟩:=key c.Segments.length 0 bigN out (by omega) (Aj (A5 (by omega))) (by omega) fun x hx=>Or.inl hx
   have hle:c.Segments.length*10 ^ u≤10*10 ^ u:=Nat.mul_le_mul_right _ hs10;exact⟨r,e1,by omega,e3⟩
theorem eX{c:X4}(hc:AQ c=F)(a b:V):∃r,Lu c a b=G r∧r.length≤100000000∧∀x∈r,x.length≤100:=by
 have hp8:=(BD hc).1;have nil_:∃r,G ([]:O (O V))=G r∧r.length≤100000000∧∀x∈r,x.length≤100:=⟨[],rfl,by simp,fun x h=>by cases h⟩;unfold Lu QF;rw[D6 (BD hc).2.2.1,hc,C,if_pos rfl,CR,C,CR];cases ha:idx a c.Points.length with
 | false=>simpa using nil_
 | true=>
  simp only[if_true,C];cases hb:idx b c.Points.length with
  | false=>simpa using nil_
  | true=>
   simp only[if_true];have ha':=Ds.1 ha
   have hi:ix (Ik ⟨E,E,E,E,E,E,E,E⟩) a=G E:=by
    obtain⟨n,rfl⟩:∃n:X,a=(n:V):=⟨a.toNat,by omega⟩;have:n=0∨n=1∨n=2∨n=3∨n=4∨n=5∨n=6∨n=7:=by omega
    rcases this with rfl|rfl|rfl|rfl|rfl|rfl|rfl|rfl<;>rfl
   obtain⟨r,e1,e2,e3⟩:=vC hc 8 bigN a b [] ⟨E,E,E,E,E,E,E,E⟩ [] (by rw[DF]; omega) (by decide) hi (by simp) (by simp);rw[e1,C];exact⟨r,Z,by simpa using e2,fun x hx=>(e3 x hx).resolve_left (by simp)⟩
theorem TE{c:X4}(hc:AQ c=F)(a b:V):∃rt q,Ja c a b=G (rt,q)∧rt.length≤100:=by
 obtain⟨r,e,hl,hx⟩:=eX hc a b;unfold Ja;rw[e,C];cases r with
 | nil=>exact⟨[],E,by simp,by simp⟩
 | cons r0 rs=>
  have hnz:(((r0::rs).length:V)==(0:V))=E:=by simp; omega
  have hml:(r0::rs).length≤maxLen:=by rw[Bo]; omega
  rw[hnz,if_neg (by simp),show ix (r0::rs) 0=G r0 from rfl,C];have h0:r0.length≤100:=hx r0 (by simp);generalize r0::rs=l at hl hx hml
  have key:∀(k i n:X) (v:O V),i+k=l.length→k<n→v.length≤100→∃rt q,G2 l c n v (i:V)=G (rt,q)∧rt.length≤100:=by
   intro k
   induction k with
   | zero=>
    intro i n v hi hn hv;obtain⟨q,rfl⟩:=sn (n:=n) (by omega);have:i=l.length:=by omega
    subst this;exact⟨v,F,by simp[G2],hv⟩
   | succ k ih=>
    intro i n v hi hn hv;obtain⟨q,rfl⟩:=sn (n:=n) (by omega);have hlt:i<l.length:=by omega
    have hli:=hx _ (zB hlt);obtain⟨m1,e1⟩:=XJ hc l[i] (by omega);obtain⟨m2,e2⟩:=XJ hc v (by omega);rw[G2];simp only[Ag,hlt,decide_true,if_true,Aa hlt,C,e1,e2,Ak hlt hml];by_cases hm:m1<m2
    ·simp only[hm,decide_true,if_true];exact ih (i+1) q _ (by omega) (by omega) hli
    ·simp only[hm,decide_false,zC,if_false];exact ih (i+1) q _ (by omega) (by omega) hv
  exact key l.length 0 bigN r0 (by omega) (Aj hml) h0
def FW(f:Xb)(c:X4)(s:X8)(i x:V):Prop:=0≤x∧x+Bv (Be c i) s≤2880∧∀m,x≤m→m≤x+Bv (Be c i) s→Iu f c i s m=F
theorem XU{f:Xb}{c:X4}{s:X8}{i x:V}{l:O X9}(h:FX (Iu f c i s) (Bv (Be c i) s) l)(hw:∃w∈l,w.From≤x∧x≤w.To):FW f c s i x:=by
 obtain⟨w,hm,h1,h2⟩:=hw;obtain⟨a1,_,_,a4⟩:=h w hm;obtain⟨b1,b2⟩:=a4 x h1 h2;exact⟨by omega,b1,b2⟩
structure Sailed (f:Xb) (c:X4) (s:X8) (rt:O V) (start:V) (m:X) (l:O V):Prop where
 fst:l[0]?=G start
 saf:∀j (h:j<rt.length),j≤m→∃x,l[j]?=G x∧FW f c s rt[j] x
 ord:∀j (h:j+1<rt.length),j+1≤m→∃x y,l[j]?=G x∧l[j+1]?=G y∧x+Bv (Be c rt[j]) s≤y
theorem Sailed.at{f:Xb}{c:X4}{s:X8}{rt:O V}{start:V}{l:O V}(H:Sailed f c s rt start rt.length l):∀i (h:i<rt.length),∃x,l[i]?=G x∧FW f c s rt[i] x:=fun i h=>H.saf i h (by omega)
theorem Sailed.ge{f:Xb}{c:X4}{s:X8}{rt:O V}{start:V}{l:O V}(hc:AQ c=F)(hg:∀x∈rt,idx x c.Segments.length=F)(H:Sailed f c s rt start rt.length l):∀i,i<rt.length→∀x,l[i]?=G x→start≤x:=by
 intro i
 induction i with
 | zero=>
  intro hi x hx;rw[H.fst] at hx
  simp only[zE] at hx
  omega
 | succ i ih=>
  intro hi x hx;obtain⟨y,z,e1,e2,e3⟩:=H.ord i hi (by omega);rw[e2] at hx
  simp only[zE] at hx
  have:=ih (by omega) y e1;have:=(K5 (s:=s) hc (hg _ (zB (show i<rt.length by omega)))).1;omega
theorem vW{f:Xb}{c:X4}{s:X8}{a:V}{rt:O V}{v:Xk}(hc:AQ c=F)(hv:VoyOk f c s a rt v)(hl:rt.length≤1000)(start:V) :
  ∃l b,M5 v start=G (l,b)∧(b=F→l.length=rt.length∧Sailed f c s rt start rt.length l):=by
 have none_:∃l b,(G (([]:O V),E):U (O V × W))=G (l,b)∧(b=F→l.length=rt.length∧Sailed f c s rt start rt.length l):=⟨[],E,rfl,fun h=>by cases h⟩;have h0:0<rt.length:=yI.2 hv.ne;obtain⟨l0,g1,g2,g3⟩:=hv.sure 0 h0;unfold M5;have e0:ix v.sure 0=G l0:=by rw[show(0:V)=((0:X):V) from rfl,Bz,g1]
 obtain⟨b,e1,e2⟩:=pC (l:=l0) (a:=start) (by omega);rw[e0,C,e1,C];cases b with
 | false=>simpa using none_
 | true=>
  simp only[if_true];have hs0:=XU g2 (e2 rfl)
  have key:∀(k i n:X) (acc:O V),i+1+k=rt.length→k<n→acc.length=i+1→Sailed f c s rt start i acc→
    ∃l b,EI v n ((i+1:X):V) acc=G (l,b)∧(b=F→l.length=rt.length∧Sailed f c s rt start rt.length l):=by
   intro k
   induction k with
   | zero=>
    intro i n acc hi hn ha hj;obtain⟨q,rfl⟩:=sn (n:=n) (by omega);have hu:¬(i+1<v.sure.length):=by rw[hv.u]; omega
    exact⟨acc,F,by simp only[EI,Ag,hu,decide_false,zC,if_false],fun _=>⟨by omega,hj.fst,fun j h _=>hj.saf j h (by omega),fun j h _=>hj.ord j h (by omega)⟩⟩
   | succ k ih=>
    intro i n acc hi hn ha hj;obtain⟨q,rfl⟩:=sn (n:=n) (by omega);have hu:i+1<v.sure.length:=by rw[hv.u]; omega
    have hlt:i+1<rt.length:=by omega
    obtain⟨x,f1,f2,f3,f4⟩:=hj.saf i (by omega) (yT i);have hm:=hv.mins i (by omega);obtain⟨mb1,mb2⟩:=K5 (s:=s) hc (hv.seg _ (zB (show i<rt.length by omega)));obtain⟨l,w1,w2,w3⟩:=hv.sure (i+1) hlt;have ep:IntKind.i64.wrap (((i+1:X):V) - 1)=(i:V):=by rw[Ah (by omega) (by omega)]; omega
    have ew:IntKind.i64.wrap (x+Bv (Be c rt[i]) s)=x+Bv (Be c rt[i]) s:=Ah (by omega) (by omega);obtain⟨r,n1,n2⟩:=tC (l:=l) (a:=IntKind.i64.wrap (x+Bv (Be c rt[i]) s)) (by omega) fun w hw=>⟨(w2 w hw).1,(w2 w hw).2.1,(w2 w hw).2.2.1⟩
    rw[EI];simp only[Ag,hu,decide_true,if_true,ep,Bz,f1,hm,w1,C,n1];by_cases hr:r<0
    ·simp only[hr,decide_true,if_true,Fv];exact none_
    ·simp only[hr,decide_false,zC,if_false];have hn2:=n2.resolve_left (by omega);have hsa:=XU w2 hn2.2;have hle:=hn2.1;rw[ew] at hle
     have go:∀bb,∃l b,Fv ((i+1:X):V) r v acc (EI v q) bb=G (l,b)∧(b=F→l.length=rt.length∧Sailed f c s rt start rt.length l):=by
      intro bb;cases bb with
      | true=>simp only[Fv,if_true]; exact none_
      | false=>
       simp only[Fv,zC,if_false];rw[if_pos (AR (by omega) (by simp) (by omega)),Ak hlt (A5 (by omega))];have hr1:(acc++ [r])[i+1]?=G r:=by rw[← ha]; simp
       have hlo:∀j,j≤i→(acc++ [r])[j]?=acc[j]?:=fun j hj=>yY (by omega)
       refine ih (i+1) q _ (by omega) (by omega) (by simp; omega) ⟨by rw[hlo 0 (by omega)]; exact hj.fst,fun j h1 h2=> ?_,fun j h1 h2=> ?_⟩
       ·by_cases hji:j=i+1
        ·subst hji;exact⟨r,hr1,hsa⟩
        ·rw[hlo j (by omega)];exact hj.saf j h1 (by omega)
       ·by_cases hji:j=i
        ·subst hji;exact⟨x,r,by rw[hlo j (by omega)]; exact f1,hr1,hle⟩
        ·rw[hlo j (by omega),hlo (j+1) (by omega)];exact hj.ord j h1 (by omega)
     by_cases hlt2:IntKind.i64.wrap (x+Bv (Be c rt[i]) s)<r
     ·simp only[hlt2,decide_true,if_true];have hwt:i+1<v.waits.length:=by rw[hv.w]; omega
      rw[I hwt,C];exact go _
     ·simp only[hlt2,decide_false,zC,if_false];exact go _
  refine key (rt.length - 1) 0 bigN [start] (by omega) (Aj (A5 (by omega))) Z ⟨Z,fun j h1 h2=> ?_,fun j h1 h2=>by omega⟩;have:j=0:=by omega
  subst this;exact⟨start,Z,hs0⟩
theorem uA{f:Xb}{c:X4}{s:X8}{a sh:V}{rt st:O V}{v:Xk}(hc:AQ c=F)(hs:Cs s=F)(hv:VoyOk f c s a rt v)(hl:rt.length≤1000)
  (h1:st.length=rt.length) (h2:∀i (h:i<rt.length),∃x,st[i]?=G x∧FW f c s rt[i] x) :
  ∃ps,Ln c sh s a rt st=G ps∧(ps.length=rt.length∧ps.map X2.Segment=rt∧ps.map X2.Start=st)∧∀p∈ps,p.Ship=sh∧idx p.Segment c.Segments.length=F∧p.End=p.Start+Bv (Be c p.Segment) s∧FW f c s p.Segment p.Start∧∃i,i<rt.length∧st[i]?=G p.Start:=by
 obtain⟨pts,r1,r2⟩:=hv.rok;have hn:=(BD hc).2.2.1;unfold Ln HG E4;simp only[D6 hn,Ie (Iy hs),hc,hs,C,if_true,r1,h1];rw[if_neg (by simp)]
 have key:∀(k i n:X) (acc:O X2),i+k=rt.length→k<n→acc.map X2.Segment=rt.take i→acc.map X2.Start=st.take i→(∀p∈acc,p.Ship=sh∧idx p.Segment c.Segments.length=F∧p.End=p.Start+Bv (Be c p.Segment) s∧FW f c s p.Segment p.Start∧∃i,i<rt.length∧st[i]?=G p.Start)→
   ∃ps,HA sh st rt c s pts n (i:V) acc=G ps∧(ps.length=rt.length∧ps.map X2.Segment=rt∧ps.map X2.Start=st)∧∀p∈ps,p.Ship=sh∧idx p.Segment c.Segments.length=F∧p.End=p.Start+Bv (Be c p.Segment) s∧FW f c s p.Segment p.Start∧∃i,i<rt.length∧st[i]?=G p.Start:=by
  intro k
  induction k with
  | zero=>
   intro i n acc hi hn ha hb hp;obtain⟨q,rfl⟩:=sn (n:=n) (by omega);have:i=rt.length:=by omega
   subst this;rw[zP] at ha
   rw[← h1,zP] at hb
   exact⟨acc,by simp[HA],⟨by rw[← ha]; simp,ha,hb⟩,hp⟩
  | succ k ih=>
   intro i n acc hi hn ha hb hp;obtain⟨q,rfl⟩:=sn (n:=n) (by omega);have hlt:i<rt.length:=by omega
   have hal:acc.length=i:=by have:=congrArg List.length ha; simp at this; omega
   obtain⟨x,x1,x2⟩:=h2 i hlt;have hseg:=hv.seg _ (zB hlt);obtain⟨mb1,mb2⟩:=K5 (s:=s) hc hseg;have x2':=x2;obtain⟨y1,y2,y3⟩:=x2';have hpt:i<pts.length:=by omega
   have hmi:(decide (0≤x)&&decide (x≤2880))=F:=by simp; omega
   rw[HA];simp only[Ag,hlt,decide_true,if_true,Aa hlt,Bz st,x1,C,Ee,hmi,(Cn hseg).1,Aa hpt,Ms];rw[if_pos (AR (by omega) (by simp) (by omega)),Ak hlt (A5 (by omega)),Ah (n:=x+_) (by omega) (by omega)];have hsl:i<st.length:=by omega
   have x3:=x1;rw[I hsl,zE] at x3
   have hst:∀q:X2,q.Start=x→(acc++ [q]).map X2.Start=st.take (i+1):=fun q hq=>(by rw[yX,hb,zD hsl,x3,← hq]; rfl)
   refine ih (i+1) q _ (by omega) (by omega) (by rw[yX,ha,zD hlt]; rfl) (hst _ Z) fun p hpm=> ?_
   rcases zO.1 hpm with hpm|hpm
   ·exact hp p hpm
   ·simp only[zG] at hpm
    subst hpm;exact⟨Z,hseg,Z,x2,i,hlt,x1⟩
 exact key rt.length 0 bigN [] (by omega) (Aj (A5 (by omega))) (by simp) (by simp) fun p hp=>by cases hp
theorem vB{c:X4}(hc:AQ c=F){rt:O V}(hl:rt.length≤1000)(hs:∀x∈rt,idx x c.Segments.length=F):∃r,Fj c rt=G r∧0≤r:=by
 unfold Fj;rw[D6 (BD hc).2.2.1,hc,C,if_pos rfl]
 have key:∀(k i n:X) (v:V),i+k=rt.length→k<n→0≤v→v≤240*i→∃r,Ez rt c n v (i:V)=G r∧0≤r:=by
  intro k
  induction k with
  | zero=>
   intro i n v hi hn h0 h1;obtain⟨q,rfl⟩:=sn (n:=n) (by omega);have:i=rt.length:=by omega
   subst this;exact⟨v,by simp[Ez],h0⟩
  | succ k ih=>
   intro i n v hi hn h0 h1;obtain⟨q,rfl⟩:=sn (n:=n) (by omega);have hlt:i<rt.length:=by omega
   have hx:=hs _ (zB hlt);obtain⟨_,_,m1,m2⟩:=(MY hc).2.2 _ (Cn hx).2;rw[Ez];simp only[Ag,hlt,decide_true,if_true,Aa hlt,C,CR,Ak hlt (A5 (by omega)),hx,(Cn hx).1];rw[Ah (n:=v+_) (by omega) (by omega)];exact ih (i+1) q _ (by omega) (by omega) (by omega) (by omega)
 exact key rt.length 0 bigN 0 (by omega) (Aj (A5 (by omega))) (by omega) (by omega)
theorem di{f:Xb}{c:X4}{s:X8}{a start:V}{rt st:O V}{v:Xk}(hc:AQ c=F)(hs:Cs s=F)(hv:VoyOk f c s a rt v)(hl:rt.length≤1000)(h1:st.length=rt.length)
  (h2:Sailed f c s rt start rt.length st):∃r,KV c s rt st=G r∧r≤2880∧start+v.minutes.sum≤r:=by
 obtain⟨r0,e0,p0⟩:=vB hc hl hv.seg;have hpos:0<rt.length:=yI.2 hv.ne
 have acc:∀i,i<rt.length→∃x m,st[i]?=G x∧v.minutes[i]?=G m∧start+(v.minutes.take (i+1)).sum≤x+m:=by
  intro i
  induction i with
  | zero=>
   intro hi;have hm:=hv.mins 0 hi;have hlm:0<v.minutes.length:=by rw[hv.m]; omega
   refine⟨start,_,h2.fst,hm,?_⟩;rw[zD hlm];have:=I hlm;rw[hm] at this
   simp only[zE] at this
   rw[← this];simp
  | succ i ih=>
   intro hi;obtain⟨x,m,x1,x2,x3⟩:=ih (by omega);obtain⟨x',y,y1,y2,y3⟩:=h2.ord i hi (by omega);have hm:=hv.mins (i+1) hi;have hm0:=hv.mins i (by omega);have hlm:i+1<v.minutes.length:=by rw[hv.m]; omega
   rw[x1] at y1
   rw[x2] at hm0
   simp only[zE] at y1 hm0
   subst y1;refine⟨y,_,y2,hm,?_⟩;rw[zD hlm];have:=I hlm;rw[hm] at this
   simp only[zE] at this
   rw[← this,List.sum_append];simp only[kU,List.sum_nil];omega
 obtain⟨x,m,x1,x2,x3⟩:=acc (rt.length - 1) (by omega);obtain⟨y,y1,y2,y3,_⟩:=h2.at (rt.length - 1) (by omega);have hm:=hv.mins (rt.length - 1) (by omega);rw[x1] at y1
 rw[x2] at hm
 simp only[zE] at y1 hm
 subst y1;rw[yA (by rw[hv.m]; omega)] at x3
 have hseg:=hv.seg _ (zB (show rt.length - 1<rt.length by omega));obtain⟨mb1,mb2⟩:=K5 (s:=s) hc hseg;have hmi:(decide (0≤x)&&decide (x≤2880))=F:=by simp; omega
 unfold KV;simp only[e0,C,Ie (Iy hs),hs,if_true,h1,show ¬r0<0 by omega,decide_false,zC,if_false];rw[if_neg (by simpa using hv.ne),if_neg (by simp)];have ep:IntKind.i64.wrap ((rt.length:V) - 1)=((rt.length - 1:X):V):=by rw[Ah (by omega) (by omega)]; omega
 rw[ep,Bz,x1,C,Ee,C,if_pos hmi,Aa (show rt.length - 1<rt.length by omega),C,(Cn hseg).1,C,Ms,C];rw[Ah (n:=x+_) (by omega) (by omega)];exact⟨_,Z,by omega,by omega⟩
structure OptOk (h:X1) (a:X3) (o:X0):Prop where
 pos:0<o.Passages.length
 len:o.Passages.length≤100
 pass:∀p∈o.Passages,p.Ship=a.Ship∧DA h.Chart h.Fleet p=F∧FW h.Forecast h.Chart (BK h.Fleet a.Ship) p.Segment p.Start∧p.End=p.Start+Bv (Be h.Chart p.Segment) (BK h.Fleet a.Ship)
 start:a.Ready≤o.Start∧o.Start≤a.Due
 cost:0≤o.Cost∧o.Cost≤2880
 late:∀p∈o.Passages,o.Start≤p.Start
 fst:∀q,o.Passages[0]?=G q→q.Start=o.Start
 st64:0≤o.Start∧o.Start≤o.Arrival∧o.Arrival≤2880
 again:∃v,Gi h a (o.Passages.map X2.Segment)=G (v,F)∧Fs h a v (o.Passages.map X2.Segment) o.Start=G (o,F)
theorem ta{h:X1}{a:X3}{rt:O V}{v:Xk}(hc:AQ h.Chart=F)(hsh:idx a.Ship h.Fleet.length=F)(hs:Cs (BK h.Fleet a.Ship)=F)
  (hv:VoyOk h.Forecast h.Chart (BK h.Fleet a.Ship) a.From rt v) (hcv:Gi h a rt=G (v,F)) (hl:rt.length≤100) (start:V) (hr:0≤a.Ready) (h0:a.Ready≤start) (h1:start≤a.Due):∃o b,Fs h a v rt start=G (o,b)∧(b=F→OptOk h a o):=by
 obtain⟨st,b,e1,e2⟩:=vW hc hv (by omega) start
 have hmb:∀m∈v.minutes,1≤m∧m≤480:=fun m hm=>by
  obtain⟨i,hi,rfl⟩:=zH hm;have hir:i<rt.length:=by rw[← hv.m]; exact hi
  have:=hv.mins i hir;rw[I hi] at this
  simp only[zE] at this
  rw[this];exact K5 hc (hv.seg _ (zB hir))
 have hsum:∀l:O V,(∀m∈l,1≤m∧m≤480)→0≤l.sum∧l.sum≤480*(l.length:V):=fun l=>by
  induction l with
  | nil=>intro _; simp
  | cons x l ih=>
   intro hl;have:=hl x (by simp);have:=ih fun m hm=>hl m (by simp[hm])
   simp only[kU,zS];omega
 have hml:=hv.m;cases b with
 | false=>exact⟨_,E,by unfold Fs; rw[e1]; rfl,fun h=>by cases h⟩
 | true=>
  obtain⟨s1,s2⟩:=e2 rfl;obtain⟨ps,p1,⟨p2,p4,p5⟩,p3⟩:=uA (sh:=a.Ship) hc hs hv (by omega) s1 s2.at;obtain⟨r,r1,r2,r3⟩:=di hc hs hv (by omega) s1 s2;have b0:=hsum v.minutes hmb
  have key:∀(k i n:X),i+k=v.minutes.length→k<n→HS v start r ps n (i:V) (r - a.Ready - (v.minutes.take i).sum)=G (⟨start,r,r - a.Ready - v.minutes.sum,ps⟩,decide (r≤2880)):=by
   intro k
   induction k with
   | zero=>
    intro i n hi hn;obtain⟨q,rfl⟩:=sn (n:=n) (by omega);have:i=v.minutes.length:=by omega
    subst this;rw[zP];simp[HS]
   | succ k ih=>
    intro i n hi hn;obtain⟨q,rfl⟩:=sn (n:=n) (by omega);have hlt:i<v.minutes.length:=by omega
    have b1:=hsum (v.minutes.take i) fun m hm=>hmb m (yS hm)
    have b2:=hmb _ (zB hlt);have b3:((v.minutes.take i).length:V)≤100:=by simp only[List.length_take]; omega
    have ei:=ih (i+1) q (by omega) (by omega);rw[zD hlt,List.sum_append] at ei
    simp only[kU,List.sum_nil] at ei
    rw[HS];simp only[Ag,hlt,decide_true,if_true,Aa hlt,C,Ak hlt (A5 (by omega))];rw[Ah (by omega) (by omega)];rw[← ei];congr 1
    omega
  have ek:=key v.minutes.length 0 bigN (by omega) (Aj (A5 (by omega)));simp only[List.take_zero,List.sum_nil,Int.sub_zero] at ek
  have eo:Fs h a v rt start=G (⟨start,r,r - a.Ready - v.minutes.sum,ps⟩,decide (r≤2880)):=by
   unfold Fs;rw[e1,C];simp only[if_true,(FF hsh).1,C,p1,r1];rw[Ah (n:=r - _) (by omega) (by omega)];exact ek
  have pfst:∀q,ps[0]?=G q→q.Start=start:=fun q hq=>by
   have e5:(ps.map X2.Start)[0]?=G q.Start:=by rw[yL,hq]; rfl
   rw[p5,s2.fst,zE] at e5
   exact e5.symm
  refine⟨_,_,eo,fun _=>⟨by simp only; rw[p2]; exact yI.2 hv.ne,by simp only; omega,fun p hp=> ?_,⟨h0,h1⟩,⟨by simp only; omega,by simp only; omega⟩,fun p hp=>(by
   obtain⟨_,_,_,_,i,hi,e⟩:=p3 p hp;exact s2.ge hc hv.seg i hi _ e),fun q hq=>pfst q hq,⟨by simp only; omega,by simp only; omega,by simp only; omega⟩,v,by simp only[p4]; exact hcv,by simp only[p4]; rw[eo]; simp; omega⟩⟩
  obtain⟨q1,q2,q3,q4,_⟩:=p3 p hp;refine⟨q1,?_,q4,q3⟩;obtain⟨q5,q6,_⟩:=q4;obtain⟨mb1,mb2⟩:=K5 (s:=BK h.Fleet a.Ship) hc q2;simp only[DA,D7,zA,decide_eq_true_eq,q1];exact⟨hsh,q2,⟨by omega,by omega⟩,by omega,by rw[Ah (by omega) (by omega)]; exact q3⟩
def Ck(h:X1)(a:X3):W:=idx a.Ship h.Fleet.length&&(idx a.From h.Chart.Points.length&&(idx a.To h.Chart.Points.length&&(decide (a.From≠a.To)&&(D7 a.Ready&&(decide (a.Ready≤a.Due)&&decide (a.Due≤2880))))))
theorem Rp(h:X1)(a:X3):Jx h a=G (Ck h a):=by
 unfold Jx Ck;simp only[CR,C,Ee,Cu,TG,D7,VG];cases idx a.Ship h.Fleet.length<;>cases idx a.From h.Chart.Points.length<;>cases idx a.To h.Chart.Points.length<;>simp[bne_iff_ne]
theorem VI{h:X1}(s:HSmall h)(a:X3):Jb h a=G (Ap h&&Ck h a):=by
 unfold Jb;rw[Mr s,C,Rp];cases Ap h<;>rfl
theorem Pq{h:X1}{a:X3}(s:HSmall h)(hh:Ap h=F)(ha:Ck h a=F):∃l,Dl h a=G l∧l.length≤8∧∀o∈l,OptOk h a o:=by
 have hh':=hh;simp only[Ap,zA] at hh'
 obtain⟨hf,hc,hfl,_,_⟩:=hh';have ha':=ha;simp only[Ck,zA,D7,decide_eq_true_eq] at ha'
 obtain⟨i1,i2,i3,_,⟨m1,m2⟩,d1,d2⟩:=ha';have hs:=(DK hfl).2 _ (FF i1).2;obtain⟨rt,q,b1,b2⟩:=TE hc a.From a.To;obtain⟨v,b,v1,v2⟩:=xe hf hc hs rt a.From (by omega);obtain⟨pts,pb,t1,_⟩:=S0 hc rt a.From (by omega)
 have hcv:∃v' b',Gi h a rt=G (v',b')∧(b'=F→VoyOk h.Forecast h.Chart (BK h.Fleet a.Ship) a.From rt v'):=by
  unfold Gi E4;simp only[D6 (BD hc).2.2.1,hc,C,if_true,t1]
  have go:∀bb,∃v' b',Jy rt h a bb=G (v',b')∧(b'=F→VoyOk h.Forecast h.Chart (BK h.Fleet a.Ship) a.From rt v'):=fun bb=>by
   cases bb with
   | true=>exact⟨_,E,rfl,fun h=>by cases h⟩
   | false=>
    simp only[Jy,zC,if_false,(FF i1).1,C,v1];exact⟨v,b,Z,v2⟩
  cases pts with
  | nil=>exact go F
  | cons p0 pr=>
   rw[if_neg (by simp; omega)];have hlen:(p0::pr).length≤1000:=by omega
   have ep:IntKind.i64.wrap (((p0::pr).length:V) - 1)=(((p0::pr).length - 1:X):V):=by rw[Ah (by omega) (by omega)]; simp
   rw[ep,Aa (show(p0::pr).length - 1<(p0::pr).length by simp),C];exact go _
 obtain⟨v',b',w1,w2⟩:=hcv;have nil_:∃l,G ([]:O X0)=G l∧l.length≤8∧∀o∈l,OptOk h a o:=⟨[],rfl,by simp,fun o ho=>by cases ho⟩;unfold Dl;rw[VI s,hh,ha,C];simp only[Bool.and_self,if_true,b1,C,w1];cases q with
 | false=>simpa using nil_
 | true=>
  simp only[if_true];cases b' with
  | false=>simpa using nil_
  | true=>
   simp only[if_true];have hv:=w2 rfl
   have key:∀(k n:X) (m:V) (l:O X0),2881 - m≤(k:V)→k<n→a.Ready≤m→l.length≤8→(∀o∈l,OptOk h a o)→∃l',Gb (rt,F) h a (v',F) n m l=G l'∧l'.length≤8∧∀o∈l',OptOk h a o:=by
    intro k
    induction k with
    | zero=>
     intro n m l hk hn hm hl ho;obtain⟨q,rfl⟩:=sn (n:=n) (by omega);have:¬m≤a.Due:=by omega
     exact⟨l,by simp only[Gb,this,decide_false,zC,if_false],hl,ho⟩
    | succ k ih=>
     intro n m l hk hn hm hl ho;obtain⟨q,rfl⟩:=sn (n:=n) (by omega);rw[Gb];by_cases hd:m≤a.Due
     ·simp only[hd,decide_true,if_true];by_cases h8:(l.length:V)<8
      ·simp only[h8,decide_true,if_true];obtain⟨o,ob,o1,o2⟩:=ta hc i1 hs hv w1 b2 m m1 hm hd;rw[o1,C];have wm:IntKind.i64.wrap (m+15)=m+15:=Ah (by omega) (by omega);cases ob with
       | false=>
        simp only[zC,if_false,Jn,wm];exact ih q (m+15) l (by omega) (by omega) (by omega) hl ho
       | true=>
        simp only[if_true,Jn,wm];rw[if_pos (AR (by omega) (by simp) (by omega))];refine ih q (m+15) _ (by omega) (by omega) (by omega) (by simp; omega) fun o' ho'=> ?_
        rcases zO.1 ho' with ho' | ho'
        ·exact ho o' ho'
        ·simp only[zG] at ho'; subst ho'; exact o2 rfl
      ·simp only[h8,decide_false,zC,if_false];exact⟨l,Z,hl,ho⟩
     ·simp only[hd,decide_false,zC,if_false];exact⟨l,Z,hl,ho⟩
   exact key 2881 bigN a.Ready [] (by omega) (by rw[DF]; omega) (by omega) (by simp) fun o ho=>by cases ho
section
variable {p : V} {m : O V} {l : O Xd}
theorem gL(hl:m.length≤maxLen):∃w n b,E3 p m l=G (w,n,b):=by
 by_cases hdo:(decide (l.length≤12)&&l.all BE)=F
 ·by_cases ht:CW p m=F
  ·have hdo':=hdo;simp only[zA,decide_eq_true_eq] at hdo'
   obtain⟨hN,hda⟩:=hdo';have hd:∀d∈l,BE d=F:=fun d h=>zK.1 hda d h
   obtain⟨ms,m1,m2,m3⟩:=VM hl ht hd hN;obtain⟨n,n1,n2,n3⟩:=We (TH p m l) hN (ms:=ms) ⟨m1,m2⟩
   have hmx:∀x∈ms,x<2 ^ 12:=fun x hx=>by
    obtain⟨i,hi,rfl⟩:=zH hx;refine K3 fun j hj=> ?_
    have:=m2 i j (by omega);rw[I hi] at this
    have this:ms[i].testBit j=F2 p m l i j:=this;rw[this,F2,zA,decide_eq_true_eq] at hj
    omega
   obtain⟨b,r,c1,c2,_⟩:=U7 ms.length bigN ms [] (n:V) [] (by simp) (by rw[DF]; omega) hmx (by omega) (fun g h=>by cases h) (by simp);refine⟨r.who,r.most,F,?_⟩;unfold E3 HP;have ht':=ht;simp only[CW,zA] at ht'
   rw[JU,hdo,C,if_pos rfl,Pj,ht'.1,C,if_pos rfl,P3 hl,ht'.2,C,C,if_pos rfl,m3,C,n3,C];have c1:Oi ⟨nn ms,(n:V),[],[]⟩=G (b,r):=c1;rw[c1,C]
  ·refine⟨[],0,E,?_⟩;unfold E3 HP;rw[JU,hdo,C,if_pos rfl,Pj,C,P3 hl];simp only[CW,zA,not_and,Bool.not_eq_true] at ht
   cases h1:D7 p with
   | false=>rfl
   | true=>simp only[if_true,C,ht h1]; rfl
 ·refine⟨[],0,E,?_⟩;unfold E3 HP;rw[JU,C,Bool.not_eq_true _ |>.mp hdo];rfl
theorem Qw(hl:m.length≤maxLen)(k:V):∃b,ED p m l k=G b:=by
 unfold ED;obtain⟨w,n,b,e⟩:=gL (p:=p) (m:=m) (l:=l) hl;split
 ·exact⟨_,Z⟩
 ·rw[e]; exact⟨_,rfl⟩
end
theorem xK{c:X4}{fl:O X8}(hn:∀x∈c.Points,x.Name.length≤maxLen)(hf:∀x∈fl,x.Name.length≤maxLen)(hc:AQ c=F)(hfl:FA fl=F){all:O X2}(hl:all.length≤maxLen) :
  ∃out ok,Gv c fl all=G (out,ok):=by
 have key:∀(k i n:X) (acc:O Xd),i+k=all.length→k<n→acc.length≤12→∃out ok,D2 fl all c n (i:V) acc=G (out,ok):=by
  intro k
  induction k with
  | zero=>
   intro i n acc hi hn2 ha;obtain⟨n,rfl⟩:=sn (n:=n) (by omega);exact⟨acc,F,by rw[D2,if_neg (by simp; omega)]⟩
  | succ k ih=>
   intro i n acc hi hn2 ha;obtain⟨n,rfl⟩:=sn (n:=n) (by omega);have hlt:i<all.length:=by omega
   simp only[D2,Ag,hlt,decide_true,if_true,Aa hlt,C,Ro hn hf hc hfl];cases hp:DA c fl all[i] with
   | false=>exact⟨[],E,rfl⟩
   | true=>
    obtain⟨f1,f2,f3,f4,f5⟩:=DB hc hp;obtain⟨s1,s2⟩:=FF f1;have hso:=(DK hfl).2 _ s2
    have hT:0≤(BK fl all[i].Ship).Tugs∧(BK fl all[i].Ship).Tugs≤4:=by
     simp only[Cs,zA,decide_eq_true_eq] at hso
     omega
    obtain⟨T,hTe⟩:∃T:X,(BK fl all[i].Ship).Tugs=(T:V):=⟨(BK fl all[i].Ship).Tugs.toNat,by omega⟩;simp only[if_true,C,s1];have g2:=YY (c:=c) (fl:=fl) (p:=all[i]) f2 all (i:V) (D2 fl all c n) hTe (by omega) T 0 bigN acc (by omega) (by rw[DF]; omega) (by omega);have g2:Fu fl all (i:V) (BK fl all[i].Ship) c all[i] (D2 fl all c n) bigN 0 acc=_:=g2;rw[g2];by_cases h12:(12:V)<((acc++zN T (Dj c all[i] all[i])).length:V)
    ·simp only[h12,decide_true,if_true];exact⟨[],E,Z⟩
    ·simp only[h12,decide_false,zC,if_false];rw[Ak hlt hl];exact ih (i+1) n _ (by omega) (by omega) (by omega)
 exact key all.length 0 bigN [] (by omega) (Aj hl) (by simp)
theorem gD{c:X4}{rg:Xm}{p q:X2}:∃r,LU c rg p q=G r:=by
 have c4:∀b,∃r,JB p q b=G r:=fun b=>by
  unfold JB;repeat' split
  all_goals exact⟨_,rfl⟩
 have near:∀x y z,∃b,LZ x y z=G b:=fun _ _ _=>⟨_,rfl⟩
 have over:∃b,Lk p q=G b:=⟨_,rfl⟩;obtain⟨o1,eo⟩:=over
 have c3:∀a b,∃r,Gl rg p q a b=G r:=fun a b=>by
  obtain⟨b1,e1⟩:=near p.Start q.Start rg.Gap;obtain⟨b2,e2⟩:=near p.End q.End rg.Gap;unfold Gl;simp only[e1,e2,C];repeat' split
  all_goals first | exact⟨_,rfl⟩ | exact c4 _
 have c1:(f:W)→idx p.Segment c.Segments.length=F∨f=F→∃r,Jz c rg p q f=G r:=fun f hf=>by
  cases f with
  | true=>exact⟨0,rfl⟩
  | false=>
   have hs:=hf.resolve_right (by simp)
   have c2:∀b,∃r,JA c rg p q b=G r:=fun b=>by
    unfold JA;simp only[eo,C,(Cn hs).1];repeat' split
    all_goals first | exact⟨_,rfl⟩ | exact c3 _ _
   unfold Jz;simp only[eo,C,zC,if_false];split
   ·exact c2 _
   ·exact c2 _
 unfold LU;split
 ·exact c1 _ (Or.inr Z)
 ·rw[CR,C];cases h:idx p.Segment c.Segments.length with
  | true=>exact c1 _ (Or.inl h)
  | false=>exact c1 _ (Or.inr rfl)
theorem TS{c:X4}{rg:Xm}{a b:O X2}(ha:a.length≤maxLen)(hb:b.length≤maxLen):∃r,Gj c rg a b=G r:=by
 have key:∀(k i n:X),i+k=a.length→k<n→∃r,Gk b a c rg n (i:V)=G r:=by
  intro k
  induction k with
  | zero=>
   intro i n hi hn;obtain⟨q,rfl⟩:=sn (n:=n) (by omega);have:i=a.length:=by omega
   subst this;exact⟨E,by simp[Gk]⟩
  | succ k ih=>
   intro i n hi hn;obtain⟨q,rfl⟩:=sn (n:=n) (by omega);have hlt:i<a.length:=by omega
   obtain⟨r0,e0⟩:=ih (i+1) q (by omega) (by omega);rw[← Ak hlt ha] at e0
   rw[Gk];simp only[Ag,hlt,decide_true,if_true,Aa hlt,C]
   have inner:∀(k j n:X),j+k=b.length→k<n→∃r,HO b a (i:V) c rg a[i] (Gk b a c rg q) n (j:V)=G r:=by
    intro k
    induction k with
    | zero=>
     intro j n hj hn;obtain⟨q',rfl⟩:=sn (n:=n) (by omega);have:j=b.length:=by omega
     subst this;exact⟨r0,by simp only[HO,Ag,yE,decide_false,zC,if_false]; exact e0⟩
    | succ k ihk=>
     intro j n hj hn;obtain⟨q',rfl⟩:=sn (n:=n) (by omega);have hjl:j<b.length:=by omega
     obtain⟨r,e⟩:=gD (c:=c) (rg:=rg) (p:=a[i]) (q:=b[j]);rw[HO];simp only[Ag,hjl,decide_true,if_true,Aa hjl,C,e,Ak hjl hb];split
     ·exact⟨F,Z⟩
     ·exact ihk (j+1) q' (by omega) (by omega)
   exact inner b.length 0 bigN (by omega) (Aj hb)
 exact key a.length 0 bigN (by omega) (Aj ha)
def El(h:X1)(o:X0):Prop:=o.Passages.length≤100∧∀p∈o.Passages,DA h.Chart h.Fleet p=F
theorem TW{l:O X0}(h:l.length≤1000):EC l=G l:=by
 unfold EC B2;rw[if_pos ⟨by omega,by omega,by omega,by omega⟩];simp only[C,Int.toNat_zero,kP,List.nil_append];rw[if_pos (by simp only[A4,kO,decide_eq_true_eq]; omega)]
theorem gN{h:X1}(s:HSmall h)(hh:Ap h=F){l:O X0}(hl:l.length≤1000)(ho:∀o∈l,El h o):∃b,EE h l=G b:=by
 have hh':=hh;simp only[Ap,zA] at hh'
 obtain⟨hf,hc,hfl,hreg,hcrew⟩:=hh'
 have key:∀(k i n:X) (all:O X2) (pil:O Xd),i+k=l.length→k<n→all.length≤100*i→pil.length≤i→∃b,E7 l h n (i:V) all pil=G b:=by
  intro k
  induction k with
  | zero=>
   intro i n all pil hi hn ha hp;obtain⟨q,rfl⟩:=sn (n:=n) (by omega);have:i=l.length:=by omega
   subst this;obtain⟨out,ok,e⟩:=xK s.pn s.fn hc hfl (all:=all) (A5 (by omega));obtain⟨b1,e1⟩:=Qw (p:=0) (m:=h.Crew.Moves) (l:=out) s.mv h.Crew.Tugs;obtain⟨b2,e2⟩:=Qw (p:=h.Crew.Rest) (m:=h.Crew.Moves) (l:=pil) s.mv h.Crew.Pilots;rw[E7];simp only[Ag,yE,decide_false,zC,if_false,e,e1,e2,C];split
   ·split
    ·exact⟨_,Z⟩
    ·exact⟨_,Z⟩
   ·exact⟨_,Z⟩
  | succ k ih=>
   intro i n all pil hi hn ha hp;obtain⟨q,rfl⟩:=sn (n:=n) (by omega);have hlt:i<l.length:=by omega
   obtain⟨g1,g2⟩:=ho _ (zB hlt);rw[E7];simp only[Ag,hlt,decide_true,if_true,Aa hlt,C,Ak hlt (A5 (by omega))];rw[if_pos (AR (by omega) (by omega) (by omega))];by_cases h0:(0:V)<(l[i].Passages.length:V)
   ·have hz:0<l[i].Passages.length:=by omega
    have ep:IntKind.i64.wrap ((l[i].Passages.length:V) - 1)=((l[i].Passages.length - 1:X):V):=by rw[Ah (by omega) (by omega)]; omega
    have e0:ix l[i].Passages 0=G l[i].Passages[0]:=Aa hz;have e9:ix l[i].Passages ((l[i].Passages.length - 1:X):V)=G l[i].Passages[l[i].Passages.length - 1]:=Aa (by omega);have s1:=(DB hc (g2 _ (zB hz))).2.1;have s2:=(DB hc (g2 _ (zB (show l[i].Passages.length - 1<l[i].Passages.length by omega)))).2.1;simp only[h0,decide_true,if_true,e0,ep,e9,C,P1 s1 s2];rw[if_pos (AR (by omega) (by simp) (by omega))];exact ih (i+1) q _ _ (by omega) (by omega) (by simp; omega) (by simp; omega)
   ·simp only[h0,decide_false,zC,if_false];exact ih (i+1) q _ _ (by omega) (by omega) (by simp; omega) (by omega)
 exact key l.length 0 bigN [] [] (by omega) (Aj (A5 (by omega))) (by simp) (by simp)
theorem lW{h:X1}(s:HSmall h)(hh:Ap h=F){l:O X0}{o:X0}(hl:l.length≤100)(ho:∀o∈l,El h o)(h0:El h o):∃b,Fq h l o=G b:=by
 have key:∀(k i n:X),i+k=l.length→k<n→∃b,EF l h o n (i:V)=G b:=by
  intro k
  induction k with
  | zero=>
   intro i n hi hn;obtain⟨q,rfl⟩:=sn (n:=n) (by omega);have:i=l.length:=by omega
   subst this
   obtain⟨b,e⟩:=gN s hh (l:=l++ [o]) (by simp; omega) fun x hx=>by
    rcases zO.1 hx with hx|hx
    ·exact ho x hx
    ·simp only[zG] at hx; exact hx▸h0
   rw[EF];simp only[Ag,yE,decide_false,zC,if_false,TW (show l.length≤1000 by omega),C];rw[if_pos (AR (by omega) (by simp) (by omega)),e];exact⟨b,Z⟩
  | succ k ih=>
   intro i n hi hn;obtain⟨q,rfl⟩:=sn (n:=n) (by omega);have hlt:i<l.length:=by omega
   obtain⟨r,e⟩:=TS (c:=h.Chart) (rg:=h.Regime) (a:=l[i].Passages) (b:=o.Passages) (A5 (by have:=(ho _ (zB hlt)).1; omega)) (A5 (by have:=h0.1; omega));rw[EF];simp only[Ag,hlt,decide_true,if_true,Aa hlt,C,e,Ak hlt (A5 (by omega))];split
   ·exact⟨_,Z⟩
   ·exact ih (i+1) q (by omega) (by omega)
 exact key l.length 0 bigN (by omega) (Aj (A5 (by omega)))
def Chosen(cs:O (O X0))(pl:O X0)(ch:O V):Prop:=
 pl.length=ch.length∧pl.length≤cs.length∧∀i (h1:i<ch.length) (h2:i<pl.length) (h3:i<cs.length),0≤ch[i]∧(ch[i]<(cs[i].length:V))∧cs[i][ch[i].toNat]?=G pl[i]
theorem Chosen.take{cs:O (O X0)}{pl:O X0}{ch:O V}(H:Chosen cs pl ch)(k:X):Chosen cs (pl.take k) (ch.take k):=by
 obtain⟨c1,c2,c3⟩:=H;refine⟨by simp; omega,by simp; omega,fun i h1 h2 h3=> ?_⟩;simp only[List.length_take] at h1 h2
 rw[List.getElem_take,List.getElem_take];exact c3 i (by omega) (by omega) h3
theorem Chosen.snoc{cs:O (O X0)}{pl:O X0}{ch:O V}(H:Chosen cs pl ch){i:X}(hlt:pl.length<cs.length)(hil:i<cs[pl.length].length):Chosen cs (pl++ [cs[pl.length][i]]) (ch++ [(i:V)]):=by
 obtain⟨c1,c2,c3⟩:=H;refine⟨by simp; omega,by simp; omega,fun j h1 h2 h3=> ?_⟩;simp only[zL,zR] at h1 h2
 by_cases hj:j<pl.length
 ·rw[zY (show j<ch.length by omega),zY hj];exact c3 j (by omega) hj h3
 ·have:j=pl.length:=by omega
  subst this;rw[yZ (by omega),yZ (by omega)];simp only[show pl.length - ch.length=0 by omega,Nat.sub_self,List.getElem_singleton,zM];exact⟨by omega,by omega,by rw[I hil]⟩
def FU(a b:Xi):Prop:=a.i0<b.i0∨(a.i0=b.i0∧a.i1<b.i1)
def CJ(a b:Xi):Prop:=¬FU b a
theorem Nf(a:Xi):CJ a a:=by unfold CJ FU; omega
theorem PO{a b c:Xi}(h1:CJ a b)(h2:CJ b c):CJ a c:=by unfold CJ FU at *; omega
theorem A07{a b:Xi}(h:FU a b):CJ a b:=by unfold CJ FU at *; omega
theorem Wk(a b:Xi):∃r,M6 a b=G r∧(r=F↔FU a b):=by
 unfold M6 FU;split
 ·rename_i h
  simp only[decide_eq_true_eq] at h;exact⟨F,Z,by simp[h]⟩
 ·rename_i h
  simp only[decide_eq_true_eq] at h;split
  ·rename_i h2
   simp only[beq_iff_eq] at h2
   exact⟨_,Z,by simp[h2]⟩
  ·rename_i h2
   simp only[beq_iff_eq] at h2
   exact⟨E,Z,by simp[h,h2]⟩
def Fit(h:X1)(pl:O X0):Prop:=∀i (hi:i<pl.length),Fq h (pl.take i) pl[i]=G F
theorem Fit.snoc{h:X1}{pl:O X0}{o:X0}(H:Fit h pl)(ho:Fq h pl o=G F):Fit h (pl++ [o]):=fun i hi=>by
 simp only[zL,zR] at hi
 by_cases hj:i<pl.length
 ·rw[zY hj,List.take_append_of_le_length (by omega)];exact H i hj
 ·have:i=pl.length:=by omega
  subst this;rw[yZ (by omega)];simpa using ho
structure SearchOk (h:X1) (cs:O (O X0)) (wv:O X0→Xi) (x:Xe):Prop where
 hh:x.h=h
 hc:x.choices=cs
 cho:Chosen cs x.plan x.choice
 fit:Fit h x.plan
 best:x.found=F→∃pl,Chosen cs pl x.best∧pl.length=cs.length∧Fit h pl∧x.least=wv pl
 emp:x.found=E→x.best= []
structure Low (h:X1) (cs:O (O X0)) (wv:O X0→Xi) (P:O X0→Prop) (x y:Xe):Prop where
 mono:x.found=F→y.found=F∧CJ y.least x.least
 all:∀pl ch,Chosen cs pl ch→pl.length=cs.length→Fit h pl→P pl→y.found=F∧CJ y.least (wv pl)
theorem Low.trans{h:X1}{cs:O (O X0)}{wv:O X0→Xi}{P Q R:O X0→Prop}{x y z:Xe}(H1:Low h cs wv P x y)(H2:Low h cs wv Q y z)(hr:∀pl,R pl→P pl∨Q pl):Low h cs wv R x z:=
 ⟨fun hf=>by
  obtain⟨a,b⟩:=H1.mono hf;obtain⟨c,d⟩:=H2.mono a;exact⟨c,PO d b⟩,fun pl ch h1 h2 h3 h4=>by
  rcases hr pl h4 with h5|h5
  ·obtain⟨a,b⟩:=H1.all pl ch h1 h2 h3 h5;obtain⟨c,d⟩:=H2.mono a;exact⟨c,PO d b⟩
  ·exact H2.all pl ch h1 h2 h3 h5⟩
theorem sx{cs:O (O X0)}{wv:O X0→Xi}(hm:∀pl ch o c,Chosen cs pl ch→Chosen cs (pl++ [o]) (ch++ [c])→CJ (wv pl) (wv (pl++ [o]))){pl:O X0}{ch:O V}(H:Chosen cs pl ch) :
  ∀(d k:X),k+d=pl.length→CJ (wv (pl.take k)) (wv pl):=by
 intro d
 induction d with
 | zero=>
  intro k hk;rw[yA (by omega)];exact Nf _
 | succ d ih=>
  intro k hk;refine PO ?_ (ih (k+1) (by omega));have h1:k<pl.length:=by omega
  have h2:k<ch.length:=by have:=H.1; omega
  have hc:=H.take (k+1);rw[zD h1,zD h2] at hc
  rw[zD h1];exact hm _ _ _ _ (H.take k) hc
theorem vb{h:X1}(s:HSmall h)(hok:Ap h=F){cs:O (O X0)}(hcs:cs.length≤50)(hl8:∀l∈cs,l.length≤8)(hgo:∀l∈cs,∀o∈l,El h o){w:O X0→U Xi}{wv:O X0→Xi}
  (hw:∀pl ch,Chosen cs pl ch→w pl=G (wv pl)) (hm:∀pl ch o c,Chosen cs pl ch→Chosen cs (pl++ [o]) (ch++ [c])→CJ (wv pl) (wv (pl++ [o]))) :
  ∀(d n:X) (x:Xe),x.plan.length+d=cs.length→d<n→SearchOk h cs wv x→
   ∃r,E9 w n x=G r∧SearchOk h cs wv r∧r.plan=x.plan∧r.choice=x.choice∧Low h cs wv (fun pl=>pl.take x.plan.length=x.plan) x r:=by
 intro d
 induction d with
 | zero=>
  intro n x hd hn hx;obtain⟨q,rfl⟩:=sn (n:=n) (by omega);rw[E9,M2,hw _ _ hx.cho,C]
  have same:∀pl:O X0,pl.length=cs.length→pl.take x.plan.length=x.plan→pl=x.plan:=fun pl h1 h2=>by
   rw[← h2,yA (by omega)]
  have leaf:∀b,(x.found=F→FU (wv x.plan) x.least)→∃r,Gs w (E9 w q) x (wv x.plan) b=G r∧SearchOk h cs wv r∧r.plan=x.plan∧r.choice=x.choice∧Low h cs wv (fun pl=>pl.take x.plan.length=x.plan) x r:=fun b hb=>by
   unfold Gs;rw[if_pos (by rw[hx.hc]; simp; omega),IX (by have:=hx.cho.1; omega),C];exact⟨_,Z,⟨hx.hh,hx.hc,hx.cho,hx.fit,fun _=>⟨x.plan,hx.cho,by omega,hx.fit,Z⟩,fun h=>by cases h⟩,Z,Z,fun hf=>⟨Z,A07 (hb hf)⟩,fun pl ch h1 h2 h3 h4=>⟨Z,by rw[same pl h2 h4]; exact Nf _⟩⟩
  split
  ·rename_i hf
   obtain⟨b,eb,hb⟩:=Wk (wv x.plan) x.least;rw[eb,C];split
   ·rename_i hbt
    exact leaf _ fun _=>hb.1 hbt
   ·rename_i hbf
    exact⟨_,Z,⟨hx.hh,hx.hc,hx.cho,hx.fit,fun _=>hx.best hf,fun h=>by cases h⟩,Z,Z,fun _=>⟨Z,Nf _⟩,fun pl ch h1 h2 h3 h4=>⟨Z,by rw[same pl h2 h4]; exact fun h=>hbf (hb.2 h)⟩⟩
  ·rename_i hf
   exact leaf _ fun h=>absurd h hf
 | succ d ih=>
  intro n x hd hn hx;obtain⟨q,rfl⟩:=sn (n:=n) (by omega);have hlt:x.plan.length<cs.length:=by omega
  rw[E9,M2,hw _ _ hx.cho,C]
  have part:∀(pl:O X0),pl.length=cs.length→pl.take x.plan.length=x.plan→∀(hp:x.plan.length<pl.length),pl.take (x.plan.length+1)=x.plan++ [pl[x.plan.length]]:=fun pl h1 h2 hp=>by
   rw[zD hp,h2]
  have key:∀(k i m:X) (y:Xe),i+k=cs[x.plan.length].length→k<m→SearchOk h cs wv y→y.plan=x.plan→y.choice=x.choice→
    ∃r,Gt w (E9 w q) x cs[x.plan.length] m (i:V) y.h y.choices y.least.i0 y.least.i1 y.found y.plan y.choice y.best=G r∧
     SearchOk h cs wv r∧r.plan=x.plan∧r.choice=x.choice∧Low h cs wv (fun pl=>∃(j:X) (hj:j<cs[x.plan.length].length),i≤j∧pl.take (x.plan.length+1)=x.plan++ [cs[x.plan.length][j]]) y r:=by
   intro k
   induction k with
   | zero=>
    intro i m y hi hm' hy hp hc;obtain⟨m,rfl⟩:=sn (n:=m) (by omega);have:i=cs[x.plan.length].length:=by omega
    subst this;rw[Gt];simp only[Ag,yE,decide_false,zC,if_false]
    exact⟨y,Z,hy,hp,hc,fun hf=>⟨hf,Nf _⟩,fun pl ch h1 h2 h3 h4=>by
     obtain⟨j,h5,h6,_⟩:=h4;omega⟩
   | succ k ihk=>
    intro i m y hi hm' hy hp hc;obtain⟨m,rfl⟩:=sn (n:=m) (by omega);have hil:i<cs[x.plan.length].length:=by omega
    have hmem:=zB hlt;have h8:=hl8 _ hmem
    have hgood:∀o∈x.plan,El h o:=fun o ho=>by
     obtain⟨j,hj,rfl⟩:=zH ho;obtain⟨c1,c2,c3⟩:=hx.cho;obtain⟨_,_,c6⟩:=c3 j (by omega) hj (by omega);exact hgo _ (zB (show j<cs.length by omega)) _ (List.mem_of_getElem? c6)
    obtain⟨b,eb⟩:=lW s hok (l:=x.plan) (o:=cs[x.plan.length][i]) (by omega) hgood (hgo _ hmem _ (zB hil));rw[Gt];simp only[Ag,hil,decide_true,if_true,Aa hil,C,Ak hil (A5 (by omega))];rw[hy.hh,hp,eb,C];cases b with
    | false=>
     simp only[zC,if_false];obtain⟨r,g1,g2,g3,g4,g5⟩:=ihk (i+1) m y (by omega) (by omega) hy hp hc;rw[hp,hy.hh] at g1
     refine⟨r,g1,g2,g3,g4,g5.mono,fun pl ch h1 h2 h3 h4=> ?_⟩;obtain⟨j,h5,h6,h7⟩:=h4;by_cases hji:j=i
     ·subst hji;have hpl:x.plan.length<pl.length:=by omega
      have hf:=h3 _ hpl;rw[zD hpl] at h7
      obtain⟨e1,e2⟩:=List.append_inj h7 (by simp; omega);simp only[List.cons.injEq,and_true] at e2
      rw[e1,e2,eb] at hf
      cases hf
     ·exact g5.all pl ch h1 h2 h3 ⟨j,h5,by omega,h7⟩
    | true=>
     simp only[if_true];have hcl:x.choice.length≤1000:=by have:=hx.cho.1; omega
     rw[if_pos (AR (by omega) (by simp) (by omega)),hc,if_pos (AR (by omega) (by simp) (by omega))];have hcho:Chosen cs (x.plan++ [cs[x.plan.length][i]]) (x.choice++ [(i:V)]):=hx.cho.snoc hlt hil;obtain⟨r,g1,g2,g3,g4,g5⟩:=ih q ⟨h,y.choices,x.plan++ [cs[x.plan.length][i]],x.choice++ [(i:V)],y.best,⟨y.least.i0,y.least.i1⟩,y.found⟩ (by simp; omega) (by omega) ⟨rfl,hy.hc,hcho,hx.fit.snoc eb,hy.best,hy.emp⟩;rw[g1,C];have b1:bnd (r.plan.length:V) (x.plan.length:V) 0 r.plan.length=G (0,x.plan.length):=Ep (by rw[g3]; simp);have b2:bnd (r.choice.length:V) (x.plan.length:V) 0 r.choice.length=G (0,x.plan.length):=Ep (by rw[g4]; simp; have:=hx.cho.1; omega);have t1:r.plan.take x.plan.length=x.plan:=by rw[g3]; simp
     have t2:r.choice.take x.plan.length=x.choice:=by
      have hle:x.plan.length=x.choice.length:=hx.cho.1;rw[g4];show(x.choice++ [(i:V)]).take x.plan.length=x.choice
      generalize x.plan.length=z at hle
      subst hle;simp
     rw[b1,C,b2,C];simp only[t1,t2];obtain⟨r',k1,k2,k3,k4,k5⟩:=ihk (i+1) m ⟨r.h,r.choices,x.plan,x.choice,r.best,r.least,r.found⟩ (by omega) (by omega) ⟨g2.hh,g2.hc,hx.cho,hx.fit,g2.best,g2.emp⟩ rfl rfl;refine⟨r',k1,k2,k3,k4,Low.trans (y:=⟨r.h,r.choices,x.plan,x.choice,r.best,r.least,r.found⟩) ⟨g5.mono,g5.all⟩ k5 fun pl hpl=> ?_⟩;obtain⟨j,h5,h6,h7⟩:=hpl;by_cases hji:j=i
     ·subst hji;left
      simpa using h7
     ·exact Or.inr ⟨j,h5,by omega,h7⟩
  have body:∀b,(b=x.found)→∃r,Gs w (E9 w q) x (wv x.plan) b=G r∧SearchOk h cs wv r∧r.plan=x.plan∧r.choice=x.choice∧Low h cs wv (fun pl=>pl.take x.plan.length=x.plan) x r:=fun b hb=>by
   unfold Gs;rw[if_neg (by rw[hx.hc]; simp; omega),hx.hc,Aa hlt,C];obtain⟨r,k1,k2,k3,k4,k5⟩:=key cs[x.plan.length].length 0 bigN ⟨x.h,cs,x.plan,x.choice,x.best,x.least,b⟩ (by omega) (Aj (A5 (by have:=hl8 _ (zB hlt); omega))) ⟨hx.hh,rfl,hx.cho,hx.fit,fun hf=>hx.best (by rw[← hb]; exact hf),fun hf=>hx.emp (by rw[← hb]; exact hf)⟩ rfl rfl;refine⟨r,k1,k2,k3,k4,fun hf=>k5.mono (by rw[hb]; exact hf),fun pl ch h1 h2 h3 h4=>k5.all pl ch h1 h2 h3 ?_⟩;have hpl:x.plan.length<pl.length:=by omega
   obtain⟨c1,c2,c3⟩:=h1;obtain⟨d1,d2,d3⟩:=c3 x.plan.length (by omega) hpl hlt;have hj:ch[x.plan.length].toNat<cs[x.plan.length].length:=by omega
   refine⟨ch[x.plan.length].toNat,hj,by omega,?_⟩;rw[part pl h2 h4 hpl];rw[I hj] at d3
   simp only[zE] at d3
   rw[d3]
  split
  ·rename_i hf
   obtain⟨b,eb,hb⟩:=Wk (wv x.plan) x.least;rw[eb,C];split
   ·exact body F hf.symm
   ·rename_i hbf
    refine⟨_,Z,⟨hx.hh,hx.hc,hx.cho,hx.fit,fun _=>hx.best hf,fun h=>by cases h⟩,Z,Z,fun _=>⟨Z,Nf _⟩,fun pl ch h1 h2 h3 h4=>⟨Z,?_⟩⟩;have g:=sx hm h1 (pl.length - x.plan.length) x.plan.length (by omega);rw[h4] at g
    exact PO (fun h=>hbf (hb.2 h)) g
  ·rename_i hf
   exact body E (by cases hx':x.found with
    | false=>rfl
    | true=>exact absurd hx' hf)
structure CallsGood (h:X1) (cs:O X3):Prop where
 ok:∀a∈cs,Ck h a=F
 ne:∀i j (hi:i<cs.length) (hj:j<cs.length),i<j→cs[i].Ship≠cs[j].Ship
 six:cs.length≤6
theorem F6{h:X1}(s:HSmall h)(hh:Ap h=F){cs:O X3}(hc:CallsGood h cs):BR h cs=G F:=by
 have h6:=hc.six;unfold BR;rw[Mr s,hh,C,if_pos rfl,if_neg (by simp; omega)]
 have key:∀(k i n:X),i+k=cs.length→k<n→DH cs h n (i:V)=G F:=by
  intro k
  induction k with
  | zero=>
   intro i n hi hn;obtain⟨q,rfl⟩:=sn (n:=n) (by omega);have:i=cs.length:=by omega
   subst this;simp[DH]
  | succ k ih=>
   intro i n hi hn;obtain⟨q,rfl⟩:=sn (n:=n) (by omega);have hlt:i<cs.length:=by omega
   have e0:=ih (i+1) q (by omega) (by omega);rw[← Ak hlt (A5 (by omega))] at e0
   rw[DH];simp only[Ag,hlt,decide_true,if_true,Aa hlt,C,Rp,hc.ok _ (zB hlt),Ep (Nat.le_of_lt hlt),kR,kY];have hlen:(cs.take i).length=i:=by simp; omega
   have inner:∀(k j n:X),j+k=i→k<n→Eu cs (i:V) h cs[i] (cs.take i) ((cs.take i).length:V) (DH cs h q) n (j:V)=G F:=by
    intro k
    induction k with
    | zero=>
     intro j n hj hn;obtain⟨q',rfl⟩:=sn (n:=n) (by omega);have:j=i:=by omega
     subst this;rw[Eu];simp only[hlen,Ag,yE,decide_false,zC,if_false];exact e0
    | succ k ihk=>
     intro j n hj hn;obtain⟨q',rfl⟩:=sn (n:=n) (by omega);have hji:j<i:=by omega
     have hjl:j<(cs.take i).length:=by omega
     have hne:=hc.ne j i (by omega) hlt hji;have hg:(cs.take i)[j]=cs[j]:=by simp
     rw[Eu];simp only[Ag,hjl,decide_true,if_true,Aa hjl,C,hg];rw[if_neg (by simpa using hne),Ak hji (A5 (by omega))];exact ihk (j+1) q' (by omega) (by omega)
   exact inner i 0 bigN (by omega) (Aj (A5 (by omega)))
 exact key cs.length 0 bigN (by omega) (Aj (A5 (by omega)))
structure OptsOf (h:X1) (cs:O X3) (os:O (O X0)):Prop where
 len:os.length=cs.length
 l8:∀l∈os,l.length≤8
 ok:∀i (h1:i<cs.length) (h2:i<os.length),∀o∈os[i],OptOk h cs[i] o
theorem OptsOf.good{h:X1}{cs:O X3}{os:O (O X0)}(H:OptsOf h cs os):∀l∈os,∀o∈l,El h o:=fun l hl o ho=>by
 obtain⟨i,hi,rfl⟩:=zH hl;have:=H.ok i (by have:=H.len; omega) hi o ho;exact⟨this.len,fun p hp=>(this.pass p hp).2.1⟩
theorem IQ{h:X1}(s:HSmall h)(hh:Ap h=F){cs:O X3}(hc:CallsGood h cs):∃os,Jw h cs=G os∧OptsOf h cs os∧∀i (h1:i<cs.length) (h2:i<os.length),Dl h cs[i]=G os[i]:=by
 have h6:=hc.six;unfold Jw
 have key:∀(k i n:X) (acc:O (O X0)),i+k=cs.length→k<n→acc.length=i→(∀l∈acc,l.length≤8)→(∀j (h1:j<cs.length) (h2:j<acc.length),Dl h cs[j]=G acc[j])→
   (∀j (h1:j<cs.length) (h2:j<acc.length),∀o∈acc[j],OptOk h cs[j] o)→∃os,HN cs h n (i:V) acc=G os∧OptsOf h cs os∧∀i (h1:i<cs.length) (h2:i<os.length),Dl h cs[i]=G os[i]:=by
  intro k
  induction k with
  | zero=>
   intro i n acc hi hn ha h8 he ho;obtain⟨q,rfl⟩:=sn (n:=n) (by omega);have:i=cs.length:=by omega
   subst this;exact⟨acc,by simp[HN],⟨ha,h8,ho⟩,he⟩
  | succ k ih=>
   intro i n acc hi hn ha h8 he ho;obtain⟨q,rfl⟩:=sn (n:=n) (by omega);have hlt:i<cs.length:=by omega
   obtain⟨l,e1,e2,e3⟩:=Pq s hh (hc.ok _ (zB hlt));rw[HN];simp only[Ag,hlt,decide_true,if_true,Aa hlt,C,e1];rw[if_pos (AR (by omega) (by simp) (by omega)),Ak hlt (A5 (by omega))];refine ih (i+1) q _ (by omega) (by omega) (by simp; omega) (fun x hx=> ?_) (fun j h1 h2=> ?_) fun j h1 h2=> ?_
   ·rcases zO.1 hx with hx|hx
    ·exact h8 x hx
    ·simp only[zG] at hx; exact hx▸e2
   ·by_cases hj:j<acc.length
    ·rw[zY hj]; exact he j h1 hj
    ·have:j=acc.length:=by simp at h2; omega
     subst this;subst ha;simpa using e1
   ·by_cases hj:j<acc.length
    ·rw[zY hj]; exact ho j h1 hj
    ·have:j=acc.length:=by simp at h2; omega
     subst this;subst ha;simpa using e3
 exact key cs.length 0 bigN [] (by omega) (Aj (A5 (by omega))) Z (fun l hl=>by cases hl) (fun j _ h=>by simp at h) fun j _ h=>by simp at h
def DW(l:O X0):V:=(l.map X0.Cost).sum
def PT(l:O X0):Prop:=∀o∈l,0≤o.Cost∧o.Cost≤2880
theorem YD{l:O X0}(h:PT l):0≤DW l∧DW l≤2880*(l.length:V):=by
 induction l with
 | nil=>simp[DW]
 | cons x l ih=>
  have:=h x (by simp);have:=ih fun o ho=>h o (by simp[ho])
  simp only[DW,kE,kU,zS] at *
  omega
theorem YE(l:O X0)(o:X0):DW (l++ [o])=DW l+o.Cost:=by simp[DW]
theorem gG{l:O X0}(hl:l.length≤1000)(h:PT l):O0 l=G (DW l):=by
 have key:∀(k i n:X),i+k=l.length→k<n→Hj l n (DW (l.take i)) (i:V)=G (DW l):=by
  intro k
  induction k with
  | zero=>
   intro i n hi hn;obtain⟨q,rfl⟩:=sn (n:=n) (by omega);have:i=l.length:=by omega
   subst this;rw[zP];simp[Hj]
  | succ k ih=>
   intro i n hi hn;obtain⟨q,rfl⟩:=sn (n:=n) (by omega);have hlt:i<l.length:=by omega
   have b1:=YD (l:=l.take i) fun o ho=>h o (yS ho)
   have b2:=h _ (zB hlt);have b3:((l.take i).length:V)≤1000:=by simp only[List.length_take]; omega
   have e:=ih (i+1) q (by omega) (by omega);rw[zD hlt,YE] at e
   rw[Hj];simp only[Ag,hlt,decide_true,if_true,Aa hlt,C,Ak hlt (A5 (by omega))];rw[Ah (by omega) (by omega)];exact e
 exact key l.length 0 bigN (by omega) (Aj (A5 (by omega)))
theorem KK{h:X1}{cs:O X3}{os:O (O X0)}(ho:OptsOf h cs os){pl:O X0}{ch:O V}(hch:Chosen os pl ch):∀i (hi:i<pl.length),∃hc:i<cs.length,OptOk h cs[i] pl[i]:=fun i hi=>by
 obtain⟨c1,c2,c3⟩:=hch;have hlen:=ho.len;obtain⟨_,_,d3⟩:=c3 i (by omega) hi (by omega);exact⟨by omega,ho.ok i (by omega) (by omega) _ (List.mem_of_getElem? d3)⟩
theorem Qn{h:X1}{cs:O X3}{os:O (O X0)}(ho:OptsOf h cs os){pl:O X0}{ch:O V}(hch:Chosen os pl ch):PT pl:=fun o hm=>by
 obtain⟨i,hi,rfl⟩:=zH hm;obtain⟨_,g⟩:=KK ho hch i hi;exact g.cost
structure Best (h:X1) (os:O (O X0)) (wv:O X0→Xi) (ch:O V) (lw:Xi) (f:W):Prop where
 plan:f=F→∃pl,Chosen os pl ch∧pl.length=os.length∧Fit h pl∧lw=wv pl
 least:∀pl c,Chosen os pl c→pl.length=os.length→Fit h pl→f=F∧CJ lw (wv pl)
 emp:f=E→ch= []
theorem rh{h:X1}(s:HSmall h)(hh:Ap h=F){cs:O X3}(hc:CallsGood h cs){os:O (O X0)}(ho:OptsOf h cs os){w:O X0→U Xi}{wv:O X0→Xi}
  (hw:∀pl ch,Chosen os pl ch→w pl=G (wv pl)) (hm:∀pl ch o c,Chosen os pl ch→Chosen os (pl++ [o]) (ch++ [c])→CJ (wv pl) (wv (pl++ [o]))):∃ch lw f,LY h os w=G (ch,lw,f)∧Best h os wv ch lw f:=by
 have h6:=hc.six;have hlen:=ho.len;obtain⟨r,e,g,_,_,lo⟩:=vb s hh (cs:=os) (by omega) ho.l8 ho.good hw hm os.length bigN ⟨h,os,[],[],[],⟨0,0⟩,E⟩ (by simp) (by rw[DF]; omega) ⟨rfl,rfl,⟨rfl,by simp,fun i h1=>by simp at h1⟩,fun i hi=>by simp at hi,fun h=>(by cases h),fun _=>rfl⟩;have e:QP w ⟨h,os,[],[],[],⟨0,0⟩,E⟩=G r:=e;exact⟨r.best,r.least,r.found,by simp only[LY,e,C],fun hf=>g.best hf,fun pl c h1 h2 h3=>lo.all pl c h1 h2 h3 Z,g.emp⟩
def Qv(pl:O X0):Xi:=⟨DW pl,0⟩
theorem IT{h:X1}(s:HSmall h)(hh:Ap h=F){cs:O X3}(hc:CallsGood h cs){os:O (O X0)}(e1:Jw h cs=G os)(ho:OptsOf h cs os):∃ch lw f,G1 h cs=G (ch,lw.i0,f)∧Best h os Qv ch lw f:=by
 have h6:=hc.six;have hlen:=ho.len
 obtain⟨ch,lw,f,e2,e3⟩:=rh s hh hc ho (w:=fun z0=>LK z0) (wv:=Qv) (fun pl ch hch=>by
  have:=hch.2.1;simp only[LK,gG (l:=pl) (by omega) (Qn ho hch),C]; rfl) fun pl ch o c h1 h2=>by
  have:=Qn ho h2 o (by simp);simp only[CJ,FU,Qv,YE];omega
 exact⟨ch,lw,f,by simp only[G1,F6 s hh hc,C,if_true,e1,e2],e3⟩
theorem uO{h:X1}(s:HSmall h)(hh:Ap h=F){cs:O X3}(hc:CallsGood h cs){os:O (O X0)}(ho:OptsOf h cs os)(heq:∀i (h1:i<cs.length) (h2:i<os.length),Dl h cs[i]=G os[i]){pl:O X0}{ch:O V}(hch:Chosen os pl ch)(hl:pl.length=os.length) :
  Lr h cs ch=G (pl,F):=by
 have h6:=hc.six;have hlen:=ho.len;obtain⟨c1,c2,c3⟩:=hch;unfold Lr;rw[F6 s hh hc,C,if_pos rfl,show((ch.length:V) !=(cs.length:V))=E by simp; omega];unfold Ls;rw[if_neg (by simp)]
 have key:∀(k i n:X) (acc:O X0),i+k=cs.length→k<n→acc=pl.take i→HD ch cs h n (i:V) acc=G (pl,F):=by
  intro k
  induction k with
  | zero=>
   intro i n acc hi hn ha;obtain⟨q,rfl⟩:=sn (n:=n) (by omega);have:i=cs.length:=by omega
   subst this;rw[yA (by omega)] at ha
   subst ha;simp[HD]
  | succ k ih=>
   intro i n acc hi hn ha;obtain⟨q,rfl⟩:=sn (n:=n) (by omega);have hlt:i<cs.length:=by omega
   have ho2:i<os.length:=by omega
   have hp2:i<pl.length:=by omega
   have hc2:i<ch.length:=by omega
   obtain⟨d1,d2,d3⟩:=c3 i hc2 hp2 ho2;have hix:ix os[i] ch[i]=G pl[i]:=by unfold ix; rw[if_pos d1]; exact d3
   rw[HD];simp only[Ag,hlt,decide_true,if_true,Aa hlt,C,heq i hlt ho2,Aa hc2,CR,Ds.2 ⟨d1,d2⟩,hix];rw[if_pos (AR (by rw[ha]; simp; omega) (by simp) (by omega)),Ak hlt (A5 (by omega))];refine ih (i+1) q _ (by omega) (by omega) ?_;rw[ha,zD hp2]
 exact key cs.length 0 bigN [] (by omega) (Aj (A5 (by omega))) (by simp)
theorem ku{l:O X2}(hl:l.length≤maxLen):Ma l l=G F:=by
 unfold Ma;rw[if_neg (by simp)]
 have key:∀(k i n:X),i+k=l.length→k<n→I0 l l n (i:V)=G F:=by
  intro k
  induction k with
  | zero=>
   intro i n hi hn;obtain⟨q,rfl⟩:=sn (n:=n) (by omega);have:i=l.length:=by omega
   subst this;simp[I0]
  | succ k ih=>
   intro i n hi hn;obtain⟨q,rfl⟩:=sn (n:=n) (by omega);have hlt:i<l.length:=by omega
   rw[I0];simp only[Ag,hlt,decide_true,if_true,Aa hlt,C,Ak hlt (by omega),beq_self_eq_true,Bool.and_self];exact ih (i+1) q (by omega) (by omega)
 exact key l.length 0 bigN (by omega) (Aj hl)
theorem qv{h:X1}(s:HSmall h)(hh:Ap h=F){a:X3}{o:X0}(ha:Ck h a=F)(ho:OptOk h a o):Lc h a o=G F:=by
 have h100:=ho.len;obtain⟨v,v1,v2⟩:=ho.again
 have Az:Li h a (o.Passages.map X2.Segment) o.Start=G (o,F):=by
  have hw:(decide (a.Ready≤o.Start)&&decide (o.Start≤a.Due))=F:=by simp[ho.start.1,ho.start.2]
  unfold Li;rw[VI s,hh,ha,C,Cu,hw];simp only[Bool.and_self,if_true,C,Lj,Bool.not_true,zC,if_false,v1,v2,C,if_true]
 unfold Lc
 have key:∀(k i n:X),i+k=o.Passages.length→k<n→Hu o h a n (i:V) ((o.Passages.take i).map X2.Segment)=G F:=by
  intro k
  induction k with
  | zero=>
   intro i n hi hn;obtain⟨q,rfl⟩:=sn (n:=n) (by omega);have:i=o.Passages.length:=by omega
   subst this
   have e:Lv o o=G F:=by
    simp only[Lv,beq_self_eq_true,if_true,ku (A5 (n:=o.Passages.length) (by omega)),C]
   rw[zP,Hu];simp only[Ag,yE,decide_false,zC,if_false,Az,C,if_true,e]
  | succ k ih=>
   intro i n hi hn;obtain⟨q,rfl⟩:=sn (n:=n) (by omega);have hlt:i<o.Passages.length:=by omega
   have e:=ih (i+1) q (by omega) (by omega);rw[zD hlt,yX] at e
   rw[Hu];simp only[Ag,hlt,decide_true,if_true,Aa hlt,C,Ak hlt (A5 (by omega))];rw[if_pos (AR (by simp; omega) (by simp) (by omega))];exact e
 exact key o.Passages.length 0 bigN (by omega) (Aj (A5 (by omega)))
theorem qw{h:X1}(s:HSmall h)(hh:Ap h=F){cs:O X3}(hc:CallsGood h cs){os:O (O X0)}(ho:OptsOf h cs os){pl:O X0}{ch:O V}(hch:Chosen os pl ch)(hl:pl.length=os.length)(hf:Fit h pl) :
  Ld h cs pl=G F:=by
 have h6:=hc.six;have hlen:=ho.len;have hopt:=KK ho hch;unfold Ld;rw[F6 s hh hc,C,if_pos rfl,if_neg (by simp; omega)]
 have key:∀(k i n:X),i+k=cs.length→k<n→Hv pl cs h n (i:V)=G F:=by
  intro k
  induction k with
  | zero=>
   intro i n hi hn;obtain⟨q,rfl⟩:=sn (n:=n) (by omega);have:i=cs.length:=by omega
   subst this;simp[Hv]
  | succ k ih=>
   intro i n hi hn;obtain⟨q,rfl⟩:=sn (n:=n) (by omega);have hlt:i<cs.length:=by omega
   have hpl:i<pl.length:=by omega
   obtain⟨_,g⟩:=hopt i hpl;rw[Hv];simp only[Ag,hlt,decide_true,if_true,Aa hlt,Aa hpl,C,qv s hh (hc.ok _ (zB hlt)) g,Ep (Nat.le_of_lt hpl),kR,kY,hf i hpl,Ak hlt (A5 (by omega))];exact ih (i+1) q (by omega) (by omega)
 exact key cs.length 0 bigN (by omega) (Aj (A5 (by omega)))
theorem wi{α:Type}{l' l:O α}(h:l'.Sublist l):∃f:X→X,(∀i,i<l'.length→f i<l.length∧l[f i]?=l'[i]?)∧∀i j,i<l'.length→j<l'.length→f i=f j→i=j:=by
 induction h with
 | slnil=>exact⟨id,fun i h=>by simp at h,fun i j h=>by simp at h⟩
 | cons a _ ih=>
  obtain⟨f,h1,h2⟩:=ih;exact⟨fun i=>f i+1,fun i hi=>⟨by simp only[zS]; have:=(h1 i hi).1; omega,by simpa using(h1 i hi).2⟩,fun i j hi hj e=>h2 i j hi hj (Nat.succ.inj e)⟩
 | cons_cons a _ ih=>
  obtain⟨f,h1,h2⟩:=ih;refine⟨fun i=>match i with | 0=>0 | i+1=>f i+1,fun i hi=> ?_,fun i j hi hj e=> ?_⟩
  ·cases i with
   | zero=>exact⟨by simp,by simp⟩
   | succ i=>
    simp only[zS] at hi ⊢
    have:=h1 i (by omega);exact⟨by omega,by simpa using this.2⟩
  ·simp only[zS] at hi hj
   cases i with
   | zero=>cases j with
    | zero=>rfl
    | succ j=>simp at e
   | succ i=>cases j with
    | zero=>simp at e
    | succ j=>
     have:=h2 i j (by omega) (by omega) (by simpa using e);omega
section
variable {p : V} {m : O V} {l l' : O Xd}
theorem gK{n:X}(hs:l'.Sublist l)(h:DY (CN p m l) (2 ^ l.length - 1) n):DY (CN p m l') (2 ^ l'.length - 1) n:=by
 obtain⟨f,f1,f2⟩:=wi hs;obtain⟨g,g1,g2⟩:=h;simp only[yO,decide_eq_true_eq] at g1 g2
 refine⟨fun i=>g (f i),fun i hi=> ?_,fun i j hi hj hne e=> ?_⟩
 ·simp only[yO,decide_eq_true_eq] at hi
  exact g1 _ (f1 i hi).1
 ·simp only[yO,decide_eq_true_eq] at hi hj
  have:=g2 (f i) (f j) (f1 i hi).1 (f1 j hj).1 (fun h=>hne (f2 i j hi hj h)) e;unfold CN at this ⊢
  rw[(f1 i hi).2,(f1 j hj).2] at this
  exact this
theorem Qx(hl:m.length≤maxLen)(hN:l.length≤12)(hd:∀d∈l,BE d=F)(ht:CW p m=F):∃(n:X) (w:O V),DZ (CN p m l) (2 ^ l.length - 1) n∧E3 p m l=G (w,(n:V),F):=by
 have hdo:(decide (l.length≤12)&&l.all BE)=F:=by
  rw[zA,decide_eq_true_eq,zK]; exact⟨hN,hd⟩
 obtain⟨ms,m1,m2,m3⟩:=VM hl ht hd hN;obtain⟨n,n1,n2,n3⟩:=We (TH p m l) hN (ms:=ms) ⟨m1,m2⟩
 have hmx:∀x∈ms,x<2 ^ 12:=fun x hx=>by
  obtain⟨i,hi,rfl⟩:=zH hx;refine K3 fun j hj=> ?_
  have:=m2 i j (by omega);rw[I hi] at this
  have this:ms[i].testBit j=F2 p m l i j:=this;rw[this,F2,zA,decide_eq_true_eq] at hj
  omega
 obtain⟨b,r,c1,c2,c3⟩:=U7 ms.length bigN ms [] (n:V) [] (by simp) (by rw[DF]; omega) hmx (by omega) (fun g h=>by cases h) (by simp);refine⟨n,r.who,n1,?_⟩;unfold E3 HP;have ht':=ht;simp only[CW,zA] at ht'
 rw[JU,hdo,C,if_pos rfl,Pj,ht'.1,C,if_pos rfl,P3 hl,ht'.2,C,C,if_pos rfl,m3,C,n3,C];have c1:Oi ⟨nn ms,(n:V),[],[]⟩=G (b,r):=c1;rw[c1,C];show G (r.who,r.most,F)=_
 rw[c2]
theorem U6(hl:m.length≤maxLen)(hN:l.length≤12)(hd:∀d∈l,BE d=F)(ht:CW p m=F)(k:V):∃n:X,DZ (CN p m l) (2 ^ l.length - 1) n∧ED p m l k=G (decide ((n:V)≤k)):=by
 obtain⟨n,w,h1,h2⟩:=Qx hl hN hd ht;have hn:n≤l.length:=h1.2 _ (NL (by have:=Nat.two_pow_pos l.length; omega));refine⟨n,h1,?_⟩;unfold ED;split
 ·rename_i hk
  simp only[decide_eq_true_eq] at hk
  rw[decide_eq_true (by omega)]
 ·rw[h2]; rfl
def F7(p:V)(m:O V)(l:O Xd)(k:V):W:=(ED p m l k).getD E
theorem fg(hl:m.length≤maxLen)(k:V):ED p m l k=G (F7 p m l k):=by
 obtain⟨b,e⟩:=Qw (p:=p) (m:=m) (l:=l) hl k;rw[F7,e]; rfl
theorem TP(hl:m.length≤maxLen)(hN:l.length≤12)(hd:∀d∈l,BE d=F)(ht:CW p m=F){k:V}(hs:l'.Sublist l)(h:F7 p m l k=F):F7 p m l' k=F:=by
 obtain⟨n,n1,n2⟩:=U6 hl hN hd ht k;obtain⟨n',n3,n4⟩:=U6 (l:=l') hl (yC hs.length_le hN) (fun d hm=>hd d (hs.subset hm)) ht k;rw[F7,n2] at h;rw[F7,n4];simp only[Option.getD_some,decide_eq_true_eq] at h ⊢
 have:=n3.2 n (gK hs n1.1);omega
end
def IF(c:X4)(fl:O X8)(p:X2):O Xd:=zN (BK fl p.Ship).Tugs.toNat (Dj c p p)
theorem YC{α β:Type}(f:α→O β){l' l:O α}(h:l'.Sublist l):(l'.flatMap f).Sublist (l.flatMap f):=by
 induction h with
 | slnil=>exact List.Sublist.slnil
 | cons a _ ih=>rw[yM]; exact ih.trans (List.sublist_append_right _ _)
 | cons_cons a _ ih=>rw[yM,yM]; exact(List.Sublist.refl _).append ih
theorem YW{c:X4}{fl:O X8}(hn:∀x∈c.Points,x.Name.length≤maxLen)(hf:∀x∈fl,x.Name.length≤maxLen)(hc:AQ c=F)(hfl:FA fl=F){all:O X2}(hl:all.length≤maxLen)(hp:∀p∈all,DA c fl p=F) :
  Gv c fl all=if(all.flatMap (IF c fl)).length≤12 then G (all.flatMap (IF c fl),F) else G ([],E):=by
 have key:∀(k i n:X) (acc:O Xd),i+k=all.length→k<n→acc.length≤12→D2 fl all c n (i:V) acc=if(acc++(all.drop i).flatMap (IF c fl)).length≤12 then G (acc++(all.drop i).flatMap (IF c fl),F) else G ([],E):=by
  intro k
  induction k with
  | zero=>
   intro i n acc hi hn2 ha;obtain⟨n,rfl⟩:=sn (n:=n) (by omega);have:i=all.length:=by omega
   subst this;rw[D2,if_neg (by simp)];simp[ha]
  | succ k ih=>
   intro i n acc hi hn2 ha;obtain⟨n,rfl⟩:=sn (n:=n) (by omega);have hlt:i<all.length:=by omega
   have hpi:=hp _ (zB hlt);obtain⟨f1,f2,f3,f4,f5⟩:=DB hc hpi;obtain⟨s1,s2⟩:=FF f1;have hso:=(DK hfl).2 _ s2
   have hT:0≤(BK fl all[i].Ship).Tugs∧(BK fl all[i].Ship).Tugs≤4:=by
    simp only[Cs,zA,decide_eq_true_eq] at hso
    omega
   obtain⟨T,hTe⟩:∃T:X,(BK fl all[i].Ship).Tugs=(T:V):=⟨(BK fl all[i].Ship).Tugs.toNat,by omega⟩;have g2:=YY (c:=c) (fl:=fl) (p:=all[i]) f2 all (i:V) (D2 fl all c n) hTe (by omega) T 0 bigN acc (by omega) (by rw[DF]; omega) (by omega);have g2:Fu fl all (i:V) (BK fl all[i].Ship) c all[i] (D2 fl all c n) bigN 0 acc=_:=g2;have et:IF c fl all[i]=zN T (Dj c all[i] all[i]):=by rw[IF,hTe]; rfl
   simp only[D2,Ag,hlt,decide_true,if_true,Aa hlt,C,Ro hn hf hc hfl,hpi,s1];rw[g2,yF hlt,yM,et,← List.append_assoc];by_cases h12:(12:V)<((acc++zN T (Dj c all[i] all[i])).length:V)
   ·simp only[h12,decide_true,if_true];rw[if_neg (by rw[zL]; omega)]
   ·simp only[h12,decide_false,zC,if_false];rw[Ak hlt hl];exact ih (i+1) n _ (by omega) (by omega) (by omega)
 exact key all.length 0 bigN [] (by omega) (Aj hl) (by simp)
def dP:X2:=⟨0,0,E,0,0⟩
def GK(c:X4)(o:X0):Xd:=Dj c (o.Passages[0]?.getD dP) (o.Passages[o.Passages.length - 1]?.getD dP)
def Dc(h:X1)(l:O X0):O Xd:=(l.flatMap X0.Passages).flatMap (IF h.Chart h.Fleet)
def Ir(h:X1)(l:O X0):O Xd:=l.map (GK h.Chart)
def E2(h:X1)(l:O X0):W:=decide ((Dc h l).length≤12)&&(F7 0 h.Crew.Moves (Dc h l) h.Crew.Tugs&&F7 h.Crew.Rest h.Crew.Moves (Ir h l) h.Crew.Pilots)
def DE(h:X1)(l:O X0):Prop:=∀o∈l,∃a,OptOk h a o
theorem OptOk.good{h:X1}{a:X3}{o:X0}(H:OptOk h a o):El h o:=⟨H.len,fun p hp=>(H.pass p hp).2.1⟩
section
variable {h : X1}
theorem gM(s:HSmall h)(hh:Ap h=F){l:O X0}(hl:l.length≤1000)(ho:DE h l):EE h l=G (E2 h l):=by
 have hh':=hh;simp only[Ap,zA] at hh'
 obtain⟨hf,hc,hfl,hreg,hcrew⟩:=hh'
 have key:∀(k i n:X),i+k=l.length→k<n→((l.take i).flatMap X0.Passages).length≤100*i→E7 l h n (i:V) ((l.take i).flatMap X0.Passages) (Ir h (l.take i))=G (E2 h l):=by
  intro k
  induction k with
  | zero=>
   intro i n hi hn ha;obtain⟨q,rfl⟩:=sn (n:=n) (by omega);have:i=l.length:=by omega
   subst this;rw[zP] at ha ⊢
   have e:=YW s.pn s.fn hc hfl (all:=l.flatMap X0.Passages) (A5 (by omega)) fun p hp=>by
    obtain⟨o,h1,h2⟩:=kG.1 hp;obtain⟨a,H⟩:=ho o h1;exact H.good.2 p h2
   have e:Gv h.Chart h.Fleet (l.flatMap X0.Passages)=if(Dc h l).length≤12 then G (Dc h l,F) else G ([],E):=e;rw[E7];simp only[Ag,yE,decide_false,zC,if_false,e];unfold E2;by_cases h12:(Dc h l).length≤12
   ·simp only[h12,if_true,C,fg s.mv,decide_true,yD];cases F7 0 h.Crew.Moves (Dc h l) h.Crew.Tugs<;>rfl
   ·simp only[h12,if_false,C,decide_false,Bool.false_and,zC]
  | succ k ih=>
   intro i n hi hn ha;obtain⟨q,rfl⟩:=sn (n:=n) (by omega);have hlt:i<l.length:=by omega
   obtain⟨a,H⟩:=ho _ (zB hlt);obtain⟨g1,g2⟩:=H.good;have hz:=H.pos;have ep:IntKind.i64.wrap ((l[i].Passages.length:V) - 1)=((l[i].Passages.length - 1:X):V):=by rw[Ah (by omega) (by omega)]; omega
   have hz9:l[i].Passages.length - 1<l[i].Passages.length:=by omega
   have e0:ix l[i].Passages 0=G l[i].Passages[0]:=Aa hz;have e9:ix l[i].Passages ((l[i].Passages.length - 1:X):V)=G l[i].Passages[l[i].Passages.length - 1]:=Aa hz9;have s1:=(DB hc (g2 _ (zB hz))).2.1;have s2:=(DB hc (g2 _ (zB hz9))).2.1
   have hd:GK h.Chart l[i]=Dj h.Chart l[i].Passages[0] l[i].Passages[l[i].Passages.length - 1]:=by
    rw[GK,I hz,I hz9]; rfl
   have ei:=ih (i+1) q (by omega) (by omega) (by rw[zD hlt,yU,zL,yK]; omega);rw[zD hlt,yU,Ir,yX,List.map_singleton,hd,yK] at ei
   rw[E7];simp only[Ag,hlt,decide_true,if_true,Aa hlt,C,Ak hlt (A5 (by omega))];rw[if_pos (AR (by omega) (by omega) (by omega)),if_pos (by simp; omega)];simp only[e0,ep,e9,C,P1 s1 s2];rw[if_pos (AR (by simp[Ir]; omega) (by simp) (by omega))];exact ei
 exact key l.length 0 bigN (by omega) (Aj (A5 (by omega))) (by simp)
theorem WW(hc:AQ h.Chart=F){o:X0}(ho:∃a,OptOk h a o):BE (GK h.Chart o)=F:=by
 obtain⟨a,H⟩:=ho;have hz:=H.pos;have hz9:o.Passages.length - 1<o.Passages.length:=by omega
 rw[GK,I hz,I hz9];simp only[Option.getD_some];have f0:=DB hc (H.good.2 _ (zB hz));have f9:=DB hc (H.good.2 _ (zB hz9));have g0:=H.fst _ (I hz);have g9:=H.late _ (zB hz9);have g8:=WQ hc (H.good.2 _ (zB hz9));exact Ud hc f0.2.1 f9.2.1 (by omega) (by omega) (by omega)
theorem YX(hc:AQ h.Chart=F){l:O X0}(ho:DE h l):∀d∈Dc h l,BE d=F:=fun d hd=>by
 obtain⟨p,h1,h2⟩:=kG.1 hd;obtain⟨o,h3,h4⟩:=kG.1 h1;obtain⟨a,H⟩:=ho o h3;have f:=DB hc (H.good.2 p h4);have g:=WQ hc (H.good.2 p h4);rw[List.eq_of_mem_replicate h2];exact Ud hc f.2.1 f.2.1 (by omega) (by omega) (by omega)
theorem U8(s:HSmall h)(hh:Ap h=F){l l':O X0}(hl:l.length≤12)(ho:DE h l)(hs:l'.Sublist l)(H:E2 h l=F):E2 h l'=F:=by
 have hh':=hh;simp only[Ap,zA] at hh'
 obtain⟨hf,hc,hfl,hreg,hcrew⟩:=hh';obtain⟨m1,m2⟩:=Qy hcrew;simp only[E2,zA,decide_eq_true_eq] at H ⊢
 obtain⟨h1,h2,h3⟩:=H;have ht:(Dc h l').Sublist (Dc h l):=YC _ (YC _ hs);have hp:(Ir h l').Sublist (Ir h l):=hs.map _;refine⟨yC ht.length_le h1,TP s.mv h1 (YX hc ho) (by simp only[CW,m2,kV]; decide) ht h2,TP s.mv (by simpa[Ir] using hl) (fun d hd=> ?_) (by simp only[CW,m1,m2,kV]) hp h3⟩;obtain⟨o,h4,rfl⟩:=List.mem_map.1 hd;exact WW hc (ho o h4)
def H5(h:X1)(x o:X0):W:=(Gj h.Chart h.Regime x.Passages o.Passages).getD E
theorem TR{x o:X0}(hx:El h x)(ho:El h o):Gj h.Chart h.Regime x.Passages o.Passages=G (H5 h x o):=by
 obtain⟨r,e⟩:=TS (c:=h.Chart) (rg:=h.Regime) (a:=x.Passages) (b:=o.Passages) (A5 (by have:=hx.1; omega)) (A5 (by have:=ho.1; omega));rw[H5,e]; rfl
theorem lV(s:HSmall h)(hh:Ap h=F){l:O X0}{o:X0}(hl:l.length≤100)(ho:DE h (l++ [o])):Fq h l o=G (l.all (fun x=> !H5 h x o)&&E2 h (l++ [o])):=by
 have g0:El h o:=by obtain⟨a,H⟩:=ho o (by simp); exact H.good
 have key:∀(k i n:X),i+k=l.length→k<n→EF l h o n (i:V)=G ((l.drop i).all (fun x=> !H5 h x o)&&E2 h (l++ [o])):=by
  intro k
  induction k with
  | zero=>
   intro i n hi hn;obtain⟨q,rfl⟩:=sn (n:=n) (by omega);have:i=l.length:=by omega
   subst this;rw[EF];simp only[Ag,yE,decide_false,zC,if_false,TW (show l.length≤1000 by omega),C];rw[if_pos (AR (by omega) (by simp) (by omega)),gM s hh (by simp; omega) ho];simp
  | succ k ih=>
   intro i n hi hn;obtain⟨q,rfl⟩:=sn (n:=n) (by omega);have hlt:i<l.length:=by omega
   obtain⟨a,H⟩:=ho _ (List.mem_append_left _ (zB hlt));rw[EF,yF hlt,List.all_cons];simp only[Ag,hlt,decide_true,if_true,Aa hlt,C,TR H.good g0,Ak hlt (A5 (by omega)),ih (i+1) q (by omega) (by omega)];cases H5 h l[i] o<;>simp
 exact key l.length 0 bigN (by omega) (Aj (A5 (by omega)))
theorem QX(s:HSmall h)(hh:Ap h=F){l:O X0}(hl:l.length≤12)(ho:DE h l):Fit h l↔l.Pairwise (fun x y=>H5 h x y=E)∧(l≠ []→E2 h l=F):=by
 have fe:∀i (hi:i<l.length),Fq h (l.take i) l[i]=G ((l.take i).all (fun x=> !H5 h x l[i])&&E2 h (l.take (i+1))):=fun i hi=>by
  rw[lV s hh (by simp; omega) (fun o hm=>ho o (by rw[← zD hi] at hm; exact yS hm)),zD hi]
 constructor
 ·intro H;refine⟨yG.2 fun i j hi hj hij=> ?_,fun hne=> ?_⟩
  ·have:=H j hj;rw[fe j hj,zE,zA,zK] at this
   have:=this.1 l[i] (kX.2 ⟨i,by omega,rfl⟩);simpa using this
  ·have h0:0<l.length:=yI.2 hne;have:=H (l.length - 1) (by omega);rw[fe _ (by omega),zE,zA,show l.length - 1+1=l.length by omega,zP] at this
   exact this.2
 ·intro⟨h1,h2⟩ i hi;rw[fe i hi,zE,zA,zK];refine⟨fun x hx=> ?_,U8 s hh hl ho (List.take_sublist _ _) (h2 fun e=>by rw[e] at hi; simp at hi)⟩;obtain⟨j,hj,rfl⟩:=kX.1 hx;have:=yG.1 h1 j i (by omega) hi (by omega);rw[this]; rfl
theorem lU(s:HSmall h)(hh:Ap h=F){l l':O X0}(hl:l.length≤12)(ho:DE h l)(hs:l'.Sublist l)(H:Fit h l):Fit h l':=by
 obtain⟨h1,h2⟩:=(QX s hh hl ho).1 H;refine(QX s hh (yC hs.length_le hl) fun o hm=>ho o (hs.subset hm)).2 ⟨h1.sublist hs,fun hne=>U8 s hh hl ho hs (h2 fun e=> ?_)⟩;subst e;exact hne (List.sublist_nil.1 hs)
end
def BM:V→V→O V→W
 | _,_,[]=>F
 | a,n,x::l=>decide (a≤x)&&(decide (x<n)&&BM (x+1) n l)
theorem KG{n:V}:∀{l:O V} {a:V},BM a n l=F→∀x∈l,a≤x∧x<n
 | [],_,_,_,hx=>by simp at hx
 | y::l,a,h,x,hx=>by
  simp only[BM,zA,decide_eq_true_eq] at h;rcases zU.1 hx with rfl|hx
  ·exact⟨h.1,h.2.1⟩
  ·have:=KG h.2.2 x hx;omega
theorem Tw{n:V}:∀{l:O V} {a:V},BM a n l=F→∀i (h:i+1<l.length),l[i]<l[i+1]
 | [],_,_,i,h=>by simp at h
 | [y],_,_,i,h=>by simp at h
 | y::z::l,a,h,0,_=>by
  simp only[BM,zA,decide_eq_true_eq] at h;simp only[List.getElem_cons_zero,List.getElem_cons_succ];omega
 | y::z::l,a,h,i+1,hi=>by
  have h2:BM (y+1) n (z::l)=F:=by
   simp only[BM,zA,decide_eq_true_eq] at h ⊢
   exact h.2.2
  have:=Tw h2 i (by simpa using hi);simpa using this
def C5(n:X)(l:O V):O X:=(zF n).filter fun i:X=>l.contains (i:V)
theorem dk:∀(d:X) {l:O V} {a:X},BM a ((a+d:X):V) l=F→((yH a d).filter fun i:X=>l.contains (i:V)).map (fun i:X=>(i:V))=l:=by
 intro d
 induction d with
 | zero=>
  intro l a h;cases l with
  | nil=>rfl
  | cons x l=>
   simp only[BM,zA,decide_eq_true_eq] at h;omega
 | succ d ih=>
  intro l a h;cases l with
  | nil=>simp
  | cons x l=>
   have h0:=h;simp only[BM,zA,decide_eq_true_eq] at h;have e:(((a+1+d:X)):V)=((a+(d+1):X):V):=by omega
   rw[kF];by_cases hx:x=(a:V)
   ·subst hx;have h2:=ih (l:=l) (a:=a+1) (by rw[e]; simpa using h.2.2);rw[List.filter_cons];simp only[List.contains_cons,beq_self_eq_true,Bool.true_or,if_true,kE];rw[List.filter_congr (q:=fun i:X=>l.contains (i:V)) fun i hi=> ?_,h2];have:=List.mem_range'_1.1 hi;have hne:((i:V)==(a:V))=E:=by simp; omega
    simp[hne]
   ·have h2:=ih (l:=x::l) (a:=a+1) (by
     rw[e];simp only[BM,zA,decide_eq_true_eq];exact⟨by omega,h.2⟩)
    have hna:(x::l).contains (a:V)=E:=by
     cases hc:(x::l).contains (a:V) with
     | false=>rfl
     | true=>
      have hm:(a:V)∈x::l:=by simpa using hc
      rcases zU.1 hm with h3|h3
      ·exact absurd h3.symm hx
      ·have:=KG h.2.2 _ h3;omega
    rw[List.filter_cons,hna];simpa using h2
theorem NB{n:X}{l:O V}(h:BM 0 (n:V) l=F):(C5 n l).map (fun i:X=>(i:V))=l:=by
 have:=dk n (l:=l) (a:=0) (by simpa using h);unfold C5;rw[kL];exact this
theorem dl{n:X}{l:O V}(h:BM 0 (n:V) l=F)(hl:l.length=n):C5 n l=zF n:=by
 have e:=NB h;have h2:(C5 n l).length=n:=by have:=congrArg List.length e; simpa[hl] using this
 unfold C5 at h2 ⊢
 refine List.filter_eq_self.2 fun x hx=> ?_
 have h3:((zF n).filter fun i:X=>l.contains (i:V)).length=(zF n).length:=by simpa using h2
 rw[List.length_filter_eq_length_iff] at h3
 exact h3 x hx
def XX(n k:X):W:=match Ol (n:V) (k:V) with
 | some L=>L.all (fun l=>BM 0 (n:V) l&&(l.length==k))&&(decide (L.length≤64)&& !L.isEmpty)
 | none=>E
theorem vd:(zF 7).all (fun n=>(zF (n+1)).all (XX n))=F:=by kernel_rfl
theorem ve{n k:X}(hn:n≤6)(hk:k≤n):∃L,Ol (n:V) (k:V)=G L∧(∀l∈L,BM 0 (n:V) l=F∧l.length=k)∧L.length≤64∧L≠ []:=by
 have h:=zK.1 (zK.1 vd n (zV.2 (by omega))) k (zV.2 (by omega));unfold XX at h;split at h
 ·rename_i L e
  simp only[zA,zK,decide_eq_true_eq,beq_iff_eq,Bool.not_eq_true',List.isEmpty_eq_false_iff] at h;exact⟨L,e,h.1,h.2.1,h.2.2⟩
 ·cases h
def pick{α:Type}(cs:O α)(is:O X):O α:=is.filterMap fun i=>cs[i]?
theorem WU{α:Type}(cs:O α)(p:X→W):∀(k:X),k≤cs.length→(pick cs ((zF k).filter p)).Sublist (cs.take k):=by
 intro k
 induction k with
 | zero=>intro _; simp[pick]
 | succ k ih=>
  intro hk;have h:=ih (by omega);rw[List.range_succ,List.filter_append,zD (by omega)];unfold pick at h ⊢
  rw[kJ];refine h.append ?_;cases hp:p k with
  | true=>simp[hp,I (show k<cs.length by omega)]
  | false=>simp[hp]
theorem uF{α:Type}(cs:O α):pick cs (zF cs.length)=cs:=by
 have key:∀k,k≤cs.length→pick cs (zF k)=cs.take k:=by
  intro k
  induction k with
  | zero=>intro _; simp[pick]
  | succ k ih=>
   intro hk;have h:=ih (by omega);rw[List.range_succ,zD (by omega)];unfold pick at h ⊢
   rw[kJ,h];simp[I (show k<cs.length by omega)]
 rw[key _ (yT _),zP]
theorem CallsGood.sub{h:X1}{cs ds:O X3}(H:CallsGood h cs)(hs:ds.Sublist cs):CallsGood h ds:=
 ⟨fun a ha=>H.ok a (hs.subset ha),fun i j hi hj hij=>by
  have hp:cs.Pairwise fun a b:X3=>a.Ship≠b.Ship:=yG.2 fun i j hi hj hij=>H.ne i j hi hj hij
  exact yG.1 (hp.sublist hs) i j hi hj hij,yC hs.length_le H.six⟩
theorem CallsGood.pick{h:X1}{cs:O X3}(H:CallsGood h cs)(p:X→W):CallsGood h (pick cs ((zF cs.length).filter p)):=
 H.sub (by have:=WU cs p cs.length (yT _); rwa [zP] at this)
theorem W5{cs:O X3}(h6:cs.length≤6){l:O V}(hl:l.length≤1000)(ha:BM 0 (cs.length:V) l=F):LW cs l=G F:=by
 have key:∀(k i n:X),i+k=l.length→k<n→Gn cs l n (i:V)=G F:=by
  intro k
  induction k with
  | zero=>
   intro i n hi hn;obtain⟨q,rfl⟩:=sn (n:=n) (by omega);have:i=l.length:=by omega
   subst this;simp[Gn]
  | succ k ih=>
   intro i n hi hn;obtain⟨q,rfl⟩:=sn (n:=n) (by omega);have hlt:i<l.length:=by omega
   have e0:=ih (i+1) q (by omega) (by omega);rw[← Ak hlt (A5 (by omega))] at e0
   have g:=KG ha _ (zB hlt);rw[Gn];simp only[Ag,hlt,decide_true,if_true,Aa hlt,C,CR,Ds.2 g];by_cases h0:i=0
   ·subst h0;rw[if_neg (by simp)];exact e0
   ·rw[if_pos (by simp; omega)];obtain⟨j,rfl⟩:∃j,i=j+1:=⟨i - 1,by omega⟩;have hw:IntKind.i64.wrap (((j+1:X):V) - 1)=(j:V):=by rw[Ah (by omega) (by omega)]; omega
    have hjl:j<l.length:=by omega
    rw[hw,Aa hjl,C];have:=Tw ha j hlt;rw[if_neg (by simp; omega)];exact e0
 exact key l.length 0 bigN (by omega) (Aj (A5 (by omega)))
theorem vf{cs:O X3}(h6:cs.length≤6){l:O V}(hl:l.length≤1000)(ha:BM 0 (cs.length:V) l=F):Lx cs l=G (pick cs (C5 cs.length l)):=by
 have hil:(C5 cs.length l).length=l.length:=by have:=congrArg List.length (NB ha); simpa using this
 have hat:∀i (h:i<l.length),∃(h2:i<(C5 cs.length l).length) (h3:(C5 cs.length l)[i]<cs.length),l[i]=(((C5 cs.length l)[i]:X):V):=fun i h=>by
  have h2:i<(C5 cs.length l).length:=by omega
  have e:=congrArg (fun z=>z[i]?) (NB ha);simp only[yL,I h2,I h,Option.map_some,zE] at e
  have:=KG ha _ (zB h);exact⟨h2,by omega,e.symm⟩
 unfold Lx;rw[W5 h6 hl ha,C,if_pos rfl]
 have key:∀(k i n:X) (v:O X3),i+k=l.length→k<n→v=pick cs ((C5 cs.length l).take i)→v.length=i→HH cs l n (i:V) v=G (pick cs (C5 cs.length l)):=by
  intro k
  induction k with
  | zero=>
   intro i n v hi hn hv _;obtain⟨q,rfl⟩:=sn (n:=n) (by omega);have:i=l.length:=by omega
   subst this;rw[yA (by omega)] at hv
   subst hv;simp[HH]
  | succ k ih=>
   intro i n v hi hn hv hvl;obtain⟨q,rfl⟩:=sn (n:=n) (by omega);have hlt:i<l.length:=by omega
   obtain⟨h2,h3,h4⟩:=hat i hlt;rw[HH];simp only[Ag,hlt,decide_true,if_true,Aa hlt,C];rw[h4,Aa h3,C,if_pos (AR (by omega) (by simp) (by omega)),Ak hlt (A5 (by omega))];refine ih (i+1) q _ (by omega) (by omega) ?_ (by simp[hvl]);rw[hv,zD h2];unfold pick;rw[kJ];simp only[List.filterMap_cons,I h3,List.filterMap_nil]
 exact key l.length 0 bigN [] (by omega) (Aj (A5 (by omega))) (by simp[pick]) Z
theorem Ps{α:Type}{l:O α}:∀{is:O X},(∀i∈is,i<l.length)→(pick l is).length=is.length∧∀j (h:j<is.length),(pick l is)[j]?=l[is[j]]?
 | [],_=>⟨rfl,fun j h=>by simp at h⟩
 | i::is,hi=>by
  obtain⟨h1,h2⟩:=Ps (l:=l) (is:=is) fun k hk=>hi k (by simp[hk])
  have hil:=hi i (by simp);have e:pick l (i::is)=l[i]::pick l is:=by simp[pick,List.filterMap_cons,I hil]
  rw[e];refine⟨by simp[h1],fun j hj=> ?_⟩;cases j with
  | zero=>simp[I hil]
  | succ j=>simpa using h2 j (by simpa using hj)
def Da(h:X1)(ds:O X3):W:=match G1 h ds with
 | some r=>r.2.2
 | none=>E
section
variable {h : X1} {cs : O X3}
theorem wI(s:HSmall h)(hh:Ap h=F)(hc:CallsGood h cs):L0 h cs=G (Da h cs):=by
 obtain⟨os,e1,ho,_⟩:=IQ s hh hc;obtain⟨ch,lw,f,e2,_⟩:=IT s hh hc e1 ho;simp only[L0,Da,e2,C]
theorem wK(s:HSmall h)(hh:Ap h=F)(hc:CallsGood h cs)(p:X→W)(H:Da h cs=F):Da h (pick cs ((zF cs.length).filter p))=F:=by
 obtain⟨os,e1,ho,he⟩:=IQ s hh hc;obtain⟨ch,lw,f,e2,hb⟩:=IT s hh hc e1 ho;have hf:f=F:=by simpa[Da,e2] using H
 obtain⟨pl,c1,c2,c3,_⟩:=hb.plan hf;have hc':=hc.pick p;have hsub:=WU pl p pl.length (yT _);have hol:=ho.len;rw[zP,c2,hol] at hsub
 have hin:∀i∈(zF cs.length).filter p,i<cs.length:=fun i hi=>zV.1 (List.mem_filter.1 hi).1
 generalize (zF cs.length).filter p=is at hc' hsub hin
 obtain⟨os',e1',ho',he'⟩:=IQ s hh hc';obtain⟨ch',lw',f',e2',hb'⟩:=IT s hh hc' e1' ho';have h6:=hc.six;have hcl:=c1.1;obtain⟨a1,a2⟩:=Ps (l:=cs) (is:=is) hin;obtain⟨b1,b2⟩:=Ps (l:=pl) (is:=is) fun i hi=>(by have:=hin i hi; omega)
 obtain⟨d1,d2⟩:=Ps (l:=ch) (is:=is) fun i hi=>(by have:=hin i hi; omega)
 have hol':=ho'.len
 have hch:Chosen os' (pick pl is) (pick ch is):=⟨by omega,by omega,fun j h1 h2 h3=>by
  have hj:j<is.length:=by omega
  have hi:=hin _ (zB hj);have a3:=a2 j hj;have b3:=b2 j hj;have d3:=d2 j hj;rw[I (by omega),I (by omega),zE] at a3 b3 d3
  have e3:=he' j (by omega) h3;rw[a3,he is[j] hi (by omega),zE] at e3
  rw[b3,d3,← e3];exact c1.2.2 is[j] (by omega) (by omega) (by omega)⟩
 have hfit:Fit h (pick pl is):=lU s hh (l:=pl) (by omega) (fun o hm=>by
  obtain⟨i,hi,rfl⟩:=zH hm;obtain⟨_,g⟩:=KK ho c1 i hi;exact⟨_,g⟩) hsub c3
 have:=(hb'.least _ _ hch (by omega) hfit).1;simp only[Da,e2',this]
theorem wJ(s:HSmall h)(hh:Ap h=F):Da h []=F:=by
 have hc:CallsGood h []:=⟨fun a h=>(by cases h),fun i j hi=>(by simp at hi),by simp⟩;obtain⟨os,e1,ho,he⟩:=IQ s hh hc;obtain⟨ch,lw,f,e2,hb⟩:=IT s hh hc e1 ho;have:=(hb.least [] [] ⟨rfl,by simp,fun i h1=>by simp at h1⟩ (by have:=ho.len; simp at this ⊢; simp[this]) fun i hi=>by simp at hi).1;simp only[Da,e2,this]
def sv(h:X1)(cs:O X3)(l:O V):W:=Da h (pick cs (C5 cs.length l))
theorem Tv{n:X}{l:O V}(ha:BM 0 (n:V) l=F):l.length≤n:=by
 have h1:=congrArg List.length (NB ha);have h2:(C5 n l).length≤n:=yC (List.length_filter_le _ _) (by simp);simp only[List.length_map] at h1
 omega
theorem vg(s:HSmall h)(hh:Ap h=F)(hc:CallsGood h cs){l:O V}(ha:BM 0 (cs.length:V) l=F):Ly h cs l=G (sv h cs l):=by
 have h6:=hc.six;have hl:=Tv ha;have hp:CallsGood h (pick cs (C5 cs.length l)):=hc.pick _;unfold Ly;rw[F6 s hh hc,C,if_pos rfl,W5 h6 (by omega) ha,C,if_pos rfl,vf h6 (by omega) ha,C,wI s hh hp];rfl
theorem uo(s:HSmall h)(hh:Ap h=F)(hc:CallsGood h cs){L:O (O V)}(hL:∀l∈L,BM 0 (cs.length:V) l=F)(h64:L.length≤64)(y v:V)(K:V→U (O V)) :
  (∃x∈L,sv h cs x=E∧Dm cs y v L h K bigN 0=G x)∨((∀x∈L,sv h cs x=F)∧Dm cs y v L h K bigN 0=K (IntKind.i64.wrap (v+1))):=by
 have key:∀(k i n:X),i+k=L.length→k<n→(∃x∈L,sv h cs x=E∧Dm cs y v L h K n (i:V)=G x)∨((∀x∈L.drop i,sv h cs x=F)∧Dm cs y v L h K n (i:V)=K (IntKind.i64.wrap (v+1))):=by
  intro k
  induction k with
  | zero=>
   intro i n hi hn;obtain⟨q,rfl⟩:=sn (n:=n) (by omega);have:i=L.length:=by omega
   subst this;exact Or.inr ⟨fun x hx=>by simp at hx,by rw[Dm,if_neg (by simp)]⟩
  | succ k ih=>
   intro i n hi hn;obtain⟨q,rfl⟩:=sn (n:=n) (by omega);have hlt:i<L.length:=by omega
   have hm:=zB hlt
   have e:Dm cs y v L h K (q+1) (i:V)=if sv h cs L[i]=F then Dm cs y v L h K q ((i+1:X):V) else G L[i]:=by
    rw[Dm];simp only[Ag,hlt,decide_true,if_true,Aa hlt,C,vg s hh hc (hL _ hm),Ak hlt (A5 (by omega))]
   rw[e];by_cases hs:sv h cs L[i]=F
   ·rw[if_pos hs];rcases ih (i+1) q (by omega) (by omega) with H|⟨H1,H2⟩
    ·exact Or.inl H
    ·refine Or.inr ⟨fun x hx=> ?_,H2⟩;rw[yF hlt] at hx
     rcases zU.1 hx with rfl|hx
     ·exact hs
     ·exact H1 x hx
   ·rw[if_neg hs];exact Or.inl ⟨_,hm,by simpa using hs,Z⟩
 have:=key L.length 0 bigN (by omega) (Aj (A5 (by omega)));simpa using this
theorem ul(s:HSmall h)(hh:Ap h=F)(hc:CallsGood h cs):∃r,Jq h cs=G r∧BM 0 (cs.length:V) r=F∧(r= []↔Da h cs=F):=by
 have h6:=hc.six
 have nn0:sv h cs []=F:=by
  have:C5 cs.length []= []:=by simp[C5]
  rw[sv,this]; exact wJ s hh
 have key:∀(d k n:X),k+d=cs.length+1→d<n→(∃x,BM 0 (cs.length:V) x=F∧sv h cs x=E∧DJ cs h ((cs.length+1:X):V) n (k:V)=G x)∨((k≤cs.length→Da h cs=F)∧DJ cs h ((cs.length+1:X):V) n (k:V)=G []):=by
  intro d
  induction d with
  | zero=>
   intro k n hk hn;obtain⟨q,rfl⟩:=sn (n:=n) (by omega);exact Or.inr ⟨fun h=>by omega,by rw[DJ,if_neg (by simp; omega)]⟩
  | succ d ih=>
   intro k n hk hn;obtain⟨q,rfl⟩:=sn (n:=n) (by omega);obtain⟨L,l1,l2,l3,l4⟩:=ve h6 (show k≤cs.length by omega)
   have e:DJ cs h ((cs.length+1:X):V) (q+1) (k:V)=Dm cs ((cs.length+1:X):V) (k:V) L h (DJ cs h ((cs.length+1:X):V) q) bigN 0:=by
    rw[DJ,if_pos (by simp; omega),l1]; rfl
   rw[e];rcases uo s hh hc (fun l hl=>(l2 l hl).1) l3 ((cs.length+1:X):V) (k:V) (DJ cs h ((cs.length+1:X):V) q) with ⟨x,x1,x2,x3⟩|⟨x1,x2⟩
   ·exact Or.inl ⟨x,(l2 x x1).1,x2,x3⟩
   ·rw[x2,Ah (by omega) (by omega),show(k:V)+1=((k+1:X):V) by omega];rcases ih (k+1) q (by omega) (by omega) with H|⟨H1,H2⟩
    ·exact Or.inl H
    ·refine Or.inr ⟨fun hle=> ?_,H2⟩;by_cases hk2:k=cs.length
     ·obtain⟨x,hx⟩:=List.exists_mem_of_ne_nil _ l4;have:=x1 x hx;rw[sv,dl (l2 x hx).1 (by rw[(l2 x hx).2,hk2]),uF] at this
      exact this
     ·exact H1 (by omega)
 have e0:Jq h cs=DJ cs h ((cs.length+1:X):V) bigN ((0:X):V):=by
  unfold Jq;rw[F6 s hh hc,C,if_pos rfl,Ah (by omega) (by omega)];rfl
 rcases key (cs.length+1) 0 bigN (by omega) (Aj (A5 (by omega))) with ⟨x,x1,x2,x3⟩|⟨x1,x2⟩
 ·refine⟨x,by rw[e0,x3],x1,fun e=> ?_,fun e=> ?_⟩
  ·subst e; rw[nn0] at x2; cases x2
  ·have:=wK s hh hc (fun i=>x.contains (i:V)) e;rw[sv,C5,this] at x2; cases x2
 ·exact⟨[],by rw[e0,x2],Z,fun _=>x1 (by omega),fun _=>rfl⟩
end
theorem JZ{l:O (O Y)}{sep:O Y}(hl:l.length≤140737488355328)(hj:(join l sep).length≤140737488355328):CP l sep=G (join l sep):=by
 unfold CP Oy;rw[if_pos ⟨hl,hj⟩]; rfl
theorem Zl(n:V):i64 (IntKind.i64.wrap n):=PQ .i64 n
theorem Mu{α:Type}{l:O α}{i:V}(h0:0≤i)(h1:i<(l.length:V)):∃x∈l,ix l i=G x:=by
 obtain⟨k,rfl⟩:∃k:X,i=(k:V):=⟨i.toNat,by omega⟩;have hk:k<l.length:=by omega
 exact⟨l[k],zB hk,Aa hk⟩
theorem fj{l:O X0}(hl:l.length≤1000):∃r,NR l=G r∧r<(l.length:V)∧(0<l.length→0≤r):=by
 have key:∀(k i n:X) (v:V),i+k=l.length→k<n→(v<(i:V))→(0<i→0≤v)→∃r,Fb l n v (i:V)=G r∧r<(l.length:V)∧(0<l.length→0≤r):=by
  intro k
  induction k with
  | zero=>
   intro i n v hi hn h1 h2;obtain⟨q,rfl⟩:=sn (n:=n) (by omega);exact⟨v,by rw[Fb,if_neg (by simp; omega)],by omega,fun h=>h2 (by omega)⟩
  | succ k ih=>
   intro i n v hi hn h1 h2;obtain⟨q,rfl⟩:=sn (n:=n) (by omega);have hlt:i<l.length:=by omega
   have go:∀b,∃r,Jd l v (i:V) (Fb l q) b=G r∧r<(l.length:V)∧(0<l.length→0≤r)∨(b=E∧v<0):=by
    intro b;unfold Jd;rw[Ak hlt (A5 (by omega))];cases b with
    | true=>
     obtain⟨r,hr⟩:=ih (i+1) q (i:V) (by omega) (by omega) (by omega) (fun _=>by omega);exact⟨r,Or.inl (by simpa using hr)⟩
    | false=>
     by_cases hv:v<0
     ·exact⟨0,Or.inr ⟨Z,hv⟩⟩
     ·obtain⟨r,hr⟩:=ih (i+1) q v (by omega) (by omega) (by omega) (fun _=>by omega);exact⟨r,Or.inl (by simpa using hr)⟩
   rw[Fb];simp only[Ag,hlt,decide_true,if_true,Aa hlt,C];by_cases hv:v<0
   ·rw[if_pos (by simpa using hv)];obtain⟨r,hr|hr⟩:=go F
    ·exact⟨r,hr⟩
    ·cases hr.1
   ·rw[if_neg (by simpa using hv)];obtain⟨x,_,ex⟩:=Mu (l:=l) (i:=v) (by omega) (by omega);rw[ex,C];obtain⟨r,hr|hr⟩:=go (decide (l[i].Cost<x.Cost))
    ·exact⟨r,hr⟩
    ·omega
 exact key l.length 0 bigN (-1) (by omega) (Aj (A5 (by omega))) (by omega) (fun h=>by omega)
section
variable {h : X1} {cs : O X3}
theorem lZ(s:HSmall h)(hh:Ap h=F){a:X3}(ha:Ck h a=F):∃r,L6 h a=G r:=by
 obtain⟨l,e1,e2,_⟩:=Pq s hh ha;unfold L6;rw[e1,C];split
 ·exact⟨_,Z⟩
 ·rename_i h0
  obtain⟨r,r1,r2,r3⟩:=fj (l:=l) (by omega);obtain⟨x,_,ex⟩:=Mu (l:=l) (i:=r) (r3 (by simp at h0; exact yI.2 h0)) r2;rw[r1,C,ex];exact⟨_,Z⟩
theorem tj(s:HSmall h)(hh:Ap h=F){a b:X3}(ha:Ck h a=F)(hb:Ck h b=F):∃r,Ll h a b=G r:=by
 obtain⟨l,e1,e2,e3⟩:=Pq s hh ha;obtain⟨l',f1,f2,f3⟩:=Pq s hh hb;unfold Ll;rw[e1,C]
 have outer:∀(k i n:X) (v:V),i+k=l.length→k<n→∃r,Fh l h b n v (i:V)=G r:=by
  intro k
  induction k with
  | zero=>
   intro i n v hi hn;obtain⟨q,rfl⟩:=sn (n:=n) (by omega);exact⟨v,by rw[Fh,if_neg (by simp; omega)]⟩
  | succ k ih=>
   intro i n v hi hn;obtain⟨q,rfl⟩:=sn (n:=n) (by omega);have hlt:i<l.length:=by omega
   rw[Fh];simp only[Ag,hlt,decide_true,if_true,Aa hlt,C,f1]
   have inner:∀(k j n:X) (v:V),j+k=l'.length→k<n→∃r,Ey l (i:V) l' h b l[i] (Fh l h b q) n v (j:V)=G r:=by
    intro k
    induction k with
    | zero=>
     intro j n v hj hn;obtain⟨q',rfl⟩:=sn (n:=n) (by omega);rw[Ey,if_neg (by simp; omega),Ak hlt (A5 (by omega))];exact ih (i+1) q v (by omega) (by omega)
    | succ k ihk=>
     intro j n v hj hn;obtain⟨q',rfl⟩:=sn (n:=n) (by omega);have hjl:j<l'.length:=by omega
     have go:∀(c:V) (t:W),∃r,Hz v l (i:V) l' (j:V) h b l[i] (Ey l (i:V) l' h b l[i] (Fh l h b q) q') c t=G r:=by
      intro c t;unfold Hz;rw[Ak hjl (A5 (by omega))];cases t<;>exact ihk (j+1) q' _ (by omega) (by omega)
     rw[Ey];simp only[Ag,hjl,decide_true,if_true,Aa hjl,C,TR (e3 _ (zB hlt)).good (f3 _ (zB hjl)).good];split
     ·exact go _ _
     ·split
      ·exact go _ _
      ·exact go _ _
   exact inner l'.length 0 bigN v (by omega) (Aj (A5 (by omega)))
 exact outer l.length 0 bigN (-1) (by omega) (Aj (A5 (by omega)))
theorem sV{m:O V}(hm:m.length=cs.length)(h6:cs.length≤6):∃b,Lg cs m=G b∧(b=F→∀x∈m,0≤x∧x<(m.length:V)):=by
 unfold Lg;rw[if_neg (by simp; omega)]
 have key:∀(k i n:X),i+k=m.length→k<n→∃b,Hx m n (i:V)=G b∧(b=F→∀x∈m.drop i,0≤x∧x<(m.length:V)):=by
  intro k
  induction k with
  | zero=>
   intro i n hi hn;obtain⟨q,rfl⟩:=sn (n:=n) (by omega);have:i=m.length:=by omega
   subst this;exact⟨F,by rw[Hx,if_neg (by simp)],fun _ x hx=>by simp at hx⟩
  | succ k ih=>
   intro i n hi hn;obtain⟨q,rfl⟩:=sn (n:=n) (by omega);have hlt:i<m.length:=by omega
   rw[Hx];simp only[Ag,hlt,decide_true,if_true,Aa hlt,C,Ig,Ak hlt (A5 (by omega))];by_cases hx:(decide (0≤m[i])&&decide (m[i]<(m.length:V)))=F
   ·rw[if_pos hx];simp only[zA,decide_eq_true_eq] at hx
    obtain⟨y,_,ey⟩:=Mu (l:=m) hx.1 hx.2;rw[ey,C];split
    ·exact⟨E,Z,fun h=>by cases h⟩
    ·obtain⟨b,b1,b2⟩:=ih (i+1) q (by omega) (by omega);refine⟨b,b1,fun hb x hx'=> ?_⟩;rw[yF hlt] at hx'
     rcases zU.1 hx' with rfl|hx'
     ·exact hx
     ·exact b2 hb x hx'
   ·rw[if_neg hx];exact⟨E,Z,fun h=>by cases h⟩
 simpa using key m.length 0 bigN (by omega) (Aj (A5 (by omega)))
theorem fJ(s:HSmall h)(hh:Ap h=F)(hc:CallsGood h cs){m:O V}(hm:m.length=cs.length):∃v b,KY h cs m=G (v,b)∧i64 v:=by
 have h6:=hc.six;have z:i64 0:=⟨by omega,by omega⟩;unfold KY;obtain⟨b,b1,b2⟩:=sV (cs:=cs) hm h6;rw[F6 s hh hc,C,if_pos rfl,b1,C];unfold KZ;cases b with
 | false=>exact⟨0,E,rfl,z⟩
 | true=>
  have b2:=b2 rfl;rw[if_neg (by simp)]
  have key:∀(k i n:X) (v:V),i+k=m.length→k<n→i64 v→∃r b,Et cs m h n v (i:V)=G (r,b)∧i64 r:=by
   intro k
   induction k with
   | zero=>
    intro i n v hi hn hv;obtain⟨q,rfl⟩:=sn (n:=n) (by omega);exact⟨v,F,by rw[Et,if_neg (by simp; omega)],hv⟩
   | succ k ih=>
    intro i n v hi hn hv;obtain⟨q,rfl⟩:=sn (n:=n) (by omega);have hlt:i<m.length:=by omega
    have hc':i<cs.length:=by omega
    obtain⟨x0,x1⟩:=b2 _ (zB hlt)
    have go:∀w,∃r b,Ha cs v m (i:V) h (Et cs m h q) w=G (r,b)∧i64 r:=by
     intro w;unfold Ha;split
     ·exact⟨0,E,Z,z⟩
     ·rw[Ak hlt (A5 (by omega))];exact ih (i+1) q _ (by omega) (by omega) (Zl _)
    rw[Et];simp only[Ag,hlt,decide_true,if_true,Aa hlt,Aa hc',C];split
    ·obtain⟨w,ew⟩:=lZ s hh (hc.ok _ (zB hc'));rw[ew,C];exact go w
    ·split
     ·obtain⟨y,hy,ey⟩:=Mu (l:=cs) x0 (by omega);obtain⟨w,ew⟩:=tj s hh (hc.ok _ (zB hc')) (hc.ok _ hy);rw[ey,C,ew,C];exact go w
     ·exact go 0
  exact key m.length 0 bigN 0 (by omega) (Aj (A5 (by omega))) z
def Bw(m:O V):O W:=m.map fun x=>decide (x<0)
theorem Pr(m:O V)(i:X)(x:V):Bw (m.set i x)=(Bw m).set i (decide (x<0)):=by simp[Bw,List.map_set]
theorem Ip(m:O V):(Bw m).length=m.length:=by simp[Bw]
theorem gA:∀{l:O W} {i:X},l[i]?=G F→∀{j:X},((l.set i E).set j E).count F<l.count F:=by
 intro l
 have le:∀(l:O W) (j:X),(l.set j E).count F≤l.count F:=by
  intro l
  induction l with
  | nil=>intro j; simp
  | cons b l ih=>
   intro j;cases j with
   | zero=>simp only[List.set_cons_zero,List.count_cons]; cases b<;>simp
   | succ j=>simp only[kT,List.count_cons]; have:=ih j; omega
 intro i hi j;refine kC (le _ j) ?_;revert i
 induction l with
 | nil=>intro i hi; simp at hi
 | cons b l ih=>
  intro i hi;cases i with
  | zero=>simp only[List.getElem?_cons_zero,zE] at hi; subst hi; simp
  | succ i=>simp only[kT,List.count_cons]; have:=ih (by simpa using hi); omega
theorem uB{P:O W}{i j:X}(hi:P[i]?=G F)(hj:P[j]?=G F):(((P.set i E).set j E).set i F).set j F=P:=by
 refine List.ext_getElem? fun k=> ?_
 simp only[List.getElem?_set,List.length_set];have hil:i<P.length:=by rcases yB i P.length with h | h; exact h; rw[List.getElem?_eq_none h] at hi; cases hi
 have hjl:j<P.length:=by rcases yB j P.length with h | h; exact h; rw[List.getElem?_eq_none h] at hj; cases hj
 have hi':P[i]=F:=by rw[I hil] at hi; simpa using hi
 have hj':P[j]=F:=by rw[I hjl] at hj; simpa using hj
 by_cases h1:j=k
 ·subst h1; simp[hjl,hj']
 ·by_cases h2:i=k
  ·subst h2; simp[h1,hil,hi']
  ·simp[h1,h2]
theorem sW(s:HSmall h)(hh:Ap h=F)(hc:CallsGood h cs):∀(u fuel:X) (m:O V) (f:W) (k:V) (b:O V),(Bw m).count F≤u→u<fuel→m.length=cs.length→i64 k→
  ∃m' f' k' b',Fo h cs fuel m f k b=G (m',f',k',b')∧Bw m'=Bw m∧i64 k':=by
 have h6:=hc.six;intro u
 induction u with
 | zero=> ?_
 | succ u ihu=> ?_
 all_goals
  intro fuel m f k b hu hf hm hk;obtain⟨q,rfl⟩:=sn (n:=fuel) (by omega)
  have visit:∀(m:O V) (f:W) (k:V) (b:O V),m.length=cs.length→i64 k→∃m' f' k' b',Fm (Fo h cs q) h cs m f k b (m.length:V)=G (m',f',k',b')∧Bw m'=Bw m∧i64 k':=by
   intro m f k b hm hk;obtain⟨v,t,e,hv⟩:=fJ s hh hc hm;unfold Fm Of;rw[if_pos (by simp),e,C,IX (show m.length≤1000 by omega)];cases t<;>cases f<;>simp only[C,if_true,zC,if_false]
   ·exact⟨_,_,_,_,Z,Z,hk⟩
   ·exact⟨_,_,_,_,Z,Z,hk⟩
   ·exact⟨_,_,_,_,Z,Z,hv⟩
   ·split
    ·exact⟨_,_,_,_,Z,Z,hv⟩
    ·exact⟨_,_,_,_,Z,Z,hk⟩
  have A1:∀(d i n:X),i+d=m.length→d<n→(∀j,i≤j→j<m.length→(Bw m)[j]?=G F→False)∨True→∃m' f' k' b',EA (Fo h cs q) h cs m f k b n (i:V)=G (m',f',k',b')∧Bw m'=Bw m∧i64 k':=by
   intro d
   induction d with
   | zero=>
    intro i n hi hn _;obtain⟨q',rfl⟩:=sn (n:=n) (by omega);have:i=m.length:=by omega
    subst this;rw[EA,if_neg (by simp)];exact visit m f k b hm hk
   | succ d ih=>
    intro i n hi hn _;obtain⟨q',rfl⟩:=sn (n:=n) (by omega);have hlt:i<m.length:=by omega
    rw[EA,if_pos (by simpa using hlt),Aa hlt,C];by_cases h0:0≤m[i]
    ·rw[if_pos (by simpa using h0),Ak hlt (A5 (by omega))];exact ih (i+1) q' (by omega) (by omega) (Or.inr trivial)
    ·rw[if_neg (by simpa using h0)];have hpi:(Bw m)[i]?=G F:=by rw[Bw,yL,I hlt]; simp; omega
     unfold Fm;rw[if_neg (by simp; omega)]
     have loop:∀(d v n:X) (m1:O V) (f:W) (k:V) (b:O V),v+d=m.length→d<n→Bw m1=Bw m→i64 k→∃m' f' k' b',EB (Fo h cs q) (i:V) n (v:V) m1 f k b=G (m',f',k',b')∧Bw m'=Bw m∧i64 k':=by
      intro d
      induction d with
      | zero=>
       intro v n m1 f k b hv hn hp hk;obtain⟨q2,rfl⟩:=sn (n:=n) (by omega);have hl1:m1.length=m.length:=by rw[← Ip,hp,Ip]
       exact⟨m1,f,k,b,by rw[EB,if_neg (by simp; omega)],hp,hk⟩
      | succ d ihd=>
       intro v n m1 f k b hv hn hp hk;obtain⟨q2,rfl⟩:=sn (n:=n) (by omega);have hl1:m1.length=m.length:=by rw[← Ip,hp,Ip]
       have hv1:v<m1.length:=by omega
       have hi1:i<m1.length:=by omega
       rw[EB,if_pos (by simpa using hv1),Aa hv1,C,Ak hv1 (A5 (by omega))];by_cases hneg:m1[v]<0
       ·rw[if_pos (by simpa using hneg),Aa hi1,C,Aa (l:=m1.set (Int.toNat (i:V)) (v:V)) (by simpa using hv1),C];simp only[zM];have hpv:(Bw m)[v]?=G F:=by rw[← hp,Bw,yL,I hv1]; simpa using hneg
        have e1:Bw ((m1.set i (v:V)).set v (i:V))=((Bw m).set i E).set v E:=by
         rw[Pr,Pr,hp,decide_eq_false (by omega),decide_eq_false (by omega)]
        have hcd:=gA hpi (j:=v);have hrec:∃m2 f2 k2 b2,Fo h cs q ((m1.set i (v:V)).set v (i:V)) f k b=G (m2,f2,k2,b2)∧Bw m2=Bw ((m1.set i (v:V)).set v (i:V))∧i64 k2:=by first | (exfalso; omega) | exact ihu q _ f k b (by rw[e1]; omega) (by omega) (by simp; omega) hk
        obtain⟨m2,f2,k2,b2,r1,r2,r3⟩:=hrec;have hl2:m2.length=m.length:=by rw[← Ip,r2,Ip]; simp; omega
        rw[r1,C];simp only[];rw[Aa (l:=m2) (show i<m2.length by omega),C,Aa (l:=m2.set i (-1)) (show v<(m2.set i (-1)).length by simp; omega),C];exact ihd (v+1) q2 _ f2 k2 b2 (by omega) (by omega) (by rw[Pr,Pr,r2,e1,decide_eq_true (show(-1:V)<0 by omega)]; exact uB hpi hpv) r3
       ·rw[if_neg (by simpa using hneg)];exact ihd (v+1) q2 m1 f k b (by omega) (by omega) hp hk
     exact loop (m.length - i) i bigN m f k b (by omega) (Aj (A5 (by omega))) Z hk
  exact A1 m.length 0 bigN (by omega) (Aj (A5 (by omega))) (Or.inr trivial)
theorem eW(s:HSmall h)(hh:Ap h=F)(hc:CallsGood h cs):∃m k f,KW h cs=G (m,k,f)∧i64 k:=by
 have h6:=hc.six;unfold KW;rw[F6 s hh hc,C,if_pos rfl,RG (by omega) (by omega),C]
 have key:∀(d i n:X) (m:O V),i+d=cs.length→d<n→m.length=cs.length→∃m' k f,H9 h cs ((zN cs.length (0:V)).length:V) n (i:V) m=G (m',k,f)∧i64 k:=by
  intro d
  induction d with
  | zero=>
   intro i n m hi hn hm;obtain⟨q,rfl⟩:=sn (n:=n) (by omega);obtain⟨m',f',k',b',e1,e2,e3⟩:=sW s hh hc (Bw m).length bigN m E 0 [] List.count_le_length (by rw[Ip]; exact Aj (A5 (by omega))) hm ⟨by omega,by omega⟩;have e1:Oe h cs m E 0 []=G (m',f',k',b'):=e1;exact⟨b',k',f',by rw[H9,if_neg (by simp; omega),e1]; rfl,e3⟩
  | succ d ih=>
   intro i n m hi hn hm;obtain⟨q,rfl⟩:=sn (n:=n) (by omega);have hlt:i<m.length:=by omega
   rw[H9,if_pos (by simp; omega),Aa hlt,C,Ak hlt (A5 (by omega))];exact ih (i+1) q _ (by omega) (by omega) (by simpa using hm)
 exact key cs.length 0 bigN _ (by omega) (Aj (A5 (by omega))) (by simp)
end
theorem I8{n:V}(h:i64 n):CB n=G (itoa n):=by
 simp[CB,Ow,h]
def wd(w:Xj):O Y:=if w.isS=F then w.s else itoa w.n
theorem A08{ws:O Xj}(hl:ws.length≤100)(h:∀w∈ws,w.isS=F∨i64 w.n)(hj:(join (ws.map wd) [32]).length≤140737488355328):Fx ws=G (join (ws.map wd) [32]):=by
 unfold Fx;rw[Xy (L:=HZ ws) ws wd (fun v=>(CP v ([32]:O Y)).bind fun r7=>G r7) (A5 (by omega)) (fun n i acc hi ha=> ?_) (fun n acc _=>by rw[HZ,if_neg (by simp)]),JZ (by simp; omega) hj]
 ·rfl
 ·have hw:M7 ws[i]=G (wd ws[i]):=by
   unfold M7 wd;rcases h _ (zB hi) with e|e
   ·simp[e]
   ·split
    ·rfl
    ·rw[I8 e]; rfl
  rw[HZ,Ag,if_pos (by simpa using hi),Aa hi,C,hw,C,if_pos (AR (by omega) (by simp) (by omega))]
theorem YI{B:X}{c:Y}:∀(l:O (O Y)),(∀w∈l,w.length≤B)→(joinTail [c] l).length≤(B+1)*l.length
 | [],_=>by simp[joinTail]
 | a::l,H=>by
  have h1:=H a (by simp);have h2:=YI (c:=c) l fun w hw=>H w (List.mem_cons_of_mem _ hw)
  simp only[joinTail,kE,List.flatten_cons,zL,zS,kO,Nat.mul_add,Nat.mul_one] at *
  omega
theorem Ih{B:X}{c:Y}{l:O (O Y)}(H:∀w∈l,w.length≤B):(join l [c]).length≤(B+1)*l.length:=by
 cases l with
 | nil=>simp[join_nil]
 | cons a l=>
  have h1:=H a (by simp);have h2:=YI (c:=c) l fun w hw=>H w (List.mem_cons_of_mem _ hw)
  rw[join_cons,zL,zS,Nat.mul_add,Nat.mul_one];omega
theorem PP{x:O Y}{rest:O Xj}(hx:x.length≤10000000)(hl:rest.length≤50)(h:∀w∈rest,(w.isS=F∧w.s.length≤10000000)∨(w.isS=E∧i64 w.n)):∃t,Fx ((⟨F,x,0⟩:Xj)::rest)=G (x++t)∧(x++t).length≤1000000000:=by
 have hb:∀w∈((⟨F,x,0⟩:Xj)::rest).map wd,w.length≤10000000:=fun w hw=>by
  obtain⟨y,hy,rfl⟩:=List.mem_map.1 hw;unfold wd;rcases zU.1 hy with rfl|hy
  ·simpa using hx
  ·rcases h y hy with ⟨e,e2⟩|⟨e,e2⟩
   ·simpa[e] using e2
   ·simp only[e,zC,if_false]; have:=GB e2; omega
 have hj:=Ih (c:=32) hb;simp only[List.length_map,zS] at hj
 rw[A08 (by simp; omega) (fun w hw=> ?_) (by omega),kE,join_cons]
 ·exact⟨_,Z,by have h9:=hj; rw[kE,join_cons] at h9; exact yC h9 (by omega)⟩
 ·rcases zU.1 hw with rfl|hw
  ·exact Or.inl Z
  ·rcases h w hw with e|e
   ·exact Or.inl e.1
   ·exact Or.inr e.2
section
variable {h : X1} {cs : O X3}
theorem fI(s:HSmall h)(hh:Ap h=F)(hc:CallsGood h cs):∃r,KX h cs=G r∧r≠ []∧(r= [110,111,32,112,108,97,110]↔Da h cs=E)∧r.length≤1000000000:=by
 obtain⟨os,e1,ho,_⟩:=IQ s hh hc;obtain⟨ch,lw,f,e2,hb⟩:=IT s hh hc e1 ho;have es:Da h cs=f:=by simp only[Da,e2]
 unfold KX;rw[F6 s hh hc,C,if_pos rfl,e2,C,es];cases f with
 | false=>exact⟨_,rfl,by simp,by simp,by simp⟩
 | true=>
  obtain⟨m,k,g,e3,hk⟩:=eW s hh hc;obtain⟨pl,c1,c2,c3,c4⟩:=hb.plan rfl;have hs:=YD (Qn ho c1);have h6:=hc.six;have hol:=ho.len;have hlw:lw.i0=DW pl:=by rw[c4]; rfl
  simp only[if_true,e3,C]
  obtain⟨t,et,tl⟩:=PP (x:= [99,111,115,116]) (rest:= [(⟨E,[],lw.i0⟩:Xj),(⟨F,([98,111,117,110,100]:O Y),0⟩:Xj),(⟨E,[],k⟩:Xj),(⟨F,([103,97,112]:O Y),0⟩:Xj),(⟨E,[],(IntKind.i64.wrap (lw.i0 - k))⟩:Xj)]) (by simp) (by simp) (fun w hw=>by
   simp only[zU,kH,or_false] at hw
   rcases hw with rfl|rfl|rfl|rfl|rfl
   ·exact Or.inr ⟨Z,by simp only[hlw]; unfold i64; omega⟩
   ·exact Or.inl ⟨Z,by simp⟩
   ·exact Or.inr ⟨Z,hk⟩
   ·exact Or.inl ⟨Z,by simp⟩
   ·exact Or.inr ⟨Z,Zl _⟩)
  rw[et,C];exact⟨_,Z,by simp,by simp,tl⟩
theorem uN(s:HSmall h)(hh:Ap h=F)(hc:CallsGood h cs){os:O (O X0)}(ho:OptsOf h cs os){pl:O X0}{ch:O V}(hch:Chosen os pl ch)(hl:pl.length=os.length)(hf:Fit h pl):∃r,Jp h cs pl=G r∧r.length=cs.length∧∀w∈r,w.length≤1000000000:=by
 have h6:=hc.six;have hol:=ho.len;unfold Jp;rw[qw s hh hc ho hch hl hf,C,if_pos rfl]
 have key:∀(k i n:X) (v:O (O Y)),i+k=pl.length→k<n→v.length=i→(∀w∈v,w.length≤1000000000)→∃r,HC cs pl h n (i:V) v=G r∧r.length=cs.length∧∀w∈r,w.length≤1000000000:=by
  intro k
  induction k with
  | zero=>
   intro i n v hi hn hv hb;obtain⟨q,rfl⟩:=sn (n:=n) (by omega);exact⟨v,by rw[HC,if_neg (by simp; omega)],by omega,hb⟩
  | succ k ih=>
   intro i n v hi hn hv hb;obtain⟨q,rfl⟩:=sn (n:=n) (by omega);have hlt:i<pl.length:=by omega
   have hlc:i<cs.length:=by omega
   have hok:=hc.ok _ (zB hlc);simp only[Ck,zA] at hok
   obtain⟨s1,s2⟩:=FF hok.1;have hsn:=s.fn _ s2;have hnm:=Iy ((DK (by simp only[Ap,zA] at hh; exact hh.2.2.1)).2 _ s2);have hnl:(BK h.Fleet cs[i].Ship).Name.length≤8:=(ML (Se ((DK (by simp only[Ap,zA] at hh; exact hh.2.2.1)).2 _ s2)).1).2;obtain⟨_,H⟩:=KK ho hch i hlt;have a1:=H.st64;have a2:=H.cost
   obtain⟨t,et,tl⟩:=PP (x:=(BK h.Fleet cs[i].Ship).Name) (rest:= [(⟨F,([115,116,97,114,116]:O Y),0⟩:Xj),(⟨E,[],pl[i].Start⟩:Xj),(⟨F,([97,114,114,105,118,101]:O Y),0⟩:Xj),(⟨E,[],pl[i].Arrival⟩:Xj),(⟨F,([119,97,105,116]:O Y),0⟩:Xj),(⟨E,[],pl[i].Cost⟩:Xj)]) (by omega) (by simp) (fun w hw=>by
    simp only[zU,kH,or_false] at hw
    rcases hw with rfl|rfl|rfl|rfl|rfl|rfl
    ·exact Or.inl ⟨Z,by simp⟩
    ·exact Or.inr ⟨Z,by simp only; unfold i64; omega⟩
    ·exact Or.inl ⟨Z,by simp⟩
    ·exact Or.inr ⟨Z,by simp only; unfold i64; omega⟩
    ·exact Or.inl ⟨Z,by simp⟩
    ·exact Or.inr ⟨Z,by simp only; unfold i64; omega⟩)
   rw[HC];simp only[Ag,hlt,decide_true,if_true,Aa hlt,Aa hlc,s1,C,et];rw[if_pos (AR (by omega) (by simp) (by omega)),Ak hlt (A5 (by omega))];exact ih (i+1) q _ (by omega) (by omega) (by simp; omega) fun w hw=>(zO.1 hw).elim (hb w) fun h9=>(by simp only[zG] at h9; subst h9; exact tl)
 exact key pl.length 0 bigN [] (by omega) (Aj (A5 (by omega))) Z (fun w hw=>by cases hw)
theorem fm{l:O X2}(hl:l.length≤1000):LN l=G l:=by
 unfold LN B2;rw[if_pos ⟨by omega,by omega,by omega,by omega⟩];simp only[C,Int.toNat_zero,kP,List.nil_append];rw[if_pos (by simp only[A4,kO,decide_eq_true_eq]; omega)]
theorem fi{pl:O X0}(hl:pl.length≤100)(ho:DE h pl):L1 pl=G (pl.map X0.Passages):=by
 unfold L1
 exact Xy (L:=Hb pl) pl X0.Passages G (A5 (by omega)) (fun n i acc hi ha=>by
  obtain⟨a,H⟩:=ho _ (zB hi);have:=H.len;rw[Hb];simp only[Ag,hi,decide_true,if_true,Aa hi,C,fm (show pl[i].Passages.length≤1000 by omega)];rw[if_pos (AR (by omega) (by simp) (by omega))]) fun n acc _=>by rw[Hb,if_neg (by simp)]
theorem fh{c:X4}{fl:O X8}(hc:AQ c=F){l:O X2}(hl:l.length≤100)(hp:∀p∈l,DA c fl p=F):∃b,L9 c l=G b:=by
 unfold L9;rw[D6 (BD hc).2.2.1,hc,C,if_pos rfl]
 have key:∀(k i n:X),i+k=l.length→k<n→∃b,G9 l c n (i:V)=G b:=by
  intro k
  induction k with
  | zero=>
   intro i n hi hn;obtain⟨q,rfl⟩:=sn (n:=n) (by omega);exact⟨F,by rw[G9,if_neg (by simp; omega)]⟩
  | succ k ih=>
   intro i n hi hn;obtain⟨q,rfl⟩:=sn (n:=n) (by omega);have hlt:i<l.length:=by omega
   have hs:=(DB hc (hp _ (zB hlt))).2.1;have e0:ix l 0=G l[0]:=Aa (show 0<l.length by omega);obtain⟨b,eb⟩:=ih (i+1) q (by omega) (by omega);rw[G9];simp only[Ag,hlt,decide_true,if_true,Aa hlt,e0,C,CR,hs,Ak hlt (A5 (by omega))];split
   ·exact⟨_,Z⟩
   ·split
    ·exact⟨b,eb⟩
    ·rename_i hz
     have hi0:0<i:=by rcases Nat.eq_zero_or_pos i with h0 | h0; subst h0; simp at hz; exact h0
     have ep:IntKind.i64.wrap ((i:V) - 1)=((i - 1:X):V):=by rw[Ah (by omega) (by omega)]; omega
     have hlp:i - 1<l.length:=by omega
     have hsp:=(DB hc (hp _ (zB hlp))).2.1;rw[ep,Aa hlp,C,P2 hsp,C,P2 hs,C];split
     ·exact⟨_,Z⟩
     ·split
      ·exact⟨_,Z⟩
      ·exact⟨b,eb⟩
 exact key l.length 0 bigN (by omega) (Aj (A5 (by omega)))
theorem uK(s:HSmall h)(hh:Ap h=F){o:X0}(ho:∃a,OptOk h a o):∃d b,Lo h.Chart h.Fleet o.Passages=G (d,b)∧(b=F→BE d=F):=by
 have hh':=hh;simp only[Ap,zA] at hh'
 obtain⟨hf,hc,hfl,hreg,hcrew⟩:=hh';have hd:=WW hc ho;obtain⟨a,H⟩:=ho;have hz:=H.pos;have hlen:=H.len;obtain⟨b,eb⟩:=fh hc (fl:=h.Fleet) H.len H.good.2;unfold Lo;rw[if_neg (by simp; intro e; simp[e] at hz),eb,C];unfold Lp;cases b with
 | false=>exact⟨_,E,rfl,fun h=>by cases h⟩
 | true=>
  rw[if_neg (by simp)]
  have key:∀(k i n:X),i+k=o.Passages.length→k<n→HB h.Fleet o.Passages h.Chart n (i:V)=G (GK h.Chart o,F):=by
   intro k
   induction k with
   | zero=>
    intro i n hi hn;obtain⟨q,rfl⟩:=sn (n:=n) (by omega);have ep:IntKind.i64.wrap ((o.Passages.length:V) - 1)=((o.Passages.length - 1:X):V):=by rw[Ah (by omega) (by omega)]; omega
    have hz9:o.Passages.length - 1<o.Passages.length:=by omega
    have e0:ix o.Passages 0=G o.Passages[0]:=Aa hz;have e9:ix o.Passages ((o.Passages.length - 1:X):V)=G o.Passages[o.Passages.length - 1]:=Aa hz9;have s1:=(DB hc (H.good.2 _ (zB hz))).2.1;have s2:=(DB hc (H.good.2 _ (zB hz9))).2.1
    have hd:GK h.Chart o=Dj h.Chart o.Passages[0] o.Passages[o.Passages.length - 1]:=by
     rw[GK,I hz,I hz9]; rfl
    rw[HB,if_neg (by simp; omega),e0,C,ep,e9,C,P1 s1 s2,C,hd]
   | succ k ih=>
    intro i n hi hn;obtain⟨q,rfl⟩:=sn (n:=n) (by omega);have hlt:i<o.Passages.length:=by omega
    rw[HB];simp only[Ag,hlt,decide_true,if_true,Aa hlt,C,Ro s.pn s.fn hc hfl,H.good.2 _ (zB hlt),Ak hlt (A5 (by omega))];exact ih (i+1) q (by omega) (by omega)
  exact⟨_,F,key o.Passages.length 0 bigN (by omega) (Aj (A5 (by omega))),fun _=>hd⟩
theorem Wf{p:V}{m:O V}{l:O Xd}{n:X}(hN:l.length≤12)(H:DZ (CN p m l) (2 ^ l.length - 1) n):i64 (n:V):=by
 have:=H.2 l.length (NL (by have:=Nat.two_pow_pos l.length; omega));exact⟨by omega,by omega⟩
theorem xL(s:HSmall h)(hh:Ap h=F){pl:O X0}(hl:pl.length≤100)(ho:DE h pl)(hk:(Dc h pl).length≤12):∃n,LH h.Crew h.Chart h.Fleet (pl.flatMap X0.Passages)=G n∧i64 n:=by
 have hh':=hh;simp only[Ap,zA] at hh'
 obtain⟨hf,hc,hfl,hreg,hcrew⟩:=hh';obtain⟨m1,m2⟩:=Qy hcrew
 have hlen:(pl.flatMap X0.Passages).length≤100*pl.length:=by
  have:∀(l:O X0),DE h l→(l.flatMap X0.Passages).length≤100*l.length:=fun l=>by
   induction l with
   | nil=>intro _; simp
   | cons x l ih=>
    intro hg;obtain⟨a,H⟩:=hg x (by simp);have:=ih fun o hm=>hg o (by simp[hm])
    have:=H.len;rw[yM,zL,zS];omega
  exact this pl ho
 have e:=YW s.pn s.fn hc hfl (all:=pl.flatMap X0.Passages) (A5 (by omega)) fun p hp=>by
  obtain⟨o,h1,h2⟩:=kG.1 hp;obtain⟨a,H⟩:=ho o h1;exact H.good.2 p h2
 have e:Gv h.Chart h.Fleet (pl.flatMap X0.Passages)=if(Dc h pl).length≤12 then G (Dc h pl,F) else G ([],E):=e;obtain⟨n,w,n1,n2⟩:=Qx (p:=0) s.mv hk (YX hc ho) (by simp only[CW,m2,kV]; decide);unfold LH;rw[e,if_pos hk,C,if_pos rfl,Rn s.mv,hcrew,C,if_pos rfl,n2];exact⟨_,Z,Wf hk n1⟩
theorem uL(s:HSmall h)(hh:Ap h=F){pl:O X0}(hl:pl.length≤12)(ho:DE h pl):∃n,Lq h.Crew h.Chart h.Fleet (pl.map X0.Passages)=G n∧i64 n:=by
 have hh':=hh;simp only[Ap,zA] at hh'
 obtain⟨hf,hc,hfl,hreg,hcrew⟩:=hh';obtain⟨m1,m2⟩:=Qy hcrew;unfold Lq
 have key:∀(k i n:X) (v:O Xd),i+k=pl.length→k<n→v.length≤i→(∀d∈v,BE d=F)→∃r,Gd h.Fleet (pl.map X0.Passages) h.Crew h.Chart n (i:V) v=G r∧i64 r:=by
  intro k
  induction k with
  | zero=>
   intro i n v hi hn hv hd;obtain⟨q,rfl⟩:=sn (n:=n) (by omega);obtain⟨n,w,n1,n2⟩:=Qx (p:=h.Crew.Rest) s.mv (show v.length≤12 by omega) hd (by simp only[CW,m1,m2,kV]);rw[Gd,if_neg (by simp; omega),Rn s.mv,hcrew,C,if_pos rfl,if_neg (by simp; omega),n2];exact⟨_,Z,Wf (by omega) n1⟩
  | succ k ih=>
   intro i n v hi hn hv hd;obtain⟨q,rfl⟩:=sn (n:=n) (by omega);have hlt:i<pl.length:=by omega
   have hlm:i<(pl.map X0.Passages).length:=by simpa using hlt
   have hg:=ho _ (zB hlt);obtain⟨d,b,e,hdb⟩:=uK s hh hg;obtain⟨a,H⟩:=hg;have hz:=H.pos;rw[Gd];simp only[Ag,hlm,decide_true,if_true,Aa hlm,List.getElem_map,C,e,Ak hlm (A5 (by simp; omega))];rw[if_neg (by simp; intro e; simp[e] at hz)];cases b with
   | false=>exact⟨_,rfl,by unfold i64; omega⟩
   | true=>
    rw[if_pos rfl,if_pos (AR (by omega) (by simp) (by omega))];refine ih (i+1) q _ (by omega) (by omega) (by simp; omega) fun x hx=> ?_
    rcases zO.1 hx with hx|hx
    ·exact hd x hx
    ·simp only[zG] at hx; subst hx; exact hdb rfl
 exact key pl.length 0 bigN [] (by omega) (Aj (A5 (by omega))) (by simp) fun d hd=>by cases hd
theorem gO(s:HSmall h)(hh:Ap h=F){pl:O X0}(hl:pl.length≤12)(ho:DE h pl)(hk:(Dc h pl).length≤12):∃r,Jh h pl=G r∧r≠ []∧r.length≤1000000000:=by
 obtain⟨n1,t1,t2⟩:=xL s hh (by omega) ho hk;obtain⟨n2,p1,p2⟩:=uL s hh hl ho
 obtain⟨t,et,tl⟩:=PP (x:= [116,117,103,115]) (rest:= [(⟨E,[],n1⟩:Xj),(⟨F,([112,105,108,111,116,115]:O Y),0⟩:Xj),(⟨E,[],n2⟩:Xj)]) (by simp) (by simp) (fun w hw=>by
  simp only[zU,kH,or_false] at hw
  rcases hw with rfl|rfl|rfl
  ·exact Or.inr ⟨Z,t2⟩
  ·exact Or.inl ⟨Z,by simp⟩
  ·exact Or.inr ⟨Z,p2⟩)
 unfold Jh;rw[Mr s,hh,C,if_pos rfl,fi (by omega) ho,C]
 have key:∀(k i n:X),i+k=pl.length→k<n→((pl.take i).flatMap X0.Passages).length≤100*i→Hk (pl.map X0.Passages) h n (i:V) ((pl.take i).flatMap X0.Passages)=G ([116,117,103,115]++t):=by
  intro k
  induction k with
  | zero=>
   intro i n hi hn ha;obtain⟨q,rfl⟩:=sn (n:=n) (by omega);have:i=pl.length:=by omega
   subst this;rw[zP,Hk,if_neg (by simp),t1,C,p1,C,et];rfl
  | succ k ih=>
   intro i n hi hn ha;obtain⟨q,rfl⟩:=sn (n:=n) (by omega);have hlt:i<pl.length:=by omega
   have hlm:i<(pl.map X0.Passages).length:=by simpa using hlt
   obtain⟨a,H⟩:=ho _ (zB hlt);have hlen:=H.len;have e:=ih (i+1) q (by omega) (by omega) (by rw[zD hlt,yU,zL,yK]; omega);rw[zD hlt,yU,yK] at e
   rw[Hk];simp only[Ag,hlm,decide_true,if_true,Aa hlm,List.getElem_map,C,Ak hlm (A5 (by simp; omega))];rw[if_pos (AR (by omega) (by omega) (by omega))];exact e
 exact⟨_,key pl.length 0 bigN (by omega) (Aj (A5 (by omega))) (by simp),by simp,tl⟩
end
theorem la{l:O X9}(hl:l.length≤3000)(hb:∀w∈l,0≤w.From∧w.From≤w.To∧w.To≤2880):∃r,L8 l=G r∧r.length≤10000000:=by
 obtain⟨b,eb⟩:=SE l (by omega) fun w hw=>⟨(hb w hw).1,(hb w hw).2.2⟩
 unfold L8;rw[eb,C];cases b with
 | false=>exact⟨_,rfl,by simp⟩
 | true=>
  rw[if_pos rfl];split
  ·exact⟨_,Z,by simp⟩
  ·have key:∀(k i n:X) (v:O (O Y)),i+k=l.length→k<n→v.length=i→(∀w∈v,w.length≤43)→∃r,Hq l n (i:V) v=G r∧r.length≤10000000:=by
    intro k
    induction k with
    | zero=>
     intro i n v hi hn hv hw;obtain⟨q,rfl⟩:=sn (n:=n) (by omega);have hj:=Ih (c:=32) hw;rw[Hq,if_neg (by simp; omega),JZ (by omega) (by omega)];exact⟨_,Z,by omega⟩
    | succ k ih=>
     intro i n v hi hn hv hw;obtain⟨q,rfl⟩:=sn (n:=n) (by omega);have hlt:i<l.length:=by omega
     have hbi:=hb _ (zB hlt);have i1:i64 l[i].From:=⟨by omega,by omega⟩;have i2:i64 l[i].To:=⟨by omega,by omega⟩;have l1:=GB i1;have l2:=GB i2;have c1:AP (itoa l[i].From).length ([45]:O Y).length=F:=by unfold AP; rw[decide_eq_true_eq]; simp; omega
     have c2:AP (itoa l[i].From++ [45]).length (itoa l[i].To).length=F:=by unfold AP; rw[decide_eq_true_eq]; simp; omega
     rw[Hq];simp only[Ag,hlt,decide_true,if_true,Aa hlt,C,I8 i1,I8 i2,c1,c2,Ak hlt (A5 (by omega))];rw[if_pos (AR (by omega) (by simp) (by omega))];refine ih (i+1) q _ (by omega) (by omega) (by simp; omega) fun w hw'=> ?_
     rcases zO.1 hw' with hw' | hw'
     ·exact hw w hw'
     ·simp only[zG] at hw'; subst hw'; simp; omega
   exact key l.length 0 bigN [] (by omega) (Aj (A5 (by omega))) Z fun w hw=>by cases hw
theorem S4{c:X4}(hc:AQ c=F){x:Xa}(hx:x∈c.Points):x.Name.length≤8:=by
 simp only[AQ,zA,decide_eq_true_eq,zK,zV] at hc
 obtain⟨i,hi,rfl⟩:=zH hx;have:=hc.2.2.1 i hi;simp only[Kj,I hi,zA] at this
 exact(ML this.1).2
theorem Rt{c:X4}{i:V}(h:idx i c.Points.length=F):∃x∈c.Points,ix c.Points i=G x:=by
 obtain⟨h1,h2⟩:=Ds.1 h;exact Mu h1 h2
theorem wk{f:Xb}{c:X4}{s:X8}(hf:D3 f=F)(hc:AQ c=F)(hs:Cs s=F):∃r,LC f c s=G r∧r.length=c.Segments.length∧∀w∈r,w.length≤1000000000:=by
 have hcf:=BD hc;unfold LC;rw[JV,hf,C,if_pos rfl,D6 hcf.2.2.1,hc,C,if_pos rfl,Ie (Iy hs),hs,C,if_pos rfl]
 have key:∀(k i n:X) (v:O (O Y)),i+k=c.Segments.length→k<n→v.length=i→(∀w∈v,w.length≤1000000000)→∃r,HK c f s n (i:V) v=G r∧r.length=c.Segments.length∧∀w∈r,w.length≤1000000000:=by
  intro k
  induction k with
  | zero=>
   intro i n v hi hn hv hb;obtain⟨q,rfl⟩:=sn (n:=n) (by omega);exact⟨v,by rw[HK,if_neg (by simp; omega)],by omega,hb⟩
  | succ k ih=>
   intro i n v hi hn hv hb;obtain⟨q,rfl⟩:=sn (n:=n) (by omega);have hlt:i<c.Segments.length:=by omega
   obtain⟨j1,j2⟩:=hcf.2.2.2 _ (zB hlt);obtain⟨x1,y1,z1⟩:=Rt j1;obtain⟨x2,y2,z2⟩:=Rt j2;have n1:=S4 hc y1;have n2:=S4 hc y2;obtain⟨ws,w1,w2,w3⟩:=YG hf hc hs (i:=(i:V)) (Ds.2 ⟨by omega,by omega⟩);obtain⟨r,r1,r2⟩:=la (l:=ws) w3 fun w hw=>⟨(w2 w hw).1,(w2 w hw).2.1,(w2 w hw).2.2.1⟩
   have c1:AP x1.Name.length ([45]:O Y).length=F:=by unfold AP; rw[decide_eq_true_eq]; simp; omega
   have c2:AP (x1.Name++ [45]).length x2.Name.length=F:=by unfold AP; rw[decide_eq_true_eq]; simp; omega
   obtain⟨t,et,tl⟩:=PP (x:=(x1.Name++ [45])++x2.Name) (rest:= [(⟨F,r,0⟩:Xj)]) (by simp; omega) (by simp) (fun w hw=>by
    simp only[zU,kH,or_false] at hw
    subst hw;exact Or.inl ⟨Z,r2⟩)
   rw[HK];simp only[Ag,hlt,decide_true,if_true,Aa hlt,z1,z2,c1,c2,C,w1,r1,et,Ak hlt (A5 (by omega))];rw[if_pos (AR (by omega) (by simp) (by omega))];exact ih (i+1) q _ (by omega) (by omega) (by simp; omega) fun w hw=>(zO.1 hw).elim (hb w) fun h9=>(by simp only[zG] at h9; subst h9; exact tl)
 exact key c.Segments.length 0 bigN [] (by omega) (Aj (A5 (by omega))) Z (fun w hw=>by cases hw)
theorem uk{h:X1}{cs:O X3}(s:HSmall h)(hh:Ap h=F)(hc:CallsGood h cs)(hn:∀y∈h.Fleet,y.Name.length≤8):∃r,Lt h cs=G r∧r.length≤1000:=by
 obtain⟨l,e,ha,hs⟩:=ul s hh hc;have hl:=Tv ha;have h6:=hc.six;unfold Lt;rw[F6 s hh hc,C,if_pos rfl,e,C]
 have key:∀(k i n:X) (v:O (O Y)),i+k=l.length→k<n→v.length=i→(∀w∈v,w.length≤8)→∃r,HF cs l h n (i:V) v=G r∧r.length≤1000:=by
  intro k
  induction k with
  | zero=>
   intro i n v hi hn hv hw;obtain⟨q,rfl⟩:=sn (n:=n) (by omega);rw[HF,if_neg (by simp; omega)];split
   ·exact⟨_,Z,by simp⟩
   ·have hj:=Ih (c:=43) hw;rw[JZ (by omega) (by omega)];exact⟨_,Z,by omega⟩
  | succ k ih=>
   intro i n v hi hn' hv hw;obtain⟨q,rfl⟩:=sn (n:=n) (by omega);have hlt:i<l.length:=by omega
   obtain⟨g1,g2⟩:=KG ha _ (zB hlt);obtain⟨c,hcn⟩:∃c:X,l[i]=(c:V):=⟨l[i].toNat,by omega⟩;have hcl:c<cs.length:=by omega
   have hok:=hc.ok _ (zB hcl);simp only[Ck,zA] at hok
   obtain⟨s1,s2⟩:=FF hok.1;rw[HF];simp only[Ag,hlt,decide_true,if_true,Aa hlt,hcn,Aa hcl,s1,C];rw[if_pos (AR (by omega) (by simp) (by omega)),Ak hlt (A5 (by omega))];refine ih (i+1) q _ (by omega) (by omega) (by simp; omega) fun w hw'=> ?_
   rcases zO.1 hw' with hw' | hw'
   ·exact hw w hw'
   ·simp only[zG] at hw'; subst hw'; exact hn _ s2
 exact key l.length 0 bigN [] (by omega) (Aj (A5 (by omega))) Z fun w hw=>(by cases hw)
end Go.Vi
