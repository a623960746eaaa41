/-
Plain laws. No condition.
-/
import Derived.Test.YtpigjggbnclpbaaGreatONf
import Derived.Test.YtpigjggbnclpbaaGreatOVi33
import Derived.KernelRfl
namespace Go.Vi
set_option linter.all false
open Option renaming bind_some → C, some → E
open List renaming getElem?_eq_getElem → I, getElem?_append_left → zC, getElem_mem → zE, range → zF, getElem?_append_right → zG, getElem_of_mem → zH, mem_singleton → zJ, getLast?_eq_getElem? → zL, mem_append → zN, getElem_append_right → zP, take_succ_eq_append_getElem → zQ, getElem_append_left → zR, range' → zS, replicate → zT, length_pos_iff → zV, getElem?_cons_zero → zX, map → zY, all_eq_true → zZ, length_singleton → yA, foldr_cons → yB, take_append_of_le_length → yC, length_append → yD, drop_eq_getElem_cons → yE, range'_succ → yF, take_length → yG, getElem_map → yH, drop_zero → yJ, mem_range → yK
open Bool renaming false_eq_true → zA, and_eq_true → zB, eq_iff_iff → zM, true_and → zO, true → T, false → F
open Option.some renaming injEq → zD
open Int renaming tdiv → zI, tmod_eq_emod_of_nonneg → zU, tmod → zW
open Nat renaming zero_le → zK, mul_le_mul → yI
open IntKind renaming wrap → yL
open _root_ renaming List → G, Option → O, Int → Q, Bool → U, Nat → X, UInt8 → Y, rfl → Z
theorem BM(n lo hi:Q):Ax n lo hi=E (decide (lo≤n)&&decide (n≤hi)):=by
 unfold Ax;by_cases h:lo≤n<;>simp[h]
theorem CJ(n lo hi:Q):BA n lo hi=E (decide (lo≤n)&&decide (n≤hi)):=by
 unfold BA;by_cases h:lo≤n<;>simp[h]
theorem H5{n bytes:X}(h:n≤1048576)(hb:bytes≤1000):Ck (n:Q) (n:Q) bytes=E n:=by
 unfold Ck
 have:(n:Q)*(bytes:Q)≤140737488355328:=by
  have:n*bytes≤1048576*1000:=yI h hb;have e:((n*bytes:X):Q)=(n:Q)*(bytes:Q):=by simp
  omega
 rw[if_pos ⟨by omega,by omega,this,by omega⟩];simp
theorem Ej{n:X}(h:n≤1048576):n≤maxLen:=by rw[AI]; omega
theorem pX{xs:G Q}(h:xs.length≤1048576):Ko xs=E xs:=by
 unfold Ko;rw[H5 h (by omega)];have:=FR (L:=Gz xs) xs id (Ej h) (fun n i acc hi ha=>by simp[Gz,Ao,hi,ha]) (fun n acc=>by simp[Gz]) (zT xs.length 0) (by simp);simpa using this
theorem dL{xs ys:G Q}(h:xs.length≤maxLen):JV xs ys=E (decide (xs=ys)):=by
 unfold JV;by_cases hl:xs.length=ys.length
 ·have:=EK (L:=Gj xs ys) xs ys h hl (fun n i h1 h2=>by simp[Gj,Ao,h1,h2]) (fun n=>by simp[Gj]);simp[hl,this]
 ·have:¬(xs.length:Q)=ys.length:=by omega
  have:xs≠ys:=fun e=>hl (by rw[e])
  simp_all
theorem Fo{α:Type}{row:α→G D}{xs:G α}(h:(D.sl (zY row xs)).Ok):xs.length≤maxLen:=by simpa using h.sl.1
theorem IC(n:Q):Dp n=E (decide (0≤n)&&decide (n≤2880)):=by simp[Dp,CJ]
theorem RP{len:X}(p:X→U)(K:O U):∀(k i:X),(zS i k).foldr (fun i r=>if p i=T then r else E F) K=if(zS i k).all p=T then K else E F
 | 0,i=>by simp
 | k+1,i=>by
  rw[yF,yB,RP (len:=len) p K k (i+1),List.all_cons];cases p i<;>rfl
theorem RQ{len:X}(p:X→U)(K:O U):∀(k i:X),(zS i k).foldr (fun i r=>if p i=T then E F else r) K=if(zS i k).any p=T then E F else K
 | 0,i=>by simp
 | k+1,i=>by
  rw[yF,yB,RQ (len:=len) p K k (i+1),List.any_cons];cases p i<;>rfl
theorem EF{L:X→Q→O U}(len:X)(p:X→U)(K:O U)(hl:len≤maxLen)
  (hs:∀(n i:X),i<len→L (n+1) (i:Q)=if p i=T then L n (yL .i64 ((i:Q)+1)) else E F) (he:∀n,L (n+1) (len:Q)=K):L bigN 0=if(zF len).all p=T then K else E F:=by
 have:=Hd L len hl (fun i r=>if p i=T then r else E F) K hs he len 0 bigN (by omega) (Bo hl);rw[RP (len:=len),← List.range_eq_range'] at this
 exact this
theorem QU{L:X→Q→O U}(len:X)(p:X→U)(K:O U)(hl:len≤maxLen)
  (hs:∀(n i:X),i<len→L (n+1) (i:Q)=if p i=T then E F else L n (yL .i64 ((i:Q)+1))) (he:∀n,L (n+1) (len:Q)=K):L bigN 0=if(zF len).any p=T then E F else K:=by
 have:=Hd L len hl (fun i r=>if p i=T then E F else r) K hs he len 0 bigN (by omega) (Bo hl);rw[RQ (len:=len),← List.range_eq_range'] at this
 exact this
def Ha(s:G Y)(i:X):U:=match s[i]? with
 | some b=>(decide (97≤(b.toNat:Q))&&decide ((b.toNat:Q)≤122)) || (!(decide (i=0))&&(decide (48≤(b.toNat:Q))&&decide ((b.toNat:Q)≤57)))
 | none=>F
def Lq(s:G Y):U:=decide (1≤(s.length:Q))&&decide ((s.length:Q)≤8)
def Dy(s:G Y):U:=Lq s&&(zF s.length).all (Ha s)
theorem TX(c:Q)(K:O U)(z':U)(z:Q)(i:X)(hz:z=(i:Q)) :
  (if decide (97≤c)=T then(if decide (c≤122)=T then K else if(z==0)=T then E F else if decide (c<48)=T then E F else if decide (57<c)=T then E F else K)
   else if F=T then K else if(z==0)=T then E F else if decide (c<48)=T then E F else if decide (57<c)=T then E F else K) =
  if((decide (97≤c)&&decide (c≤122)) || (!(decide (i=0))&&(decide (48≤c)&&decide (c≤57))))=T then K else E F:=by
 subst hz;have e0:(((i:X):Q)==0)=decide (i=0):=by rw[zM]; simp
 have e1:decide (c<48)= !decide (48≤c):=by rw[zM]; simp
 have e2:decide (57<c)= !decide (c≤57):=by rw[zM]; simp
 rw[e0,e1,e2];cases decide (i=0)<;>cases decide (97≤c)<;>cases decide (c≤122)<;>cases decide (48≤c)<;>cases decide (c≤57)<;>rfl
theorem UF{s:G Y}(h:s.length≤maxLen):Ij s=E (Dy s):=by
 unfold Ij;rw[EF (L:=F4 s) s.length (Ha s) (E (Lq s)) h (fun n i hi=> ?_) (fun n=>by simp[F4,BM,Lq])]
 ·unfold Dy;cases(zF s.length).all (Ha s)<;>simp
 ·simp only[F4,KE,KF,Ao,Ha,I hi,C,Aj,hi,decide_true,if_true];exact TX _ _ T (i:Q) i Z
theorem Th{s:G Y}(h:s.length≤maxLen):HT s=E (Dy s):=by
 unfold HT;rw[CJ];rw[EF (L:=ER s) s.length (Ha s) (E T) h (fun n i hi=> ?_) (fun n=>by simp[ER])]
 ·unfold Dy Lq;simp only[C];cases(zF s.length).all (Ha s)<;>cases(decide (1≤(s.length:Q))&&decide ((s.length:Q)≤8))<;>simp
 ·simp only[ER,Jx,Jy,Ao,Ha,I hi,C,Aj,hi,decide_true,if_true];exact TX _ _ T (i:Q) i Z
theorem L4{R:Type}(p:X→U)(f:X→R)(z:R):∀(k i:X),(zS i k).foldr (fun i r=>if p i=T then E (f i) else r) (E z)=E ((zS i k).foldr (fun i r=>if p i=T then f i else r) z)
 | 0,i=>by simp
 | k+1,i=>by
  rw[yF,yB,L4 p f z k (i+1),yB];cases p i<;>simp
def Lx(xs:G X8)(s:G Y)(i:X):U:=match xs[i]? with
 | some x=>decide (x.Name=s)
 | none=>F
def Ly(xs:G X8)(s:G Y):Q:=(zS 0 xs.length).foldr (fun i r=>if Lx xs s i=T then(i:Q) else r) (-1)
theorem oI{c:X0}{s:G Y}(h:c.Points.length≤maxLen):KM c s=E (Ly c.Points s):=by
 unfold KM;exact(Hd (GQ s c) c.Points.length h (fun i r=>if Lx c.Points s i=T then E (i:Q) else r) (E (-1)) (fun n i hi=>by simp[GQ,Ao,hi,Lx]) (fun n=>by simp[GQ]) c.Points.length 0 bigN (by omega) (Bo h)).trans (L4 _ _ _ _ _)
theorem iE{c:X0}{s:G Y}(h:c.Points.length≤maxLen):JF c s=E (Ly c.Points s):=by
 unfold JF;exact(Hd (G4 s c) c.Points.length h (fun i r=>if Lx c.Points s i=T then E (i:Q) else r) (E (-1)) (fun n i hi=>by simp[G4,Ao,hi,Lx]) (fun n=>by simp[G4]) c.Points.length 0 bigN (by omega) (Bo h)).trans (L4 _ _ _ _ _)
def jn(y:X1)(a b:Q):U:=(decide (y.A=a)&&decide (y.B=b)) || (decide (y.A=b)&&decide (y.B=a))
theorem oO(y:X1)(a b:Q):KZ y a b=E (jn y a b):=by
 unfold KZ jn;by_cases h1:y.A=a<;>by_cases h2:y.B=b<;>by_cases h3:y.A=b<;>by_cases h4:y.B=a<;>simp_all
theorem iL(y:X1)(a b:Q):JH y a b=E (jn y a b):=by
 unfold JH jn;by_cases h1:y.A=a<;>by_cases h2:y.B=b<;>by_cases h3:y.A=b<;>by_cases h4:y.B=a<;>simp_all
theorem pA{xs:G Q}{l:Q}(h0:0≤l)(h1:l≤1048576)(hx:xs.length≤maxLen):∃r,Kd xs l=E r∧(0≤r→r≤l∧xs.length≤1048576):=by
 unfold Kd;rw[AI] at hx
 rw[Au (by omega) (by omega)];by_cases h:l - (xs.length:Q)<0
 ·exact⟨-1,by simp[h],by omega⟩
 ·exact⟨l - xs.length,by simp[h],by omega⟩
theorem Nf(i n:Q):BI i n=E (decide (0≤i)&&decide (i<n)):=by
 unfold BI;by_cases h:0≤i<;>simp[h]
def idx(i:Q)(n:X):U:=decide (0≤i)&&decide (i<(n:Q))
theorem Pc(i:Q){n:X}(h:n≤1000):(decide (0≤i)&&decide (i≤yL .i64 ((n:Q) - 1)))=idx i n:=by
 rw[Au (by omega) (by omega)];unfold idx;congr 1
 rw[zM];simp;omega
def De(c:X0)(i:X):U:=match c.Segments[i]? with
 | some x=>idx x.A c.Points.length&&(idx x.B c.Points.length&&(!(decide (x.A=x.B))&&((decide (0≤x.Depth)&&decide (x.Depth≤3000))&&((decide (1≤x.Minutes)&&decide (x.Minutes≤240))&& !((zF i).any fun j=>match c.Segments[j]? with | some y=>jn y x.A x.B | none=>F)))))
 | none=>F
def Fz(c:X0)(i:X):U:=match c.Points[i]? with
 | some x=>Dy x.Name&&decide (Ly c.Points x.Name=(i:Q))
 | none=>F
def AW(c:X0):U:=decide (c.Points.length≤8)&&(decide (c.Segments.length≤10)&&((zF c.Points.length).all (Fz c)&&(zF c.Segments.length).all (De c)))
theorem Jc{n i:X}(h:i≤n):bnd (n:Q) (i:Q) (0:Q) n=E (0,i):=by
 unfold bnd;rw[if_pos ⟨by omega,by omega,by omega,by omega⟩];simp
theorem Vd{α:Type}{l:G α}{i j:X}(hj:j<i):(l.take i)[j]?=l[j]?:=by simp[List.getElem?_take,hj]
theorem DI{c:X0}(hn:∀x∈c.Points,x.Name.length≤maxLen):D7 c=E (AW c):=by
 unfold D7 AW;by_cases h1:c.Points.length≤8
 ·have h1':¬(8:Q)<c.Points.length:=by omega
  by_cases h2:c.Segments.length≤10
  ·have h2':¬(10:Q)<c.Segments.length:=by omega
   have hp:c.Points.length≤maxLen:=by rw[AI]; omega
   have hs:c.Segments.length≤maxLen:=by rw[AI]; omega
   have inner:Dt c bigN 0=E ((zF c.Segments.length).all (De c)):=by
    rw[EF (L:=Dt c) c.Segments.length (De c) (E T) hs (fun n i hi=> ?_) (fun n=>by simp[Dt])]
    ·cases(zF c.Segments.length).all (De c)<;>rfl
    ·simp only[Dt,Ao,I hi,C,Aj,hi,decide_true,if_true,BM,Pc _ (show c.Points.length≤1000 by omega),Jc (Nat.le_of_lt hi),De,yJ,Nat.sub_zero];have hl:(c.Segments.take i).length=i:=by simp; omega
     rw[hl]
     rw[QU (L:=GI c i c.Segments[i] (c.Segments.take i) (i:Q) (Dt c n)) i (fun j=>match c.Segments[j]? with | some y=>jn y c.Segments[i].A c.Segments[i].B | none=>F)
      (Dt c n (yL .i64 ((i:Q)+1))) (by omega) (fun m j hj=>by
       have hj2:j<c.Segments.length:=by omega
       simp only[GI,Ao,Vd hj,I hj2,C,Aj,hj,decide_true,if_true,oO]) (fun m=>by simp[GI])]
     have e:(c.Segments[i].A==c.Segments[i].B)=decide (c.Segments[i].A=c.Segments[i].B):=rfl;rw[e]
     cases idx c.Segments[i].A c.Points.length<;>cases idx c.Segments[i].B c.Points.length<;>cases decide (c.Segments[i].A=c.Segments[i].B)<;>cases(decide (0≤c.Segments[i].Depth)&&decide (c.Segments[i].Depth≤3000)) <;>
      cases(decide (1≤c.Segments[i].Minutes)&&decide (c.Segments[i].Minutes≤240))<;>cases((zF i).any fun j=>match c.Segments[j]? with | some y=>jn y c.Segments[i].A c.Segments[i].B | none=>F)<;>rfl
   rw[EF (L:=GH c) c.Points.length (Fz c) _ hp (fun n i hi=> ?_) (fun n=>by simp only[GH,Int.lt_irrefl,decide_false,zA,if_false]; exact inner)]
   ·simp only[h1,h2,h1',h2',decide_true,decide_false,zO,zA,if_false];cases(zF c.Points.length).all (Fz c)<;>rfl
   ·simp only[GH,Ao,I hi,C,Aj,hi,decide_true,if_true,UF (hn _ (zE hi)),oI hp,Fz];by_cases e:Ly c.Points c.Points[i].Name=(i:Q)<;>cases Dy c.Points[i].Name<;>simp[e]
  ·have h2':(10:Q)<c.Segments.length:=by omega
   simp[h1,h1',h2,h2']
 ·have h1':(8:Q)<c.Points.length:=by omega
  simp[h1,h1']
theorem Ef{c:X0}(hn:∀x∈c.Points,x.Name.length≤maxLen):CL c=E (AW c):=by
 unfold CL AW;by_cases h1:c.Points.length≤8
 ·have h1':¬(8:Q)<c.Points.length:=by omega
  by_cases h2:c.Segments.length≤10
  ·have h2':¬(10:Q)<c.Segments.length:=by omega
   have hp:c.Points.length≤maxLen:=by rw[AI]; omega
   have hs:c.Segments.length≤maxLen:=by rw[AI]; omega
   have inner:Dl c bigN 0=E ((zF c.Segments.length).all (De c)):=by
    rw[EF (L:=Dl c) c.Segments.length (De c) (E T) hs (fun n i hi=> ?_) (fun n=>by simp[Dl])]
    ·cases(zF c.Segments.length).all (De c)<;>rfl
    ·simp only[Dl,Ao,I hi,C,Aj,hi,decide_true,if_true,CJ,Nf,show ∀(a:Q) (n:X),(decide (0≤a)&&decide (a<(n:Q)))=idx a n from fun _ _=>rfl,Jc (Nat.le_of_lt hi),De,yJ,Nat.sub_zero];have hl:(c.Segments.take i).length=i:=by simp; omega
     rw[hl]
     rw[QU (L:=FU c i c.Segments[i] (c.Segments.take i) (i:Q) (Dl c n)) i (fun j=>match c.Segments[j]? with | some y=>jn y c.Segments[i].A c.Segments[i].B | none=>F)
      (Dl c n (yL .i64 ((i:Q)+1))) (by omega) (fun m j hj=>by
       have hj2:j<c.Segments.length:=by omega
       simp only[FU,Ao,Vd hj,I hj2,C,Aj,hj,decide_true,if_true,iL]) (fun m=>by simp[FU])]
     have e:(c.Segments[i].A==c.Segments[i].B)=decide (c.Segments[i].A=c.Segments[i].B):=rfl;rw[e]
     cases idx c.Segments[i].A c.Points.length<;>cases idx c.Segments[i].B c.Points.length<;>cases decide (c.Segments[i].A=c.Segments[i].B)<;>cases(decide (0≤c.Segments[i].Depth)&&decide (c.Segments[i].Depth≤3000)) <;>
      cases(decide (1≤c.Segments[i].Minutes)&&decide (c.Segments[i].Minutes≤240))<;>cases((zF i).any fun j=>match c.Segments[j]? with | some y=>jn y c.Segments[i].A c.Segments[i].B | none=>F)<;>rfl
   rw[EF (L:=FT c) c.Points.length (Fz c) _ hp (fun n i hi=> ?_) (fun n=>by simp only[FT,Int.lt_irrefl,decide_false,zA,if_false]; exact inner)]
   ·simp only[h1,h2,h1',h2',decide_true,decide_false,zO,zA,if_false];cases(zF c.Points.length).all (Fz c)<;>rfl
   ·simp only[FT,Ao,I hi,C,Aj,hi,decide_true,if_true,Th (hn _ (zE hi)),iE hp,Fz];by_cases e:Ly c.Points c.Points[i].Name=(i:Q)<;>cases Dy c.Points[i].Name<;>simp[e]
  ·have h2':(10:Q)<c.Segments.length:=by omega
   simp[h1,h1',h2,h2']
 ·have h1':(8:Q)<c.Points.length:=by omega
  simp[h1,h1']
theorem pZ{xs:G X8}(h:xs.length≤1048576):Kr xs=E xs:=by
 unfold Kr;rw[H5 h (by omega)];have:=FR (L:=GB xs) xs id (Ej h) (fun n i acc hi ha=>by simp[GB,Ao,hi,ha,MB]) (fun n acc=>by simp[GB]) (zT xs.length ⟨[],F⟩) (by simp);simpa using this
theorem pc{xs:G X1}(h:xs.length≤1048576):Ks xs=E xs:=by
 unfold Ks;rw[H5 h (by omega)];have:=FR (L:=GC xs) xs id (Ej h) (fun n i acc hi ha=>by simp[GC,Ao,hi,ha,MD]) (fun n acc=>by simp[GC]) (zT xs.length ⟨0,0,0,0,F⟩) (by simp);simpa using this
theorem pS{c:X0}(h1:c.Points.length≤1048576)(h2:c.Segments.length≤1048576):Km c=E c:=by
 simp[Km,pZ h1,pc h2]
theorem dT(x y:X8):K1 x y=E (decide (x=y)):=by
 unfold K1;cases x; cases y;simp only[X8.mk.injEq];repeat' split
 all_goals simp_all
theorem dS{xs ys:G X8}(h:xs.length≤maxLen):K2 xs ys=E (decide (xs=ys)):=by
 unfold K2;by_cases hl:xs.length=ys.length
 ·have:=EK (L:=Gn xs ys) xs ys h hl (fun n i h1 h2=>by simp[Gn,Ao,h1,h2,dT]) (fun n=>by simp[Gn]);simp[hl,this]
 ·have:¬(xs.length:Q)=ys.length:=by omega
  have:xs≠ys:=fun e=>hl (by rw[e])
  simp_all
theorem dV(x y:X1):K3 x y=E (decide (x=y)):=by
 unfold K3;cases x; cases y;simp only[X1.mk.injEq];repeat' split
 all_goals simp_all
theorem dU{xs ys:G X1}(h:xs.length≤maxLen):K4 xs ys=E (decide (xs=ys)):=by
 unfold K4;by_cases hl:xs.length=ys.length
 ·have:=EK (L:=Gp xs ys) xs ys h hl (fun n i h1 h2=>by simp[Gp,Ao,h1,h2,dV]) (fun n=>by simp[Gp]);simp[hl,this]
 ·have:¬(xs.length:Q)=ys.length:=by omega
  have:xs≠ys:=fun e=>hl (by rw[e])
  simp_all
theorem dD{c:X0}(h1:c.Points.length≤maxLen)(h2:c.Segments.length≤maxLen):JR c c=E T:=by
 simp[JR,dS h1,dU h2]
theorem pE{x:X8}{l:Q}(h0:0≤l)(h1:l≤1048576)(hx:x.Name.length≤maxLen):∃r,Kf x l=E r∧(0≤r→r≤l):=by
 unfold Kf;rw[AI] at hx
 rw[Au (by omega) (by omega)];by_cases h:l - (x.Name.length:Q)<0
 ·exact⟨-1,by simp[h],by omega⟩
 ·exact⟨l - x.Name.length,by simp[h],by omega⟩
theorem pD{xs:G X8}{l:Q}(h0:0≤l)(h1:l≤1048576)(hx:xs.length≤maxLen)(hn:∀x∈xs,x.Name.length≤maxLen):∃r,Kg xs l=E r∧(0≤r→r≤l∧xs.length≤1048576):=by
 unfold Kg;have hx':=hx;rw[AI] at hx'
 rw[Au (by omega) (by omega)];by_cases h:l - (xs.length:Q)<0
 ·exact⟨-1,by simp[h],by omega⟩
 ·have key:∀(k i n:X) (v:Q),i+k=xs.length→k<n→0≤v→v≤l→∃r,EZ xs n v (i:Q)=E r∧(0≤r→r≤l):=by
   intro k
   induction k with
   | zero=>
    intro i n v hi hn2 hv hv2;obtain⟨m,rfl⟩:∃m,n=m+1:=⟨n - 1,by omega⟩;have:i=xs.length:=by omega
    subst this;exact⟨v,by simp[EZ],fun _=>hv2⟩
   | succ k ih=>
    intro i n v hi hn2 hv hv2;obtain⟨m,rfl⟩:∃m,n=m+1:=⟨n - 1,by omega⟩;have hlt:i<xs.length:=by omega
    obtain⟨r,e,hr⟩:=pE (x:=xs[i]) hv (by omega) (hn _ (zE hlt));by_cases hr0:r<0
    ·exact⟨-1,by simp[EZ,Ao,hlt,e,hr0],by omega⟩
    ·obtain⟨r2,e2,h2⟩:=ih (i+1) m r (by omega) (by omega) (by omega) (by have:=hr (by omega); omega);refine⟨r2,?_,h2⟩;rw[← AK hlt hx] at e2
     simp only[EZ,Ao,I hlt,C,Aj,hlt,decide_true,if_true,e,hr0,decide_false,zA,if_false];exact e2
  obtain⟨r,e,hr⟩:=key xs.length 0 bigN (l - xs.length) (by omega) (Bo hx) (by omega) (by omega);refine⟨r,?_,fun h=>⟨hr h,by omega⟩⟩;simp only[h,decide_false,zA,if_false];exact e
theorem pF{xs:G X1}{l:Q}(h0:0≤l)(h1:l≤1048576)(hx:xs.length≤maxLen):∃r,Ki xs l=E r∧(0≤r→r≤l∧xs.length≤1048576):=by
 unfold Ki;rw[AI] at hx
 rw[Au (by omega) (by omega)];by_cases h:l - (xs.length:Q)<0
 ·exact⟨-1,by simp[h],by omega⟩
 ·exact⟨l - xs.length,by simp[h],by omega⟩
theorem ox{c:X0}{l:Q}(h0:0≤l)(h1:l≤1048576)(hp:c.Points.length≤maxLen)(hs:c.Segments.length≤maxLen)(hn:∀x∈c.Points,x.Name.length≤maxLen) :
  ∃r,Kb c l=E r∧(0≤r→r≤l∧c.Points.length≤1048576∧c.Segments.length≤1048576):=by
 unfold Kb;obtain⟨r,e,h⟩:=pD h0 h1 hp hn;by_cases hr:r<0
 ·exact⟨-1,by simp[e,hr],by omega⟩
 ·obtain⟨k1,k2⟩:=h (by omega);obtain⟨r',e',h'⟩:=pF (xs:=c.Segments) (l:=r) (by omega) (by omega) hs;by_cases hr':r'<0
  ·exact⟨-1,by simp[e,hr,e',hr'],by omega⟩
  ·obtain⟨k3,k4⟩:=h' (by omega);exact⟨r',by simp[e,hr,e',hr'],fun _=>⟨by omega,k2,k4⟩⟩
def Cd(s:X6):U:=Dy s.Name&&((decide (10≤s.Length)&&decide (s.Length≤400))&&((decide (100≤s.Draught)&&decide (s.Draught≤2000))&&((decide (0≤s.Line)&&decide (s.Line≤3))&&(decide (0≤s.Tugs)&&decide (s.Tugs≤4)))))
theorem Te(a b:U):(if a=T then E b else E F)=E (a&&b):=by cases a<;>rfl
theorem IT{s:X6}(h:s.Name.length≤maxLen):D8 s=E (Cd s):=by
 simp only[D8,UF h,BM,C,Te,Cd]
theorem Fl{s:X6}(h:s.Name.length≤maxLen):Do s=E (Cd s):=by
 have e:(decide (0≤s.Line)&&decide (s.Line<4))=(decide (0≤s.Line)&&decide (s.Line≤3)):=by
  congr 1
  rw[zM]; simp; omega
 simp only[Do,Th h,CJ,Nf,C,Te,Cd,e]
def LC(xs:G X6)(s:G Y)(i:X):U:=match xs[i]? with
 | some x=>decide (x.Name=s)
 | none=>F
def LD(xs:G X6)(s:G Y):Q:=(zS 0 xs.length).foldr (fun i r=>if LC xs s i=T then(i:Q) else r) (-1)
theorem oJ{xs:G X6}{s:G Y}(h:xs.length≤maxLen):KP xs s=E (LD xs s):=by
 unfold KP;exact(Hd (GS s xs) xs.length h (fun i r=>if LC xs s i=T then E (i:Q) else r) (E (-1)) (fun n i hi=>by simp[GS,Ao,hi,LC]) (fun n=>by simp[GS]) xs.length 0 bigN (by omega) (Bo h)).trans (L4 _ _ _ _ _)
theorem iF{xs:G X6}{s:G Y}(h:xs.length≤maxLen):JI xs s=E (LD xs s):=by
 unfold JI;exact(Hd (G6 s xs) xs.length h (fun i r=>if LC xs s i=T then E (i:Q) else r) (E (-1)) (fun n i hi=>by simp[G6,Ao,hi,LC]) (fun n=>by simp[G6]) xs.length 0 bigN (by omega) (Bo h)).trans (L4 _ _ _ _ _)
def Ip(xs:G X6)(i:X):U:=match xs[i]? with
 | some x=>Cd x&&decide (LD xs x.Name=(i:Q))
 | none=>F
def Fj(xs:G X6):U:=decide (xs.length≤6)&&(zF xs.length).all (Ip xs)
theorem Jd(a b:Q):(a !=b)= !decide (a=b):=rfl
theorem oB{xs:G X6}(hn:∀x∈xs,x.Name.length≤maxLen):KA xs=E (Fj xs):=by
 unfold KA Fj;by_cases h:xs.length≤6
 ·have h':¬(6:Q)<xs.length:=by omega
  have hm:xs.length≤maxLen:=by rw[AI]; omega
  simp only[h,h',decide_true,decide_false,zA,if_false,zO];refine J9 (L:=GK xs) xs.length (Ip xs) hm (fun n i hi=> ?_) (fun n=>by simp[GK]);simp only[GK,Aj,hi,decide_true,if_true,At hi,C,IT (hn _ (zE hi)),oJ hm,Ip,I hi,Jd];cases Cd xs[i]<;>by_cases e:LD xs xs[i].Name=(i:Q)<;>simp[e]
 ·have h':(6:Q)<xs.length:=by omega
  simp[h,h']
theorem hU{xs:G X6}(hn:∀x∈xs,x.Name.length≤maxLen):Jr xs=E (Fj xs):=by
 unfold Jr Fj;by_cases h:xs.length≤6
 ·have h':¬(6:Q)<xs.length:=by omega
  have hm:xs.length≤maxLen:=by rw[AI]; omega
  simp only[h,h',decide_true,decide_false,zA,if_false,zO];refine J9 (L:=G0 xs) xs.length (Ip xs) hm (fun n i hi=> ?_) (fun n=>by simp[G0]);simp only[G0,Aj,hi,decide_true,if_true,At hi,C,Fl (hn _ (zE hi)),iF hm,Ip,I hi,Jd];cases Cd xs[i]<;>by_cases e:LD xs xs[i].Name=(i:Q)<;>simp[e]
 ·have h':(6:Q)<xs.length:=by omega
  simp[h,h']
theorem RN{xs:G X6}(h:Fj xs=T):xs.length≤6∧∀x∈xs,Cd x=T:=by
 simp only[Fj,zB,decide_eq_true_eq,zZ,yK] at h;refine⟨h.1,fun x hx=> ?_⟩;obtain⟨i,hi,rfl⟩:=zH hx;have:=h.2 i hi;simp only[Ip,I hi,zB] at this
 exact this.1
def AE(x:X1)(s:X6):Q:=if s.Slow=T then yL .i64 (2*x.Minutes) else x.Minutes
theorem LF(x:X1)(s:X6):Eb x s=E (AE x s):=by unfold Eb AE; split<;>rfl
theorem Nd(x:X1)(s:X6):EU s x=E (AE x s):=by unfold EU AE; split<;>rfl
def Am(c:X0)(i:Q):X1:=c.Segments[i.toNat]?.getD ⟨0,0,0,0,F⟩
def B2(l:G X6)(i:Q):X6:=l[i.toNat]?.getD ⟨[],0,0,0,0,F⟩
theorem Ni{α:Type}{l:G α}{i:Q}(d:α)(h:idx i l.length=T):ix l i=E (l[i.toNat]?.getD d)∧l[i.toNat]?.getD d∈l:=by
 simp only[idx,zB,decide_eq_true_eq] at h;obtain⟨k,rfl⟩:∃k:X,i=(k:Q):=⟨i.toNat,by omega⟩;have hk:k<l.length:=by omega
 have e:l[((k:X):Q).toNat]?.getD d=l[k]:=by simp[hk]
 rw[At hk,e];exact⟨Z,zE hk⟩
theorem C8{c:X0}{i:Q}(h:idx i c.Segments.length=T):ix c.Segments i=E (Am c i)∧Am c i∈c.Segments:=Ni _ h
theorem TA{l:G X6}{i:Q}(h:idx i l.length=T):ix l i=E (B2 l i)∧B2 l i∈l:=Ni _ h
theorem CO(i:Q){n:X}(h:n≤1000):Ax i 0 (yL .i64 ((n:Q) - 1))=E (idx i n):=by rw[BM,Pc i h]
theorem Ee(i:Q)(n:X):BI i (n:Q)=E (idx i n):=Nf i n
theorem pf{xs:G X6}(h:xs.length≤1048576):Kt xs=E xs:=by
 unfold Kt;rw[H5 h (by omega)];have:=FR (L:=GD xs) xs id (Ej h) (fun n i acc hi ha=>by simp[GD,Ao,hi,ha,ME]) (fun n acc=>by simp[GD]) (zT xs.length ⟨[],0,0,0,0,F⟩) (by simp);simpa using this
theorem dX(x y:X6):K5 x y=E (decide (x=y)):=by
 unfold K5;cases x; cases y;simp only[X6.mk.injEq];repeat' split
 all_goals simp_all
theorem dW{xs ys:G X6}(h:xs.length≤maxLen):K6 xs ys=E (decide (xs=ys)):=by
 unfold K6;by_cases hl:xs.length=ys.length
 ·have:=EK (L:=Gq xs ys) xs ys h hl (fun n i h1 h2=>by simp[Gq,Ao,h1,h2,dX]) (fun n=>by simp[Gq]);simp[hl,this]
 ·have:¬(xs.length:Q)=ys.length:=by omega
  have:xs≠ys:=fun e=>hl (by rw[e])
  simp_all
theorem pH{x:X6}{l:Q}(h0:0≤l)(h1:l≤1048576)(hx:x.Name.length≤maxLen):∃r,Kj x l=E r∧(0≤r→r≤l):=by
 unfold Kj;rw[AI] at hx
 rw[Au (by omega) (by omega)];by_cases h:l - (x.Name.length:Q)<0
 ·exact⟨-1,by simp[h],by omega⟩
 ·exact⟨l - x.Name.length,by simp[h],by omega⟩
theorem pG{xs:G X6}{l:Q}(h0:0≤l)(h1:l≤1048576)(hx:xs.length≤maxLen)(hn:∀x∈xs,x.Name.length≤maxLen):∃r,Kk xs l=E r∧(0≤r→r≤l∧xs.length≤1048576):=by
 unfold Kk;have hx':=hx;rw[AI] at hx'
 rw[Au (by omega) (by omega)];by_cases h:l - (xs.length:Q)<0
 ·exact⟨-1,by simp[h],by omega⟩
 ·have key:∀(k i n:X) (v:Q),i+k=xs.length→k<n→0≤v→v≤l→∃r,F0 xs n v (i:Q)=E r∧(0≤r→r≤l):=by
   intro k
   induction k with
   | zero=>
    intro i n v hi hn2 hv hv2;obtain⟨m,rfl⟩:∃m,n=m+1:=⟨n - 1,by omega⟩;have:i=xs.length:=by omega
    subst this;exact⟨v,by simp[F0],fun _=>hv2⟩
   | succ k ih=>
    intro i n v hi hn2 hv hv2;obtain⟨m,rfl⟩:∃m,n=m+1:=⟨n - 1,by omega⟩;have hlt:i<xs.length:=by omega
    obtain⟨r,e,hr⟩:=pH (x:=xs[i]) hv (by omega) (hn _ (zE hlt));by_cases hr0:r<0
    ·exact⟨-1,by simp[F0,Ao,hlt,e,hr0],by omega⟩
    ·obtain⟨r2,e2,h2⟩:=ih (i+1) m r (by omega) (by omega) (by omega) (by have:=hr (by omega); omega);refine⟨r2,?_,h2⟩;rw[← AK hlt hx] at e2
     simp only[F0,Ao,I hlt,C,Aj,hlt,decide_true,if_true,e,hr0,decide_false,zA,if_false];exact e2
  obtain⟨r,e,hr⟩:=key xs.length 0 bigN (l - xs.length) (by omega) (Bo hx) (by omega) (by omega);refine⟨r,?_,fun h=>⟨hr h,by omega⟩⟩;simp only[h,decide_false,zA,if_false];exact e
theorem nn{xs:G X6}(ok:(D.sl (zY X6.row xs)).Ok):xs.length≤maxLen∧∀x∈xs,x.Name.length≤maxLen:=
 ⟨Fo ok,fun x hx=>(ok.sl.2 (X6.row x) (List.mem_map_of_mem hx) (.str x.Name) (by simp[X6.row_eq])).str⟩
def Et(p:Q):U:=(decide (4≤p)&&decide (p≤2880))&&(yL .i64 (zW p 4)==0)
def Fy(x:Xc):U:=(decide (0≤x.Amp)&&decide (x.Amp≤1000))&&(Et x.Period&&(decide (0≤x.Phase)&&decide (x.Phase≤yL .i64 (x.Period - 1))))
def DJ(t:Xh):U:=(decide (-1000≤t.Mean)&&decide (t.Mean≤1000))&&(decide (t.Parts.length≤4)&&t.Parts.all Fy)
theorem oH(x:Xc):KK x=E (Fy x):=by
 simp only[KK,BM,C,Fy,Et];cases(decide (0≤x.Amp)&&decide (x.Amp≤1000))<;>cases(decide (4≤x.Period)&&decide (x.Period≤2880))<;>cases(yL .i64 (zW x.Period 4)==0)<;>rfl
theorem Tz(p:Q):HY p=E (Et p):=by
 simp only[HY,CJ,C,Et];cases(decide (4≤p)&&decide (p≤2880))<;>rfl
theorem iD(x:Xc):JD x=E (Fy x):=by
 simp only[JD,CJ,Tz,C,Fy];cases(decide (0≤x.Amp)&&decide (x.Amp≤1000))<;>cases Et x.Period<;>rfl
theorem oM(t:Xh):KT t=E (DJ t):=by
 simp only[KT,BM,C,DJ];cases(decide (-1000≤t.Mean)&&decide (t.Mean≤1000)) with
 | false=>rfl
 | true=>
  by_cases h1:t.Parts.length≤4
  ·have h1':¬(4:Q)<t.Parts.length:=by omega
   rw[EE (L:=GU t) t.Parts Fy (by rw[AI]; omega) (fun n i hi=>by simp only[GU,Ao,I hi,C,Aj,hi,decide_true,if_true,oH]) (fun n=>by simp[GU])];simp[h1,h1']
  ·have h1':(4:Q)<t.Parts.length:=by omega
   simp[h1,h1']
theorem iH(t:Xh):JM t=E (DJ t):=by
 simp only[JM,CJ,C,DJ];cases(decide (-1000≤t.Mean)&&decide (t.Mean≤1000)) with
 | false=>rfl
 | true=>
  by_cases h1:t.Parts.length≤4
  ·have h1':¬(4:Q)<t.Parts.length:=by omega
   rw[EE (L:=G8 t) t.Parts Fy (by rw[AI]; omega) (fun n i hi=>by simp only[G8,Ao,I hi,C,Aj,hi,decide_true,if_true,iD]) (fun n=>by simp[G8])];simp[h1,h1']
  ·have h1':(4:Q)<t.Parts.length:=by omega
   simp[h1,h1']
def Ey(x:Xa):U:=(decide (0≤x.From)&&decide (x.From≤2880))&&((decide (-500≤x.Low)&&decide (x.Low≤500))&&(decide (x.Low≤x.High)&&decide (x.High≤500)))
theorem oL(x:Xa):KR x=E (Ey x):=by
 simp only[KR,BM,C,Ey];cases(decide (0≤x.From)&&decide (x.From≤2880))<;>cases(decide (-500≤x.Low)&&decide (x.Low≤500))<;>rfl
theorem iG(x:Xa):JL x=E (Ey x):=by
 simp only[JL,IC,C,Ey];cases(decide (0≤x.From)&&decide (x.From≤2880))
 ·rfl
 ·by_cases a1: -500≤x.Low<;>by_cases a2:x.Low≤x.High<;>by_cases a3:x.High≤500<;>by_cases a4:x.Low≤500<;>simp[a1,a2,a3,a4]
  omega
def Hg(l:G Xa)(i:X):U:=match l[i]? with
 | some x=>Ey x&&(match i with | 0=>T | j+1=>match l[j]? with | some y=> !(decide (x.From≤y.From)) | none=>F)
 | none=>F
def PS(l:G Xa):U:=match l[0]? with
 | some x=>decide (x.From=0)
 | none=>F
def CC(f:Xb):U:=DJ f.Tide&&((decide (1≤(f.Surges.length:Q))&&decide ((f.Surges.length:Q)≤6))&&(PS f.Surges&&(zF f.Surges.length).all (Hg f.Surges)))
theorem VR(j:X)(h:j≤1000):yL .i64 (((j+1:X):Q) - 1)=(j:Q):=by
 rw[Au (by omega) (by omega)];omega
theorem UE(f:Xb):Ii f=E (CC f):=by
 simp only[Ii,oM,BM,C,CC];cases DJ f.Tide with
 | false=>rfl
 | true=>
  cases hb:(decide (1≤(f.Surges.length:Q))&&decide ((f.Surges.length:Q)≤6)) with
  | false=>rfl
  | true=>
   simp only[zB,decide_eq_true_eq] at hb
   have h0:0<f.Surges.length:=by omega
   have hl:f.Surges.length≤maxLen:=by rw[AI]; omega
   rw[EF (L:=F2 f) f.Surges.length (Hg f.Surges) (E T) hl (fun n i hi=> ?_) (fun n=>by simp[F2])]
   ·have e0:ix f.Surges 0=E f.Surges[0]:=At h0;simp only[e0,C,PS,I h0,zO,if_true];by_cases e:f.Surges[0].From=0<;>cases(zF f.Surges.length).all (Hg f.Surges)<;>simp[e]
   ·simp only[F2,Ao,I hi,C,Aj,hi,decide_true,if_true,oL,Hg];cases i with
    | zero=>cases Ey f.Surges[0]<;>simp
    | succ j=>
     have hj:j<f.Surges.length:=by omega
     rw[VR j (by omega)];simp only[Ao,I hj,C];have hp:(0:Q)<((j+1:X):Q):=by omega
     cases Ey f.Surges[j+1]<;>cases decide (f.Surges[j+1].From≤f.Surges[j].From)<;>simp
theorem L9(f:Xb):EP f=E (CC f):=by
 simp only[EP,iH,CJ,C,CC];cases DJ f.Tide with
 | false=>rfl
 | true=>
  cases hb:(decide (1≤(f.Surges.length:Q))&&decide ((f.Surges.length:Q)≤6)) with
  | false=>rfl
  | true=>
   simp only[zB,decide_eq_true_eq] at hb
   have h0:0<f.Surges.length:=by omega
   have hl:f.Surges.length≤maxLen:=by rw[AI]; omega
   rw[EF (L:=EQ f) f.Surges.length (Hg f.Surges) (E T) hl (fun n i hi=> ?_) (fun n=>by simp[EQ])]
   ·have e0:ix f.Surges 0=E f.Surges[0]:=At h0;simp only[e0,C,PS,I h0,zO,if_true];by_cases e:f.Surges[0].From=0<;>cases(zF f.Surges.length).all (Hg f.Surges)<;>simp[e]
   ·simp only[EQ,Ao,I hi,C,Aj,hi,decide_true,if_true,iG,Hg];cases i with
    | zero=>cases Ey f.Surges[0]<;>simp
    | succ j=>
     have hj:j<f.Surges.length:=by omega
     rw[VR j (by omega)];simp only[Ao,I hj,C];have hp:(0:Q)<((j+1:X):Q):=by omega
     cases Ey f.Surges[j+1]<;>cases decide (f.Surges[j+1].From≤f.Surges[j].From)<;>simp
def DD(m:Q):U:=decide (0≤m)&&decide (m≤2880)
theorem pY{xs:G Xc}(h:xs.length≤1048576):Kq xs=E xs:=by
 unfold Kq;rw[H5 h (by omega)];have:=FR (L:=GA xs) xs id (Ej h) (fun n i acc hi ha=>by simp[GA,Ao,hi,ha,MA]) (fun n acc=>by simp[GA]) (zT xs.length ⟨0,0,0⟩) (by simp);simpa using this
theorem pg{xs:G Xa}(h:xs.length≤1048576):Ku xs=E xs:=by
 unfold Ku;rw[H5 h (by omega)];have:=FR (L:=GE xs) xs id (Ej h) (fun n i acc hi ha=>by simp[GE,Ao,hi,ha,MF]) (fun n acc=>by simp[GE]) (zT xs.length ⟨0,0,0⟩) (by simp);simpa using this
theorem pV{f:Xb}(h1:f.Tide.Parts.length≤1048576)(h2:f.Surges.length≤1048576):Kn f=E f:=by
 simp[Kn,MG,pY h1,pg h2]
theorem dP(x y:Xc):JX x y=E (decide (x=y)):=by
 unfold JX;cases x; cases y;simp only[Xc.mk.injEq];repeat' split
 all_goals simp_all
theorem dO{xs ys:G Xc}(h:xs.length≤maxLen):JY xs ys=E (decide (xs=ys)):=by
 unfold JY;by_cases hl:xs.length=ys.length
 ·have:=EK (L:=Gl xs ys) xs ys h hl (fun n i h1 h2=>by simp[Gl,Ao,h1,h2,dP]) (fun n=>by simp[Gl]);simp[hl,this]
 ·have:¬(xs.length:Q)=ys.length:=by omega
  have:xs≠ys:=fun e=>hl (by rw[e])
  simp_all
theorem dZ(x y:Xa):K7 x y=E (decide (x=y)):=by
 unfold K7;cases x; cases y;simp only[Xa.mk.injEq];repeat' split
 all_goals simp_all
theorem dY{xs ys:G Xa}(h:xs.length≤maxLen):K9 xs ys=E (decide (xs=ys)):=by
 unfold K9;by_cases hl:xs.length=ys.length
 ·have:=EK (L:=Gr xs ys) xs ys h hl (fun n i h1 h2=>by simp[Gr,Ao,h1,h2,dZ]) (fun n=>by simp[Gr]);simp[hl,this]
 ·have:¬(xs.length:Q)=ys.length:=by omega
  have:xs≠ys:=fun e=>hl (by rw[e])
  simp_all
theorem dG{f:Xb}(h1:f.Tide.Parts.length≤maxLen)(h2:f.Surges.length≤maxLen):JT f f=E T:=by
 simp[JT,Mv,dO h1,dY h2]
theorem pC{xs:G Xc}{l:Q}(h0:0≤l)(h1:l≤1048576)(hx:xs.length≤maxLen):∃r,Ke xs l=E r∧(0≤r→r≤l∧xs.length≤1048576):=by
 unfold Ke;rw[AI] at hx
 rw[Au (by omega) (by omega)];by_cases h:l - (xs.length:Q)<0
 ·exact⟨-1,by simp[h],by omega⟩
 ·exact⟨l - xs.length,by simp[h],by omega⟩
theorem pJ{xs:G Xa}{l:Q}(h0:0≤l)(h1:l≤1048576)(hx:xs.length≤maxLen):∃r,Kl xs l=E r∧(0≤r→r≤l∧xs.length≤1048576):=by
 unfold Kl;rw[AI] at hx
 rw[Au (by omega) (by omega)];by_cases h:l - (xs.length:Q)<0
 ·exact⟨-1,by simp[h],by omega⟩
 ·exact⟨l - xs.length,by simp[h],by omega⟩
theorem oy{f:Xb}{l:Q}(h0:0≤l)(h1:l≤1048576)(hp:f.Tide.Parts.length≤maxLen)(hs:f.Surges.length≤maxLen) :
  ∃r,Kc f l=E r∧(0≤r→r≤l∧f.Tide.Parts.length≤1048576∧f.Surges.length≤1048576):=by
 unfold Kc Mx;obtain⟨r,e,h⟩:=pC h0 h1 hp;by_cases hr:r<0
 ·exact⟨-1,by simp[e,hr],by omega⟩
 ·obtain⟨k1,k2⟩:=h (by omega);obtain⟨r',e',h'⟩:=pJ (xs:=f.Surges) (l:=r) (by omega) (by omega) hs;by_cases hr':r'<0
  ·exact⟨-1,by simp[e,hr,e',hr'],by omega⟩
  ·obtain⟨k3,k4⟩:=h' (by omega);exact⟨r',by simp[e,hr,e',hr'],fun _=>⟨by omega,k2,k4⟩⟩
def HH(w:Xj):U:=(decide (0≤w.Tugs)&&decide (w.Tugs≤12))&&((decide (0≤w.Pilots)&&decide (w.Pilots≤12))&&(DD w.Rest&&(decide (w.Moves.length=64)&&w.Moves.all fun x=>decide (0≤x)&&decide (x≤240))))
theorem Nc(a b:U):(if a=T then E b else E F)=E (a&&b):=by cases a<;>rfl
theorem lb{l:G Q}(h:l.length≤maxLen):Fe l bigN 0=E (l.all fun x=>decide (0≤x)&&decide (x≤240)):=
 EE (L:=Fe l) l _ h (fun n i hi=>by simp[Fe,Ao,hi,BM]) (fun n=>by simp[Fe])
theorem la{l:G Q}(h:l.length≤maxLen):EV l bigN 0=E (l.all fun x=>decide (0≤x)&&decide (x≤240)):=
 EE (L:=EV l) l _ h (fun n i hi=>by simp[EV,Ao,hi,CJ]) (fun n=>by simp[EV])
theorem oA{w:Xj}(h:w.Moves.length≤maxLen):Kz w=E (HH w):=by
 simp only[Kz,MV,BM,C,lb h,HH,DD];by_cases e:w.Moves.length=64
 ·have e':((w.Moves.length:Q) !=64)=F:=by simp; omega
  simp only[e,e',zA,if_false,decide_true,zO];cases(decide (0≤w.Tugs)&&decide (w.Tugs≤12))<;>cases(decide (0≤w.Pilots)&&decide (w.Pilots≤12))<;>cases(decide (0≤w.Rest)&&decide (w.Rest≤2880))<;>rfl
 ·have e':((w.Moves.length:Q) !=64)=T:=by simp; omega
  simp only[e,e',if_true,decide_false,Bool.false_and,Bool.and_false];cases(decide (0≤w.Tugs)&&decide (w.Tugs≤12))<;>cases(decide (0≤w.Pilots)&&decide (w.Pilots≤12))<;>cases(decide (0≤w.Rest)&&decide (w.Rest≤2880))<;>rfl
theorem hT{w:Xj}(h:w.Moves.length≤maxLen):Jq w=E (HH w):=by
 simp only[Jq,Mq,CJ,IC,C,la h,HH,DD];by_cases e:w.Moves.length=64
 ·have e':((w.Moves.length:Q) !=64)=F:=by simp; omega
  simp only[e,e',zA,if_false,decide_true,zO,C];cases(decide (0≤w.Tugs)&&decide (w.Tugs≤12))<;>cases(decide (0≤w.Pilots)&&decide (w.Pilots≤12))<;>cases(decide (0≤w.Rest)&&decide (w.Rest≤2880))<;>rfl
 ·have e':((w.Moves.length:Q) !=64)=T:=by simp; omega
  simp only[e,e',if_true,decide_false,Bool.false_and,Bool.and_false,C];cases(decide (0≤w.Tugs)&&decide (w.Tugs≤12))<;>cases(decide (0≤w.Pilots)&&decide (w.Pilots≤12))<;>cases(decide (0≤w.Rest)&&decide (w.Rest≤2880))<;>rfl
def NG(r:Xi):U:=decide (0≤r.Gap)&&decide (r.Gap≤60)
def Cp(h:X9):U:=CC h.Forecast&&(AW h.Chart&&(Fj h.Fleet&&(NG h.Regime&&HH h.Crew)))
structure HSmall (h:X9):Prop where
 pn:∀x∈h.Chart.Points,x.Name.length≤maxLen
 fn:∀x∈h.Fleet,x.Name.length≤maxLen
 mv:h.Crew.Moves.length≤maxLen
theorem oC{h:X9}(s:HSmall h):KC h=E (Cp h):=by
 simp only[KC,MO,UE,DI s.pn,oB s.fn,oA s.mv,BM,C,Nc,Cp,NG]
theorem hZ{h:X9}(s:HSmall h):Ju h=E (Cp h):=by
 simp only[Ju,Ml,L9,Ef s.pn,hU s.fn,hT s.mv,CJ,C,Nc,Cp,NG]
theorem IR{c:X0}(h:AW c=T):c.Points.length≤8∧c.Segments.length≤10∧∀x∈c.Segments,0≤x.Depth∧x.Depth≤3000∧1≤x.Minutes∧x.Minutes≤240:=by
 simp only[AW,zB,decide_eq_true_eq,zZ,yK] at h;obtain⟨h1,h2,h3,h4⟩:=h;refine⟨h1,h2,fun x hx=> ?_⟩;obtain⟨i,hi,rfl⟩:=zH hx;have:=h4 i hi;simp only[De,I hi,zB,decide_eq_true_eq] at this
 omega
def U9(c:X0)(fl:G X6)(p:X3):U:=idx p.Ship fl.length&&(idx p.Segment c.Segments.length&&(DD p.Start&&(decide (p.End≤2880)&&decide (p.End=yL .i64 (p.Start+AE (Am c p.Segment) (B2 fl p.Ship))))))
theorem oF{c:X0}{s:X6}{i:Q}(hn:∀x∈c.Points,x.Name.length≤maxLen)(hs:s.Name.length≤maxLen)(h1:AW c=T)(h2:Cd s=T)(h3:idx i c.Segments.length=T):KH c i s=E (AE (Am c i) s):=by
 have:=(IR h1).2.1;unfold KH;simp only[DI hn,IT hs,h1,h2,C,if_true,CO i (show c.Segments.length≤1000 by omega),h3,(C8 h3).1,LF]
theorem oz{a:X9}{l:Q}(h0:0≤l)(h1:l≤1048576)(q1:a.Forecast.Tide.Parts.length≤maxLen)(q2:a.Forecast.Surges.length≤maxLen)(q3:a.Chart.Points.length≤maxLen)(q4:a.Chart.Segments.length≤maxLen)(q5:a.Fleet.length≤maxLen)(s:HSmall a) :
  ∃r,Gx a l=E r∧(0≤r→r≤l∧a.Forecast.Tide.Parts.length≤1048576∧a.Forecast.Surges.length≤1048576∧a.Chart.Points.length≤1048576∧a.Chart.Segments.length≤1048576∧a.Fleet.length≤1048576∧a.Crew.Moves.length≤1048576):=by
 unfold Gx Mw;obtain⟨r1,e1,k1⟩:=oy (f:=a.Forecast) h0 h1 q1 q2;by_cases c1:r1<0
 ·exact⟨-1,by simp[e1,c1],by omega⟩
 obtain⟨b1,b2,b3⟩:=k1 (by omega);obtain⟨r2,e2,k2⟩:=ox (c:=a.Chart) (l:=r1) (by omega) (by omega) q3 q4 s.pn;by_cases c2:r2<0
 ·exact⟨-1,by simp[e1,c1,e2,c2],by omega⟩
 obtain⟨b4,b5,b6⟩:=k2 (by omega);obtain⟨r3,e3,k3⟩:=pG (xs:=a.Fleet) (l:=r2) (by omega) (by omega) q5 s.fn;by_cases c3:r3<0
 ·exact⟨-1,by simp[e1,c1,e2,c2,e3,c3],by omega⟩
 obtain⟨b7,b8⟩:=k3 (by omega);obtain⟨r4,e4,k4⟩:=pA (xs:=a.Crew.Moves) (l:=r3) (by omega) (by omega) s.mv;by_cases c4:r4<0
 ·exact⟨-1,by simp[e1,c1,e2,c2,e3,c3,e4,c4],by omega⟩
 obtain⟨b9,b10⟩:=k4 (by omega);exact⟨r4,by simp[e1,c1,e2,c2,e3,c3,e4,c4],fun _=>⟨by omega,b2,b3,b5,b6,b8,b10⟩⟩
theorem Vg{a:X9}(q1:a.Forecast.Tide.Parts.length≤1048576)(q2:a.Forecast.Surges.length≤1048576)(q3:a.Chart.Points.length≤1048576)(q4:a.Chart.Segments.length≤1048576)(q5:a.Fleet.length≤1048576)(q6:a.Crew.Moves.length≤1048576):Ds a=E a:=by
 simp[Ds,MC,Mz,pV q1 q2,pS q3 q4,pf q5,pX q6]
theorem dK{a:X9}(q1:a.Forecast.Tide.Parts.length≤maxLen)(q2:a.Forecast.Surges.length≤maxLen)(q3:a.Chart.Points.length≤maxLen)(q4:a.Chart.Segments.length≤maxLen)(q5:a.Fleet.length≤maxLen)(q6:a.Crew.Moves.length≤maxLen):JU a a=E T:=by
 simp[JU,Mu,Ms,dG q1 q2,dD q3 q4,dW q5,dL q6]
theorem gg{a:X9}(ok:∀d∈X9.row a,d.Ok):a.Forecast.Tide.Parts.length≤maxLen∧a.Forecast.Surges.length≤maxLen∧a.Chart.Points.length≤maxLen∧a.Chart.Segments.length≤maxLen∧a.Fleet.length≤maxLen∧HSmall a:=by
 have h1:=ok (D.sl (zY Xc.row a.Forecast.Tide.Parts)) (by simp[X9.row_eq]);have h2:=ok (D.sl (zY Xa.row a.Forecast.Surges)) (by simp[X9.row_eq]);have h3:=ok (D.sl (zY X8.row a.Chart.Points)) (by simp[X9.row_eq]);have h4:=ok (D.sl (zY X1.row a.Chart.Segments)) (by simp[X9.row_eq]);have h5:=ok (D.sl (zY X6.row a.Fleet)) (by simp[X9.row_eq]);have h6:=ok (D.sl (zY rI a.Crew.Moves)) (by simp[X9.row_eq]);refine⟨Fo h1,Fo h2,Fo h3,Fo h4,Fo h5,⟨fun x hx=> ?_,(nn h5).2,Fo h6⟩⟩;exact(h3.sl.2 (X8.row x) (List.mem_map_of_mem hx) (.str x.Name) (by simp[X8.row_eq])).str
theorem YQ{m n b:X}(h:m+n≤2000000)(hb:b≤1000):A4 m n b=T:=by
 unfold A4;rw[decide_eq_true_eq];have:(m+n)*b≤2000000*1000:=yI h hb;omega
theorem L8{α:Type}{m n b:X}(h:m+n≤2000000)(hb:b≤1000)(x y:α):(if A4 m n b=T then x else y)=x:=by rw[if_pos (YQ h hb)]
section
end
section
variable {B : X → X → U} {N : X} {ms : G X}
end
section
end
section
variable {c : X0} {fl : G X6}
def Mg(c:X0)(p:X3):Q × Q:=if p.Toward=T then((Am c p.Segment).A,(Am c p.Segment).B) else((Am c p.Segment).B,(Am c p.Segment).A)
end
theorem lf{s:G Y}(h:Dy s=T):1≤s.length∧s.length≤8:=by
 simp only[Dy,Lq,zB,decide_eq_true_eq] at h;omega
def LM(x p:Q):Q:=if x<yL .i64 (zI p 2) then
  yL .i64 (zI (yL .i64 (yL .i64 (40000*x)*yL .i64 (yL .i64 (zI p 2) - x))) (yL .i64 (yL .i64 (zI p 2)*yL .i64 (zI p 2))))
 else yL .i64 (0 - yL .i64 (zI (yL .i64 (yL .i64 (40000*yL .i64 (x - yL .i64 (zI p 2)))*yL .i64 (yL .i64 (zI p 2) - yL .i64 (x - yL .i64 (zI p 2))))) (yL .i64 (yL .i64 (zI p 2)*yL .i64 (zI p 2)))))
theorem PI{p:Q}(h:Et p=T):4≤p∧p≤2880∧yL .i64 (zW p 4)=0:=by
 simp only[Et,zB,decide_eq_true_eq,beq_iff_eq] at h;exact⟨h.1.1,h.1.2,h.2⟩
theorem S5{p:Q}(h1:4≤p)(h2:p≤2880):(yL .i64 (yL .i64 (zI p 2)*yL .i64 (zI p 2))==0)=F:=by
 have e:zI p 2=p / 2:=Int.tdiv_eq_ediv_of_nonneg (by omega);rw[e,Au (n:=p / 2) (by omega) (by omega)];generalize hq:p / 2=q
 have q1:2≤q:=by omega
 have q2:q≤1440:=by omega
 have m1:2*2≤q*q:=Int.mul_le_mul q1 q1 (by omega) (by omega);have m2:q*q≤1440*1440:=Int.mul_le_mul q2 q2 (by omega) (by omega);rw[Au (by omega) (by omega)];simp only[beq_eq_false_iff_ne,ne_eq];omega
theorem oN{n p:Q}(hp:Et p=T)(hn:0≤n)(hn2:n≤100000):KU n p=E (LM (zW n p) p):=by
 obtain⟨p1,p2,p3⟩:=PI hp;have hm:zW n p=n % p:=zU hn;have r1:=Int.emod_nonneg n (show p≠0 by omega);have r2:=Int.emod_lt_of_pos n (show 0<p by omega);unfold KU;rw[hm,Au (n:=n % p) (by omega) (by omega),p3];have k1:¬p<4:=by omega
 have k2:¬2880<p:=by omega
 have k3:(p==0)=F:=by simp; omega
 have k4:¬n % p<0:=by omega
 simp only[k1,k2,k3,k4,decide_false,zA,if_false,bne_self_eq_false];unfold KV LM;rw[S5 p1 p2];simp only[zA,if_false,decide_eq_true_eq];split<;>rfl
theorem iI{n p:Q}(hp:Et p=T)(hn:0≤n)(hn2:n≤100000):JN n p=E (LM (zW n p) p):=by
 obtain⟨p1,p2,p3⟩:=PI hp;have hm:zW n p=n % p:=zU hn;have r1:=Int.emod_nonneg n (show p≠0 by omega);have r2:=Int.emod_lt_of_pos n (show 0<p by omega);have k3:(p==0)=F:=by simp; omega
 have hmm:zW (n % p+p) p=n % p:=by
  rw[zU (by omega),Int.add_emod_right,Int.emod_emod]
 unfold JN;rw[Tz,hp,C,hm,Au (n:=n % p) (by omega) (by omega),Au (n:=n % p+p) (by omega) (by omega),hmm,Au (n:=n % p) (by omega) (by omega),S5 p1 p2];simp only[k3,zA,if_false,if_true,decide_eq_true_eq];unfold LM;by_cases hx:n % p<yL .i64 (zI p 2)
 ·rw[if_pos hx,if_neg (by omega)]
 ·rw[if_neg hx,if_pos (by omega)]
theorem ko{t:Xh}{m:Q}(ht:DJ t=T)(h0:0≤m)(h1:m≤2880):∃r,Il t m=E r∧Mp t m=E r:=by
 simp only[DJ,zB,decide_eq_true_eq,zZ] at ht
 obtain⟨_,hl,hp⟩:=ht;have hlm:t.Parts.length≤maxLen:=by rw[AI]; omega
 have key:∀(k i n:X) (v:Q),i+k=t.Parts.length→k<n→∃r,GV m t n v (i:Q)=E r∧G9 m t n v (i:Q)=E r:=by
  intro k
  induction k with
  | zero=>
   intro i n v hi hn;obtain⟨q,rfl⟩:∃q,n=q+1:=⟨n - 1,by omega⟩;have:i=t.Parts.length:=by omega
   subst this;exact⟨v,by simp[GV],by simp[G9]⟩
  | succ k ih=>
   intro i n v hi hn;obtain⟨q,rfl⟩:∃q,n=q+1:=⟨n - 1,by omega⟩;have hlt:i<t.Parts.length:=by omega
   have hx:=hp _ (zE hlt);simp only[Fy,zB,decide_eq_true_eq] at hx
   obtain⟨_,hx1,hx2,hx3⟩:=hx;obtain⟨p1,p2,_⟩:=PI hx1;rw[Au (by omega) (by omega)] at hx3
   have hw:=Au (n:=m+t.Parts[i].Phase) (by omega) (by omega);obtain⟨r,e1,e2⟩:=ih (i+1) q (yL .i64 (v+yL .i64 (zI (yL .i64 (t.Parts[i].Amp*LM (zW (m+t.Parts[i].Phase) t.Parts[i].Period) t.Parts[i].Period)) 10000))) (by omega) (by omega);rw[← AK hlt hlm] at e1 e2
   refine⟨r,?_,?_⟩
   ·simp only[GV,Ao,I hlt,C,Aj,hlt,decide_true,if_true,hw,oN hx1 (show 0≤m+t.Parts[i].Phase by omega) (by omega)];exact e1
   ·simp only[G9,Ao,I hlt,C,Aj,hlt,decide_true,if_true,hw,iI hx1 (show 0≤m+t.Parts[i].Phase by omega) (by omega)];exact e2
 exact key t.Parts.length 0 bigN t.Mean (by omega) (Bo hlm)
theorem dw{f:Xb}(h:CC f=T):DJ f.Tide=T∧0<f.Surges.length∧f.Surges.length≤6:=by
 simp only[CC,zB,decide_eq_true_eq] at h;refine⟨h.1,?_,?_⟩<;>omega
theorem ow{f:Xb}{m:Q}(h0:0<f.Surges.length)(h6:f.Surges.length≤6):∃(a:X) (ha:a<f.Surges.length),Jt f m=E (a:Q)∧GW f m=E f.Surges[a]:=by
 have hl:f.Surges.length≤maxLen:=by rw[AI]; omega
 have key:∀(k i n a:X) (ha:a<f.Surges.length),i+k=f.Surges.length→k<n→∃(a':X) (ha':a'<f.Surges.length),DQ m f n (a:Q) (i:Q)=E (a':Q)∧
   Ea m f n (i:Q) f.Surges[a].From f.Surges[a].Low f.Surges[a].High=E f.Surges[a']:=by
  intro k
  induction k with
  | zero=>
   intro i n a ha hi hn;obtain⟨q,rfl⟩:∃q,n=q+1:=⟨n - 1,by omega⟩;have:i=f.Surges.length:=by omega
   subst this;exact⟨a,ha,by simp[DQ],by simp[Ea]⟩
  | succ k ih=>
   intro i n a ha hi hn;obtain⟨q,rfl⟩:∃q,n=q+1:=⟨n - 1,by omega⟩;have hlt:i<f.Surges.length:=by omega
   by_cases hm:f.Surges[i].From≤m
   ·obtain⟨a',ha',e1,e2⟩:=ih (i+1) q i hlt (by omega) (by omega);rw[← AK hlt hl] at e1 e2
    refine⟨a',ha',?_,?_⟩
    ·simp only[DQ,Ao,I hlt,C,Aj,hlt,decide_true,if_true,hm];exact e1
    ·simp only[Ea,Ao,I hlt,C,Aj,hlt,decide_true,if_true,hm];exact e2
   ·obtain⟨a',ha',e1,e2⟩:=ih (i+1) q a ha (by omega) (by omega);rw[← AK hlt hl] at e1 e2
    refine⟨a',ha',?_,?_⟩
    ·simp only[DQ,Ao,I hlt,C,Aj,hlt,decide_true,if_true,hm,decide_false,zA,if_false];exact e1
    ·simp only[Ea,Ao,I hlt,C,Aj,hlt,decide_true,if_true,hm,decide_false,zA,if_false];exact e2
 obtain⟨a,ha,e1,e2⟩:=key f.Surges.length 0 bigN 0 h0 (by omega) (Bo hl);have z:((0:X):Q)=0:=rfl;rw[z] at e1 e2
 have e0:ix f.Surges 0=E f.Surges[0]:=At h0;refine⟨a,ha,?_,?_⟩
 ·unfold Jt;exact e1
 ·unfold GW;rw[e0,C];exact e2
def PQ(s:X6):Q:=if s.Slow=T then yL .i64 (zI s.Draught 50) else yL .i64 (zI s.Draught 20)
def H9(c:X0)(i:Q)(s:X6):Q:=yL .i64 (yL .i64 (yL .i64 (s.Draught+PQ s)+50) - (Am c i).Depth)
theorem oE{c:X0}{s:X6}{i:Q}(hn:∀x∈c.Points,x.Name.length≤maxLen)(hs:s.Name.length≤maxLen)(h1:AW c=T)(h2:Cd s=T)(h3:idx i c.Segments.length=T):KG c i s=E (H9 c i s):=by
 have:=(IR h1).2.1;unfold KG H0 MN MR;simp only[DI hn,IT hs,h1,h2,C,if_true,CO i (show c.Segments.length≤1000 by omega),h3,(C8 h3).1,H9,PQ];cases s.Slow<;>rfl
theorem iB{c:X0}{s:X6}{i:Q}(hn:∀x∈c.Points,x.Name.length≤maxLen)(hs:s.Name.length≤maxLen)(h1:AW c=T)(h2:Cd s=T)(h3:idx i c.Segments.length=T):Jz c i s=E (H9 c i s):=by
 unfold Jz Gb Mm Mn;simp only[Ef hn,Fl hs,h1,h2,C,if_true,Ee,h3,(C8 h3).1,H9,PQ];cases s.Slow<;>rfl
def LN(l:G X2)(i:X):U:=match l[i]? with
 | some x=>decide (0≤x.From)&&(decide (x.From≤x.To)&&(decide (x.To≤2880)&&(match l[i - 1]? with | some y=>decide (i=0) || !(decide (x.From≤yL .i64 (y.To+1))) | none=>T)))
 | none=>F
def LO(l:G X2):U:=(zF l.length).all (LN l)
theorem Ue{α:Type}{l:G α}{i:X}(h0:0<i)(hi:i<l.length)(hl:l.length≤maxLen):ix l (yL .i64 ((i:Q) - 1))=E (l[i - 1]'(by omega)):=by
 rw[AI] at hl
 rw[Au (by omega) (by omega),show(i:Q) - 1=((i - 1:X):Q) by omega,At (by omega)]
theorem UG{l:G X2}(hl:l.length≤maxLen):Ik l=E (LO l):=by
 unfold Ik LO;refine J9 (L:=E9 l) l.length (LN l) hl (fun n i hi=> ?_) (fun n=>by simp[E9]);have hp:i - 1<l.length:=by omega
 simp only[E9,Aj,hi,decide_true,if_true,At hi,C,BM,LN,I hi,I hp];generalize E9 l n (yL .i64 ((i:Q)+1))=K
 by_cases h0:i=0
 ·subst h0;have hz:¬(0:Q)<((0:X):Q):=by omega
  simp only[hz,decide_false,zA,if_false,decide_true,Bool.true_or];by_cases a1:0≤l[0].From<;>by_cases a2:l[0].From≤l[0].To<;>by_cases a3:l[0].To≤2880<;>by_cases a4:l[0].From≤2880<;>simp[a1,a2,a3,a4]<;>omega
 ·have hz:(0:Q)<(i:Q):=by omega
  simp only[hz,decide_true,if_true,Ue (by omega) hi hl,C,h0,decide_false,Bool.false_or];by_cases a1:0≤l[i].From<;>by_cases a2:l[i].From≤l[i].To<;>by_cases a3:l[i].To≤2880<;>by_cases a4:l[i].From≤2880<;>by_cases a5:l[i].From≤yL .i64 (l[i - 1].To+1)<;>simp[a1,a2,a3,a4,a5]<;>omega
theorem Tj{l:G X2}(hl:l.length≤maxLen):HW l=E (LO l):=by
 unfold HW LO;refine J9 (L:=DT l) l.length (LN l) hl (fun n i hi=> ?_) (fun n=>by simp[DT]);have hp:i - 1<l.length:=by omega
 simp only[DT,Aj,hi,decide_true,if_true,At hi,C,LN,I hi,I hp];generalize DT l n (yL .i64 ((i:Q)+1))=K
 have b1:decide (l[i].From<0)= !decide (0≤l[i].From):=by rw[zM]; simp
 have b2:decide (l[i].To<l[i].From)= !decide (l[i].From≤l[i].To):=by rw[zM]; simp
 have b3:decide (2880<l[i].To)= !decide (l[i].To≤2880):=by rw[zM]; simp
 rw[b1,b2,b3];by_cases h0:i=0
 ·subst h0;have hz:¬(0:Q)<((0:X):Q):=by omega
  simp only[hz,decide_false,zA,if_false,decide_true,Bool.true_or];cases decide (0≤l[0].From)<;>cases decide (l[0].From≤l[0].To)<;>cases decide (l[0].To≤2880)<;>rfl
 ·have hz:(0:Q)<(i:Q):=by omega
  simp only[hz,decide_true,if_true,Ue (by omega) hi hl,C,h0,decide_false,Bool.false_or];cases decide (0≤l[i].From)<;>cases decide (l[i].From≤l[i].To)<;>cases decide (l[i].To≤2880)<;>cases decide (l[i].From≤yL .i64 (l[i - 1].To+1))<;>rfl
def Cr(g:X→U)(n:X):U:=decide (0<n)&&g (n - 1)
def NL(v:G X2)(n:Q):G X2:=v.dropLast++ [⟨(v.getLast?.getD ⟨0,0⟩).From,n⟩]
def AQ(g:X→U):X→G X2
 | 0=> []
 | n+1=>if g n=T then(if Cr g n=T then NL (AQ g n) (n:Q) else AQ g n++ [⟨(n:Q),(n:Q)⟩]) else AQ g n
theorem U0(g:X→U)(n:X):Cr g (n+1)=g n:=by simp[Cr]
theorem PP(l:G X2)(x:X2)(n:Q):NL (l++ [x]) n=l++ [⟨x.From,n⟩]:=by simp[NL]
theorem NY(g:X→U):∀n,(AQ g n).length≤n∧(Cr g n=T→∃l x,AQ g n=l++ [x]∧x.To=(n:Q) - 1)∧(Cr g n=F→AQ g n= []∨∃l x,AQ g n=l++ [x]∧x.To<(n:Q) - 1)
 | 0=>⟨by simp[AQ],by simp[Cr],fun _=> .inl rfl⟩
 | n+1=>by
  obtain⟨h1,h2,h3⟩:=NY g n;rw[U0];by_cases hg:g n=T
  ·by_cases ho:Cr g n=T
   ·obtain⟨l,x,e,ht⟩:=h2 ho;have ew:AQ g (n+1)=l++ [⟨x.From,(n:Q)⟩]:=by simp only[AQ,hg,if_true,ho,e,PP]
    refine⟨by rw[ew]; rw[e] at h1; simp at h1 ⊢; omega,fun _=>⟨l,_,ew,by simp only; omega⟩,fun h=>by rw[hg] at h; cases h⟩
   ·have ew:AQ g (n+1)=AQ g n++ [⟨(n:Q),(n:Q)⟩]:=by simp only[AQ,hg,if_true,ho,if_false]; rfl
    refine⟨by rw[ew]; simp; omega,fun _=>⟨_,_,ew,by simp only; omega⟩,fun h=>by rw[hg] at h; cases h⟩
  ·have ew:AQ g (n+1)=AQ g n:=by simp[AQ,hg]
   rw[ew];refine⟨by omega,fun h=>absurd h hg,fun _=> ?_⟩;cases ho:Cr g n with
   | true=>
    obtain⟨l,x,e,ht⟩:=h2 ho;exact .inr ⟨l,x,e,by omega⟩
   | false=>
    rcases h3 ho with e|⟨l,x,e,ht⟩
    ·exact .inl e
    ·exact .inr ⟨l,x,e,by omega⟩
theorem VO{g g':X→U}:∀n,(∀j,j<n→g j=g' j)→AQ g n=AQ g' n
 | 0,_=>rfl
 | n+1,h=>by
  have e1:Cr g n=Cr g' n:=by
   unfold Cr;by_cases h0:0<n
   ·rw[h (n - 1) (by omega)]
   ·simp[h0]
  simp only[AQ,h n (by omega),e1,VO n fun j hj=>h j (by omega)]
theorem Nw{l:G X2}{x:X2}(h:l.length≤100000):ix (l++ [x]) (yL .i64 (((l++ [x]).length:Q) - 1))=E x∧Int.toNat (yL .i64 (((l++ [x]).length:Q) - 1))=l.length:=by
 have e:yL .i64 (((l++ [x]).length:Q) - 1)=((l.length:X):Q):=by
  rw[Au (by simp<;>omega) (by simp<;>omega)];simp
 rw[e];exact⟨by rw[At (by simp)]; simp,by simp⟩
theorem oG{L:G U}(hl:L.length≤3000):KY L=E (AQ (fun i=>L.getD i F) L.length):=by
 unfold KY
 have key:∀(k i n:X),i+k=L.length→k<n→Dv L n (i:Q) (AQ (fun i=>L.getD i F) i)=E (AQ (fun i=>L.getD i F) L.length):=by
  intro k
  induction k with
  | zero=>
   intro i n hi hn;obtain⟨m,rfl⟩:∃m,n=m+1:=⟨n - 1,by omega⟩;have:i=L.length:=by omega
   subst this;simp[Dv]
  | succ k ih=>
   intro i n hi hn;obtain⟨m,rfl⟩:∃m,n=m+1:=⟨n - 1,by omega⟩;have hlt:i<L.length:=by omega
   have ih':=ih (i+1) m (by omega) (by omega);have hw:=AK hlt (show L.length≤maxLen by rw[AI]; omega);obtain⟨w1,w2,w3⟩:=NY (fun i=>L.getD i F) i;have hgi:L.getD i F=L[i]:=by simp[hlt]
   rw[AQ] at ih'
   simp only[hgi] at ih'
   simp only[Dv,Aj,hlt,decide_true,if_true,At hlt,C];have hwm:yL .i64 ((i:Q) - 1)=(i:Q) - 1:=Au (by omega) (by omega);generalize hwi:AQ (fun i=>L.getD i F) i=v at *
   cases hb:L[i] with
   | false=>
    rw[hb] at ih'
    simp only[zA,if_false] at ih' ⊢
    rw[hw];exact ih'
   | true=>
    rw[hb] at ih'
    simp only[if_true] at ih' ⊢
    cases ho:Cr (fun i=>L.getD i F) i with
    | true=>
     rw[ho] at ih'
     obtain⟨l,x,rfl,ht⟩:=w2 ho;obtain⟨q1,q2⟩:=Nw (l:=l) (x:=x) (by simp at w1; omega);have hpos:0<(l++ [x]).length:=by simp
     have hpos':decide ((0:Q)<((l++ [x]).length:Q))=T:=decide_eq_true (by omega);rw[if_pos hpos',q1];simp only[C,GX,hwm,ht,beq_self_eq_true,if_true,q1,q2];rw[hw];simp only[if_true,PP] at ih'
     simpa using ih'
    | false=>
     rw[ho] at ih'
     simp only[zA,if_false] at ih'
     have fin:∀w:G X2,w=v→GX (i:Q) L w (Dv L m) F=E (AQ (fun i=>L.getD i F) L.length):=by
      rintro w rfl
      simp only[GX,zA,if_false];rw[L8 (by simp; omega) (by omega),hw];exact ih'
     rcases w3 ho with rfl|⟨l,x,rfl,ht⟩
     ·exact fin [] rfl
     ·obtain⟨q1,q2⟩:=Nw (l:=l) (x:=x) (by simp at w1; omega);have hpos':decide ((0:Q)<((l++ [x]).length:Q))=T:=decide_eq_true (by simp<;>omega);have hne:(x.To==(i:Q) - 1)=F:=by simp<;>omega
      rw[if_pos hpos',q1];simp only[C,hwm,hne];exact fin _ Z
 exact key L.length 0 bigN (by omega) (Bo (by rw[AI]; omega))
theorem iC{a0:Q→O U}{g:X→U}(h:∀i:X,i≤2880→a0 (i:Q)=E (g i)):JQ a0=E (AQ g 2881):=by
 unfold JQ
 have key:∀(k i n:X),i+k=2881→k<n→DU a0 n (Cr g i) (i:Q) (AQ g i)=E (AQ g 2881):=by
  intro k
  induction k with
  | zero=>
   intro i n hi hn;obtain⟨m,rfl⟩:∃m,n=m+1:=⟨n - 1,by omega⟩;have:i=2881:=by omega
   subst this;simp[DU]
  | succ k ih=>
   intro i n hi hn;obtain⟨m,rfl⟩:∃m,n=m+1:=⟨n - 1,by omega⟩;have hle:decide ((i:Q)≤2880)=T:=decide_eq_true (by omega);have ih':=ih (i+1) m (by omega) (by omega);have hw:yL .i64 ((i:Q)+1)=((i+1:X):Q):=AK (n:=2881) (by omega) (by rw[AI]; omega);obtain⟨w1,w2,w3⟩:=NY g i;rw[U0,AQ] at ih'
   simp only[DU,hle,if_true,h i (by omega),C];generalize hwi:AQ g i=v at *
   cases hb:g i with
   | false=>
    rw[hb] at ih'
    simp only[zA,if_false,Gh] at ih' ⊢
    rw[hw];exact ih'
   | true=>
    rw[hb] at ih'
    simp only[if_true] at ih' ⊢
    cases ho:Cr g i with
    | true=>
     rw[ho] at ih'
     obtain⟨l,x,rfl,ht⟩:=w2 ho;obtain⟨q1,q2⟩:=Nw (l:=l) (x:=x) (by simp at w1; omega);simp only[if_true,HZ,q1,C,Gh,q2];rw[hw];simp only[if_true,PP] at ih'
     simpa using ih'
    | false=>
     rw[ho] at ih'
     simp only[zA,if_false] at ih' ⊢
     rw[L8 (by simp; omega) (by omega)];obtain⟨q1,q2⟩:=Nw (l:=v) (x:=⟨(i:Q),0⟩) (by omega);simp only[HZ,q1,C,Gh,q2];rw[hw];simpa using ih'
 have:=key 2881 0 bigN (by omega) (Bo (by rw[AI]; omega));exact this
def CG(f:Xb)(m:X):Q:=yL .i64 ((Il f.Tide (m:Q)).getD 0+((GW f (m:Q)).getD ⟨0,0,0⟩).Low)
theorem TF{f:Xb}(hf:CC f=T){m:X}(hm:m≤2880):∃r x,Il f.Tide (m:Q)=E r∧GW f (m:Q)=E x∧CG f m=yL .i64 (r+x.Low)∧Js f (m:Q)=E (CG f m):=by
 obtain⟨ht,h0,h6⟩:=dw hf;obtain⟨r,r1,r2⟩:=ko ht (show(0:Q)≤(m:Q) by omega) (by omega);obtain⟨a,ha,a1,a2⟩:=ow (m:=(m:Q)) h0 h6;refine⟨r,_,r1,a2,by simp[CG,r1,a2],?_⟩;unfold Js;simp[r2,a1,At ha,CG,r1,a2]
theorem kp{f:Xb}(hf:CC f=T)(lv:Q):KW f lv F=E (AQ (fun i=>decide (lv≤CG f i)) 2881):=by
 unfold KW
 have key:∀(k i n:X),i+k=2881→k<n→F7 lv f n F (i:Q) ((zF i).map fun j=>decide (lv≤CG f j))=E (AQ (fun i=>decide (lv≤CG f i)) 2881):=by
  intro k
  induction k with
  | zero=>
   intro i n hi hn;obtain⟨m,rfl⟩:∃m,n=m+1:=⟨n - 1,by omega⟩;have:i=2881:=by omega
   subst this;have hd:decide (((2881:X):Q)≤2880)=F:=by decide
   simp only[F7,hd,zA,if_false];rw[oG (by simp)];simp only[C,List.length_map,List.length_range];refine congrArg E (VO 2881 fun j hj=> ?_);show(((zF 2881).map fun j=>decide (lv≤CG f j)).getD j F)=_
   rw[List.getD_eq_getElem?_getD,List.getElem?_map,List.getElem?_range hj];rfl
  | succ k ih=>
   intro i n hi hn;obtain⟨m,rfl⟩:∃m,n=m+1:=⟨n - 1,by omega⟩;have hle:decide ((i:Q)≤2880)=T:=decide_eq_true (by omega);have hw:yL .i64 ((i:Q)+1)=((i+1:X):Q):=AK (n:=2881) (by omega) (by rw[AI]; omega);obtain⟨r,x,e1,e2,e3,_⟩:=TF hf (show i≤2880 by omega);simp only[F7,hle,if_true,e2,C,zA,if_false,KX,e1];rw[L8 (by simp; omega) (by omega),hw];have:=ih (i+1) m (by omega) (by omega);rw[List.range_succ,List.map_append] at this
   simpa[e3] using this
 have:=key 2881 0 bigN (by omega) (Bo (by rw[AI]; omega));exact this
theorem lB{f:Xb}(hf:CC f=T)(lv:Q):JA f lv=E (AQ (fun i=>decide (lv≤CG f i)) 2881):=by
 unfold JA;rw[L9,hf];simp only[C,if_true];rw[iC (g:=fun i=>decide (lv≤CG f i)) fun i hi=> ?_]
 ·rfl
 ·obtain⟨_,_,_,_,_,e⟩:=TF hf hi;simp[Mj,e]
theorem VP(g:X→U):∀n,∀w∈AQ g n,0≤w.From∧w.From≤w.To∧w.To<(n:Q)
 | 0,w,h=>by cases h
 | n+1,w,h=>by
  have ih:=VP g n;simp only[AQ] at h;split at h
  ·split at h
   ·unfold NL at h;rcases zN.1 h with h|h
    ·have:=ih w ((List.dropLast_sublist _).subset h); omega
    ·simp only[zJ] at h;subst h;cases e:(AQ g n).getLast? with
     | none=>simp only[Option.getD_none]; omega
     | some x=>have:=ih x (List.mem_of_getLast? e); simp only[Option.getD_some]; omega
   ·rcases zN.1 h with h|h
    ·have:=ih w h; omega
    ·simp only[zJ] at h;subst h;simp only;omega
  ·have:=ih w h; omega
theorem nq(a1:Q)(a0:G X2)(hl:a0.length≤100000)(hb:0≤a1)(hb2:a1≤2880)(hW:∀w∈a0,0≤w.From∧w.From≤w.To∧w.To<(2881:Q)):∃r,E8 a1 a0 bigN 0 []=E r∧DS a1 a0 bigN 0 []=E r∧r.length≤a0.length∧∀w∈r,0≤w.From∧w.From≤w.To∧w.To+a1≤2880:=by
 have key:∀(k i n:X) (acc:G X2),i+k=a0.length→k<n→acc.length≤i→(∀w∈acc,0≤w.From∧w.From≤w.To∧w.To+a1≤2880)→∃r,E8 a1 a0 n (i:Q) acc=E r∧DS a1 a0 n (i:Q) acc=E r∧r.length≤a0.length∧∀w∈r,0≤w.From∧w.From≤w.To∧w.To+a1≤2880:=by
  intro k
  induction k with
  | zero=>
   intro i n acc hi hn ha hq;obtain⟨m,rfl⟩:∃m,n=m+1:=⟨n - 1,by omega⟩;have:i=a0.length:=by omega
   subst this;exact⟨acc,by simp[E8],by simp[DS],ha,hq⟩
  | succ k ih=>
   intro i n acc hi hn ha hq;obtain⟨m,rfl⟩:∃m,n=m+1:=⟨n - 1,by omega⟩;have hlt:i<a0.length:=by omega
   simp only[E8,DS,Aj,hlt,decide_true,if_true,At hlt,C];rw[AK hlt (show a0.length≤maxLen by rw[AI]; omega)];by_cases hc:a1≤yL .i64 (a0[i].To - a0[i].From)
   ·simp only[hc,decide_true,if_true];rw[L8 (by simp; omega) (by omega),L8 (by simp; omega) (by omega)];refine ih (i+1) m _ (by omega) (by omega) (by simp; omega) fun w hw=> ?_
    have hx:=hW _ (zE hlt);rw[Au (n:=a0[i].To - a0[i].From) (by omega) (by omega)] at hc
    rcases zN.1 hw with hw|hw
    ·exact hq w hw
    ·simp only[zJ] at hw
     subst hw;simp only;rw[Au (by omega) (by omega)];omega
   ·simp only[hc,decide_false,zA,if_false];exact ih (i+1) m _ (by omega) (by omega) (by omega) hq
 exact key a0.length 0 bigN [] (by omega) (Bo (by rw[AI]; omega)) (by simp) (fun w h=>by cases h)
theorem oU{f:Xb}{c:X0}{s:X6}{i:Q}(hf:CC f=T)(hn:∀x∈c.Points,x.Name.length≤maxLen)(hs:s.Name.length≤maxLen)(h1:AW c=T)(h2:Cd s=T)(h3:idx i c.Segments.length=T) :
  ∃r,KQ f c i s=E r∧JK f c i s=E r∧r.length≤2881∧∀w∈r,0≤w.From∧w.From≤w.To∧w.To+AE (Am c i) s≤2880:=by
 have hsg:=(IR h1).2.1;have hW:=(NY (fun j=>decide (H9 c i s≤CG f j)) 2881).1;have hB:=VP (fun j=>decide (H9 c i s≤CG f j)) 2881
 have hmb:1≤AE (Am c i) s∧AE (Am c i) s≤480:=by
  obtain⟨_,_,a,b⟩:=(IR h1).2.2 _ (C8 h3).2;unfold AE;split
  ·rw[Au (n:=2*_) (by omega) (by omega)]; omega
  ·omega
 have hmin:JB c i s=E (AE (Am c i) s):=by
  unfold JB;simp only[Ef hn,Fl hs,h1,h2,C,if_true,Ee,h3,(C8 h3).1,Nd]
 have hok1:H0 c i s=E T:=by
  unfold H0;simp only[DI hn,IT hs,h1,h2,C,if_true,CO i (show c.Segments.length≤1000 by omega),h3]
 have hok2:Gb c i s=E T:=by
  unfold Gb;simp only[Ef hn,Fl hs,h1,h2,C,if_true,Ee,h3]
 unfold KQ MT JK;simp only[UE,L9,hf,C,if_true,hok1,hok2,oE hn hs h1 h2 h3,iB hn hs h1 h2 h3,kp hf,lB hf,oF hn hs h1 h2 h3,hmin];generalize AQ (fun j=>decide (H9 c i s≤CG f j)) 2881=W at hW hB
 have hWm:W.length≤maxLen:=by rw[AI]; omega
 unfold MP Mo;simp only[UG hWm,Tj hWm,C,BM,IC];obtain⟨r,r1,r2,r3,r4⟩:=nq (AE (Am c i) s) W (by omega) (by omega) (by omega) hB;by_cases hw:LO W=T
 ·by_cases hm:(decide (0≤AE (Am c i) s)&&decide (AE (Am c i) s≤2880))=T
  ·exact⟨r,by simp only[hw,hm,if_true,r1,C],by simp only[hw,hm,if_true,r2,C],by omega,r4⟩
  ·exact⟨[],by simp[hw,hm],by simp[hw,hm],by simp,fun w h=>by cases h⟩
 ·exact⟨[],by simp[hw],by simp[hw],by simp,fun w h=>by cases h⟩
theorem sn{n:X}(h:0<n):∃q,n=q+1:=⟨n - 1,by omega⟩
theorem AG{n:X}(h:n≤1000000000000):n≤maxLen:=by rw[AI]; omega
theorem BH{n k b:X}(h:n≤100000000)(hk:k≤1000)(hb:b≤1000):A4 n k b=T:=by
 have:(n+k)*b≤100001000*1000:=yI (by omega) hb;simp only[A4,decide_eq_true_eq];omega
theorem CQ(P:X→X→Prop){len:X}(hl:len≤maxLen)(h0:∀n,P (n+1) len)(hs:∀n i,i<len→P n (i+1)→P (n+1) i){i:X}(hi:i≤len):P bigN i:=by
 have key:∀k i n,i+k=len→k<n→P n i:=by
  intro k
  induction k with
  | zero=>
   intro i n h1 h2;obtain⟨q,rfl⟩:=sn (n:=n) (by omega);obtain rfl:i=len:=by omega
   exact h0 q
  | succ k ih=>
   intro i n h1 h2;obtain⟨q,rfl⟩:=sn (n:=n) (by omega);exact hs q i (by omega) (ih _ _ (by omega) (by omega))
 exact key (len - i) i bigN (by omega) (Nat.lt_of_le_of_lt (Nat.sub_le _ _) (Bo hl))
theorem Oe{α R:Type}{L:X→Q→O R}(l:G α)(p:α→U)(x K:O R)(hl:l.length≤maxLen)
  (hs:∀(n i:X) (h:i<l.length),L (n+1) (i:Q)=if p l[i]=T then x else L n (yL .i64 ((i:Q)+1))) (he:∀n,L (n+1) (l.length:Q)=K):L bigN 0=if l.any p=T then x else K:=by
 have:=CQ (fun n i=>L n (i:Q)=if(l.drop i).any p=T then x else K) hl (fun n=>by simpa using he n) (fun n i h ih=>by
  simp only[hs n i h,AK h hl,ih,yE h,List.any_cons];cases p l[i]<;>simp) (zK _)
 simpa using this
theorem Li{α:Type}{l:G α}{x:α}(hl:l.length≤maxLen)(h:l.getLast?=E x):ix l (yL .i64 ((l.length:Q) - 1))=E x:=by
 have h0:0<l.length:=by cases l with | nil=>cases h | cons=>simp
 rw[show(l.length:Q) - 1=((l.length - 1:X):Q) by omega,Au (by omega) (by rw[AI] at hl; omega),Ao,← zL,h]
theorem Iw{i:Q}{n:X}:idx i n=T↔0≤i∧i<(n:Q):=by simp[idx]
theorem C5{c:X0}(h:AW c=T):c.Points.length≤8∧c.Segments.length≤10∧(∀x∈c.Points,x.Name.length≤maxLen)∧∀x∈c.Segments,idx x.A c.Points.length=T∧idx x.B c.Points.length=T:=by
 simp only[AW,zB,decide_eq_true_eq,zZ,yK] at h;obtain⟨h1,h2,h3,h4⟩:=h;refine⟨h1,h2,fun x hx=> ?_,fun x hx=> ?_⟩
 ·obtain⟨i,hi,rfl⟩:=zH hx;have:=h3 i hi;simp only[Fz,I hi,zB] at this
  exact AG (by have:=(lf this.1).2; omega)
 ·obtain⟨i,hi,rfl⟩:=zH hx;have:=h4 i hi;simp only[De,I hi,zB,decide_eq_true_eq] at this
  exact⟨this.1,this.2.1⟩
theorem Ek{c:X0}{s:X6}{i:Q}(hc:AW c=T)(hi:idx i c.Segments.length=T):1≤AE (Am c i) s∧AE (Am c i) s≤480:=by
 obtain⟨_,_,a,b⟩:=(IR hc).2.2 _ (C8 hi).2;unfold AE;split
 ·rw[Au (n:=2*_) (by omega) (by omega)]; omega
 ·omega
def Cz(h:X9)(a:Xe):U:=idx a.Ship h.Fleet.length&&(idx a.From h.Chart.Points.length&&(idx a.To h.Chart.Points.length&&(decide (a.From≠a.To)&&(DD a.Ready&&(decide (a.Ready≤a.Due)&&decide (a.Due≤2880))))))
theorem iJ(h:X9)(a:Xe):JO h a=E (Cz h a):=by
 unfold JO Cz;simp only[Ee,C,IC,CJ,Jd,DD,Nc];cases idx a.Ship h.Fleet.length<;>cases idx a.From h.Chart.Points.length<;>cases idx a.To h.Chart.Points.length<;>simp[bne_iff_ne]
theorem Tf{h:X9}(s:HSmall h)(a:Xe):HR h a=E (Cp h&&Cz h a):=by
 unfold HR;rw[hZ s,C,iJ];cases Cp h<;>rfl
theorem ON{h:X9}(hh:Cp h=T):CC h.Forecast=T∧AW h.Chart=T∧Fj h.Fleet=T∧NG h.Regime=T∧HH h.Crew=T:=by
 simpa only[Cp,zB] using hh
theorem UC{h:X9}(s:HSmall h)(a:Xe):Ih h a=E (Cp h&&Cz h a):=by
 unfold Ih;rw[oC s,C];cases hh:Cp h with
 | false=>simp
 | true=>
  obtain⟨_,hc,hf,_,_⟩:=ON hh;have h1:=(RN hf).1;have h2:=(C5 hc).1;simp only[if_true,CO _ (show h.Fleet.length≤1000 by omega),CO _ (show h.Chart.Points.length≤1000 by omega),C,BM,Cz,zO,Jd,DD,Nc];cases idx a.Ship h.Fleet.length<;>cases idx a.From h.Chart.Points.length<;>cases idx a.To h.Chart.Points.length<;>simp[bne_iff_ne]
def BB(x:X1)(a:Q):Q:=if a=x.A then x.B else if a=x.B then x.A else -1
theorem OE(x:X1)(a:Q):HV x a=E (BB x a):=by
 unfold HV BB;by_cases h1:a=x.A
 ·rw[if_pos (by simpa using h1),if_pos h1]
 ·rw[if_neg (by simpa using h1),if_neg h1];by_cases h2:a=x.B
  ·rw[if_pos (by simpa using h2),if_pos h2]
  ·rw[if_neg (by simpa using h2),if_neg h2]
theorem PC(x:X1)(a:Q):L0 x a=E (BB x a):=OE x a
theorem Rr{c:X0}(hc:AW c=T){x:X1}(hx:x∈c.Segments)(a:Q):BB x a= -1∨idx (BB x a) c.Points.length=T:=by
 obtain⟨h1,h2⟩:=(C5 hc).2.2.2 x hx;unfold BB;split
 ·exact Or.inr h2
 ·split
  ·exact Or.inr h1
  ·exact Or.inl Z
theorem OO{l:G Q}(hl:l.length≤maxLen)(a:Q):Im l a=E (l.any fun x=>x==a):=by
 have:=Oe (L:=GY a l) l (fun x=>x==a) (E T) (E F) hl (fun n i h=>by
  rw[GY];simp only[Aj,h,decide_true,if_true,At h,C]) fun n=>by simp[GY]
 unfold Im;rw[this];cases l.any fun x=>x==a<;>rfl
def Dc(y:X4):G U:= [y.i0,y.i1,y.i2,y.i3,y.i4,y.i5,y.i6,y.i7]
theorem UA(y:X4){n:X}(hn:n<8):Dc (X4.set y n T)=(Dc y).set n T:=by
 have:n=0∨n=1∨n=2∨n=3∨n=4∨n=5∨n=6∨n=7:=by omega
 rcases this with rfl|rfl|rfl|rfl|rfl|rfl|rfl|rfl<;>rfl
def Met(y:X4)(l:G Q):Prop:=∀x:Q,0≤x→x<8→ix (Dc y) x=E (l.any fun z=>z==x)
theorem Met.snoc{y:X4}{l:G Q}(H:Met y l){r:Q}(h0:0≤r)(h8:r<8):Met (X4.set y r.toNat T) (l++ [r]):=fun x x0 x8=>by
 obtain⟨n,rfl⟩:∃n:X,r=(n:Q):=⟨r.toNat,by omega⟩;obtain⟨m,rfl⟩:∃m:X,x=(m:Q):=⟨x.toNat,by omega⟩;have hl:(Dc y).length=8:=rfl;have hm:=H m x0 x8;rw[Ao] at hm
 rw[Int.toNat_natCast,UA y (by omega),Ao,List.getElem?_set,hm];by_cases e:n=m
 ·subst e;rw[if_pos rfl,if_pos (by omega)];simp
 ·rw[if_neg e];have:((n:Q)==(m:Q))=F:=beq_eq_false_iff_ne.2 (by omega);simp[this]
structure RtOk (c:X0) (rt l:G Q):Prop where
 len:l.length=rt.length+1
 pt:∀x∈l,idx x c.Points.length=T
 seg:∀i (h:i<rt.length),idx rt[i] c.Segments.length=T
 stp:∀i (h:i<rt.length),∃x,l[i]?=E x∧l[i+1]?=E (BB (Am c rt[i]) x)∧0≤BB (Am c rt[i]) x
theorem Uc{c:X0}(hc:AW c=T){rt:G Q}{a:Q}(ha:idx a c.Points.length=T)(hl:rt.length≤10000000) :
  ∃l b,F8 c a rt=E (l,b)∧FV c a rt=E (l,b)∧(b=F→l= [])∧(b=T→RtOk c rt l):=by
 obtain⟨hp8,hs10,_,_⟩:=C5 hc;have ha':=Iw.1 ha;have fail:∃l b,(E (([]:G Q),F):O (G Q × U))=E (l,b)∧(E (([]:G Q),F):O (G Q × U))=E (l,b)∧(b=F→l= [])∧(b=T→RtOk c rt l):=⟨[],F,rfl,rfl,fun _=>rfl,fun h=>by cases h⟩
 have main:=CQ (fun n i=>∀v5 v7 l,l.getLast?=E v5→l.length=i+1→Met v7 l→(∀x∈l,idx x c.Points.length=T)→
   (∀j (h:j<rt.length),j<i→idx rt[j] c.Segments.length=T∧∃x,l[j]?=E x∧l[j+1]?=E (BB (Am c rt[j]) x)∧0≤BB (Am c rt[j]) x)→
   ∃l' b,D9 rt c n (i:Q) l=E (l',b)∧EM rt c n v5 (i:Q) v7 l=E (l',b)∧(b=F→l'= [])∧(b=T→RtOk c rt l')) (len:=rt.length) (AG (by omega))
  (fun n v5 v7 l h1 h2 h3 h4 h5=>⟨l,T,by simp[D9],by simp[EM],(fun h=>by cases h),fun _=>⟨h2,h4,fun j h=>(h5 j h h).1,fun j h=>(h5 j h h).2⟩⟩)
  (fun n i hi ih v5 v7 l h1 h2 h3 h4 h5=>by
   rw[D9,EM];simp only[Aj,hi,decide_true,if_true,At hi,C,Ee,CO _ (show c.Segments.length≤1000 by omega)];cases hx:idx rt[i] c.Segments.length with
   | false=>exact fail
   | true=>
    simp only[if_true,(C8 hx).1,C,Li (AG (by omega)) h1,PC,OE];have he:=Rr hc (C8 hx).2 v5;have hr:∃r,BB (Am c rt[i]) v5=r:=⟨_,rfl⟩;obtain⟨r,hr⟩:=hr;rw[hr] at he ⊢
    by_cases h0:r<0
    ·simp only[h0,decide_true,if_true,FW,F9];exact fail
    ·have hri:=he.resolve_left (by omega);have hr':=Iw.1 hri;have hd:(decide (0≤r)&&decide (r<8))=T:=by simp; omega
     have hm:=h3 r hr'.1 (by omega);unfold Dc at hm
     simp only[h0,decide_false,zA,if_false,hd,if_true,OO (AG (n:=l.length) (by omega)),C,hm];cases hb:l.any fun z=>z==r with
     | true=>simp only[FW,F9,if_true]; exact fail
     | false=>
      simp only[FW,F9,zA,if_false,hd,if_true];rw[if_pos (BH (by omega) (by simp) (by omega)),if_pos (BH (by omega) (by simp) (by omega)),AK hi (AG (by omega))];refine ih r _ _ (by simp) (by simp; omega) (h3.snoc hr'.1 (by omega)) (fun x hx=> ?_) fun j h1' h2'=> ?_
      ·rcases zN.1 hx with hx|hx
       ·exact h4 x hx
       ·simp only[zJ] at hx; exact hx▸hri
      ·by_cases hji:j=i
       ·subst hji;refine⟨hx,v5,?_,?_,by rw[hr]; exact hr'.1⟩
        ·rw[zC (by omega),← h1,zL,h2]; rfl
        ·rw[zG (by omega),h2,hr]; simp
       ·obtain⟨g1,x,g2,g3,g4⟩:=h5 j h1' (by omega);exact⟨g1,x,by rw[zC (by omega)]; exact g2,by rw[zC (by omega)]; exact g3,g4⟩) (zK _)
 have hd:(decide (0≤a)&&decide (a<8))=T:=by simp; omega
 unfold F8 FV;rw[Ee,ha,C];simp only[if_true,hd]
 have m0:Met ⟨F,F,F,F,F,F,F,F⟩ []:=fun x x0 x8=>by
  obtain⟨n,rfl⟩:∃n:X,x=(n:Q):=⟨x.toNat,by omega⟩;have:n=0∨n=1∨n=2∨n=3∨n=4∨n=5∨n=6∨n=7:=by omega
  rcases this with rfl|rfl|rfl|rfl|rfl|rfl|rfl|rfl<;>rfl
 exact main a _ [a] rfl Z (m0.snoc ha'.1 (by omega)) (by simpa using ha) fun j _ h=>by omega
theorem Us{c:X0}(hc:AW c=T){rt:G Q}{a:Q}(hl:rt.length≤10000000) :
  ∃l b,Du c a rt=E b∧DR c a rt=E b∧E7 c a rt=E l∧D6 c a rt=E l∧(b=F→l= [])∧(b=T→RtOk c rt l):=by
 have hn:=(C5 hc).2.2.1;have h8:=(C5 hc).1;unfold E7 D6 Du DR;simp only[DI hn,Ef hn,hc,C,if_true,CO _ (show c.Points.length≤1000 by omega)];cases ha:idx a c.Points.length with
 | false=>
  refine⟨[],F,Z,?_,Z,?_,fun _=>rfl,fun h=>by cases h⟩<;>(unfold FV; rw[Ee,ha]; rfl)
 | true=>
  obtain⟨l,b,e1,e2,e3,e4⟩:=Uc hc ha hl;refine⟨l,b,by simp only[if_true,e1,C],by simp only[e2,C],?_,by simp only[e2,C],e3,e4⟩;simp only[if_true,e1,C];cases b with
  | false=>rw[e3 rfl]; rfl
  | true=>rfl
theorem gh(l:G X2)(a:Q)(hl:l.length≤100000):∃b,KD l a=E b∧Jv l a=E b∧(b=T→∃w∈l,w.From≤a∧a≤w.To):=by
 have e1:=Oe (L:=GL a l) l (fun x=>decide (x.From≤a)&&decide (a≤x.To)) (E T) (E F) (AG (by omega)) (fun n i h=>by
  rw[GL];simp only[Aj,h,decide_true,if_true,At h,C,BM]) fun n=>by simp[GL]
 have e2:=Oe (L:=G1 a l) l (fun x=>decide (x.From≤a)&&decide (a≤x.To)) (E T) (E F) (AG (by omega)) (fun n i h=>by
  rw[G1];simp only[Aj,h,decide_true,if_true,At h,C,CJ]) fun n=>by simp[G1]
 unfold KD Jv;rw[e1,e2];split
 ·rename_i h
  obtain⟨w,w1,w2⟩:=List.any_eq_true.1 h;simp only[zB,decide_eq_true_eq] at w2
  exact⟨T,Z,Z,fun _=>⟨w,w1,w2⟩⟩
 ·exact⟨F,Z,Z,fun h=>by cases h⟩
theorem lg(l:G X2)(a:Q)(hl:l.length≤100000)(hW:∀w∈l,w.From≤w.To):∃r,KI l a=E r∧JC l a=E r∧(r<0∨(a≤r∧∃w∈l,w.From≤r∧r≤w.To)):=by
 have hm:l.length≤maxLen:=AG (by omega);unfold KI JC;rw[UG hm,Tj hm,C,C];split
 ·exact CQ (fun n i=>∃r,GM a l n (i:Q)=E r∧G2 a l n (i:Q)=E r∧(r<0∨(a≤r∧∃w∈l,w.From≤r∧r≤w.To))) hm (fun n=>⟨-1,by simp[GM],by simp[G2],Or.inl (by omega)⟩) (fun n i h ih=>by
   rw[GM,G2];simp only[Aj,h,decide_true,if_true,At h,C,AK h hm];split
   ·rename_i hd
    simp only[decide_eq_true_eq] at hd
    have hw:=hW _ (zE h);exact⟨_,Z,Z,Or.inr ⟨by split<;>omega,l[i],zE h,by split<;>omega,by split<;>omega⟩⟩
   ·exact ih) (zK _)
 ·exact⟨-1,Z,Z,Or.inl (by omega)⟩
def wt(c:X0)(x:Q):U:=(c.Points[x.toNat]?.getD ⟨[],F⟩).Wait
structure VoyOk (f:Xb) (c:X0) (s:X6) (rt pts:G Q) (v:Xf):Prop where
 ne:rt≠ []
 r:RtOk c rt pts
 ml:v.minutes.length=rt.length
 ul:v.sure.length=rt.length
 m:∀i (h:i<rt.length),v.minutes[i]?=E (AE (Am c rt[i]) s)
 w:∀i (h:i<rt.length),∃x,pts[i]?=E x∧v.waits[i]?=E (wt c x)
 u:∀i (h:i<rt.length),∃l,v.sure[i]?=E l∧l.length≤2881∧∀w∈l,0≤w.From∧w.From≤w.To∧w.To+AE (Am c rt[i]) s≤2880
 st:MU f c s rt=E v.sure
theorem qJ{f:Xb}{c:X0}{s:X6}(hf:CC f=T)(hc:AW c=T)(hs:Cd s=T)(hsn:s.Name.length≤maxLen){rt pts:G Q}{a:Q}(hl:rt.length≤10000000)(hr:RtOk c rt pts)(h0:rt≠ [])
  (e1:DR c a rt=E T) (e2:D6 c a rt=E pts):∃v,Gd f c s a rt=E (v,T)∧VoyOk f c s rt pts v:=by
 have hn:=(C5 hc).2.2.1;have hz:((rt.length:Q)==(0:Q))=F:=by cases rt with | nil=>exact absurd rfl h0 | cons=>simp; omega
 have hp:=hr.len;have hlen:(pts.take rt.length).length=rt.length:=by simp; omega
 have hlm:rt.length≤maxLen:=AG (by omega)
 have hspec:=CQ (fun n i=>∀us,us.length=i→∃vs,Fc rt f c s n (i:Q) us=E (us++vs)∧∀ws ms,ws.length=i→ms.length=i→
   ∃ws' ms',Gf rt f c s (pts.take rt.length) ((pts.take rt.length).length:Q) n (i:Q) ws ms us=E (⟨ws++ws',ms++ms',us++vs⟩,T)∧ms'.length=rt.length - i∧vs.length=rt.length - i∧
    (∀j (h:j<rt.length),i≤j→ms'[j - i]?=E (AE (Am c rt[j]) s)∧(∃x,pts[j]?=E x∧ws'[j - i]?=E (wt c x))∧∃l,vs[j - i]?=E l∧l.length≤2881∧∀w∈l,0≤w.From∧w.From≤w.To∧w.To+AE (Am c rt[j]) s≤2880)) hlm
  (fun n us hu=>⟨[],by simp[Fc],fun ws ms hw hm=>⟨[],[],by simp[Gf,hlen],by simp,by simp,fun j h h'=>by omega⟩⟩)
  (fun n i h ih us hu=>by
   obtain⟨l,l1,l2,l3,l4⟩:=oU (s:=s) hf hn hsn hc hs (hr.seg i h);have hlt':i<(pts.take rt.length).length:=by omega
   have hpi:i<pts.length:=by omega
   have hpt:=hr.pt pts[i] (zE hpi);have hg:(pts.take rt.length)[i]=pts[i]:=by simp
   obtain⟨vs,v1,v2⟩:=ih (us++ [l]) (by simp; omega);refine⟨l::vs,?_,fun ws ms hw hm=> ?_⟩
   ·rw[Fc];simp only[Aj,h,decide_true,if_true,At h,C,l1];rw[if_pos (BH (by omega) (by simp) (by omega)),AK h hlm,v1];simp
   ·obtain⟨ws',ms',g1,g2,g2',g3⟩:=v2 (ws++ [wt c pts[i]]) (ms++ [AE (Am c rt[i]) s]) (by simp; omega) (by simp; omega);refine⟨wt c pts[i]::ws',AE (Am c rt[i]) s::ms',?_,by simp; omega,by simp; omega,fun j hj hij=> ?_⟩
    ·rw[Gf];simp only[Aj,hlt',decide_true,if_true,At hlt',At h,hg,C,(Ni (⟨[],F⟩:X8) hpt).1,(C8 (hr.seg i h)).1,Nd,l2];rw[if_pos (BH (by omega) (by simp) (by omega)),if_pos (BH (by omega) (by simp) (by omega)),if_pos (BH (by omega) (by simp) (by omega)),AK h hlm];refine g1.trans ?_;simp
    ·by_cases hji:j=i
     ·subst hji;simp only[Nat.sub_self,zX];exact⟨trivial,⟨_,I hpi,Z⟩,l,Z,l3,l4⟩
     ·obtain⟨q,hq⟩:∃q,j - i=q+1:=⟨j - i - 1,by omega⟩;have:=g3 j hj (by omega);rw[show j - (i+1)=q by omega] at this
      rw[hq];simpa using this) (zK _)
 obtain⟨vs,v1,v2⟩:=hspec [] rfl;obtain⟨ws',ms',g1,g2,g3,g4⟩:=v2 [] [] rfl rfl;refine⟨⟨ws',ms',vs⟩,?_,h0,hr,by simpa using g2,by simpa using g3,fun i h=>by simpa using(g4 i h (zK _)).1,fun i h=>by simpa using(g4 i h (zK _)).2.1,fun i h=>by simpa using(g4 i h (zK _)).2.2,show Fc rt f c s bigN 0 []=E vs by simpa using v1⟩;unfold Gd;simp only[L9,Fl hsn,hf,hs,e1,e2,C,if_true,Ge,hz,zA,if_false];rw[Jc (by omega),C];simp only[yJ,Nat.sub_zero];exact g1
structure Sailed (c:X0) (s:X6) (rt:G Q) (st:Q) (l:G Q):Prop where
 len:l.length=rt.length
 hd:l[0]?=E st
 sf:∀i (h:i<rt.length),∃y,l[i]?=E y∧0≤y∧y+AE (Am c rt[i]) s≤2880
 up:∀i (h:i+1<rt.length),∃x y,l[i]?=E x∧l[i+1]?=E y∧yL .i64 (x+AE (Am c rt[i]) s)≤y
theorem nc{f:Xb}{c:X0}{s:X6}(hc:AW c=T){rt pts:G Q}{v:Xf}(hl:rt.length≤10000000)(H:VoyOk f c s rt pts v)(st:Q) :
  ∃l b,In c s pts rt v.sure st=E (l,b)∧JP v st=E (l,b)∧(b=T→Sailed c s rt st l):=by
 have h0:0<rt.length:=zV.2 H.ne;have hlm:rt.length≤maxLen:=AG (by omega);obtain⟨l0,u1,u2,u3⟩:=H.u 0 h0;obtain⟨b,b1,b2,b3⟩:=gh l0 st (by omega);have hx:ix v.sure (0:Q)=E l0:=by have:=Ao v.sure 0; rw[u1] at this; exact this
 unfold In JP;simp only[hx,C,b1,b2];cases b with
 | false=>exact⟨[],F,rfl,rfl,fun h=>by cases h⟩
 | true=>
  simp only[if_true]
  refine CQ (fun n i=>∀l,1≤i→l.length=i→l[0]?=E st→(∀j (h:j<rt.length),j<i→∃y,l[j]?=E y∧0≤y∧y+AE (Am c rt[j]) s≤2880)→(∀j (h:j+1<rt.length),j+1<i→∃x y,l[j]?=E x∧l[j+1]?=E y∧yL .i64 (x+AE (Am c rt[j]) s)≤y)→
   ∃l' b,Dw pts rt v.sure c s n (i:Q) l=E (l',b)∧Dq v n (i:Q) l=E (l',b)∧(b=T→Sailed c s rt st l')) hlm
   (fun n l h1 h2 h3 h5 h4=>⟨l,T,by simp[Dw],by simp[Dq,H.ul],fun _=>⟨h2,h3,fun j h=>h5 j h h,fun j h=>h4 j h h⟩⟩)
   (fun n i h ih l h1 h2 h3 h5 h4=> ?_) (i:=1) (by omega) [st] (by omega) rfl rfl (fun j hj h=> ?_) (fun j _ h=>by omega)
  case refine_2=>
   obtain rfl:j=0:=by omega
   obtain⟨w,w1,w2,w3⟩:=b3 rfl;have:=u3 w w1;exact⟨st,Z,by omega,by omega⟩
  obtain⟨w,g1,g2,g3⟩:=H.u i h;have hu:i<v.sure.length:=by have:=H.ul; omega
  have ew:yL .i64 ((i:Q) - 1)=((i - 1:X):Q):=by
   rw[show(i:Q) - 1=((i - 1:X):Q) by omega];exact Au (by omega) (by omega)
  have hi1:i - 1<rt.length:=by omega
  have hil:i - 1<l.length:=by omega
  obtain⟨x,x1,x2⟩:=H.w i h;have hpt:=H.r.pt x (List.mem_of_getElem? x1);obtain⟨r,r1,r2,r3⟩:=lg w (yL .i64 (l[i - 1]+AE (Am c rt[i - 1]) s)) (by omega) (fun x hx=>(g3 x hx).2.1);rw[Dw,Dq];simp only[Aj,h,hu,decide_true,if_true,ew,At hil,At hi1,Ao,H.m _ hi1,(C8 (H.r.seg _ hi1)).1,C,LF,g1,r1,r2,x1,x2,(Ni (⟨[],F⟩:X8) hpt).1];have fail:∃l' b,(E (([]:G Q),F):O (G Q × U))=E (l',b)∧(E (([]:G Q),F):O (G Q × U))=E (l',b)∧(b=T→Sailed c s rt st l'):=⟨[],F,rfl,rfl,fun h=>by cases h⟩;by_cases hr0:r<0
  ·simp only[hr0,decide_true,if_true,H1,Gg];exact fail
  ·obtain⟨hge,w',w1,w2,w3⟩:=r3.resolve_left hr0;have hwb:=g3 w' w1
   have hne:(r !=yL .i64 (l[i - 1]+AE (Am c rt[i - 1]) s))=decide (yL .i64 (l[i - 1]+AE (Am c rt[i - 1]) s)<r):=by
    rw[Jd];by_cases e:r=yL .i64 (l[i - 1]+AE (Am c rt[i - 1]) s)
    ·simp[← e]
    ·have:yL .i64 (l[i - 1]+AE (Am c rt[i - 1]) s)<r:=by omega
     simp[e,this]
   have go:∃l' b,Dw pts rt v.sure c s n (yL .i64 ((i:Q)+1)) (l++ [r])=E (l',b)∧Dq v n (yL .i64 ((i:Q)+1)) (l++ [r])=E (l',b)∧(b=T→Sailed c s rt st l'):=by
    rw[AK h hlm];refine ih (l++ [r]) (by omega) (by simp; omega) (by rw[zC (by omega)]; exact h3) (fun j hj1 hj2=> ?_) fun j hj1 hj2=> ?_
    ·by_cases hji:j=i
     ·subst hji;exact⟨r,by rw[zG (by omega),h2]; simp,by omega,by omega⟩
     ·obtain⟨y,q1,q2,q3⟩:=h5 j hj1 (by omega);exact⟨y,by rw[zC (by omega)]; exact q1,q2,q3⟩
    by_cases hji:j+1=i
    ·subst hji;exact⟨l[j],r,by rw[zC (by omega),I],by rw[zG (by omega),h2]; simp,by simpa using hge⟩
    ·obtain⟨x,y,q1,q2,q3⟩:=h4 j hj1 (by omega);exact⟨x,y,by rw[zC (by omega)]; exact q1,by rw[zC (by omega)]; exact q2,q3⟩
   have hap:A4 l.length [r].length 8=T:=BH (by omega) (by simp) (by omega);simp only[hr0,decide_false,zA,if_false,hne,H1,Gg,hap,if_true];split
   ·change ∃l' b,(if(!wt c x)=T then _ else _)=_∧_
    split
    ·exact fail
    ·exact go
   ·exact go
def M0(c:X0)(s:X6)(sh:Q)(rt pts l:G Q)(i:X)(ps:G X3):Prop:=
 ps.length=i∧∀j (h:j<rt.length),j<i→∃x y,pts[j]?=E x∧l[j]?=E y∧0≤y∧y≤2880∧ps[j]?=E ⟨sh,rt[j],(Am c rt[j]).A==x,y,yL .i64 (y+AE (Am c rt[j]) s)⟩
theorem mU{c:X0}{s:X6}(hs:Cd s=T)(hsn:s.Name.length≤maxLen){rt pts l:G Q}{a sh:Q}(hl:rt.length≤10000000)(hr:RtOk c rt pts)(hlen:l.length=rt.length)(hS:∀i (h:i<rt.length),∃y,l[i]?=E y∧0≤y∧y≤2880)
  (e1:Du c a rt=E T) (e2:DR c a rt=E T) (e3:E7 c a rt=E pts) (e4:D6 c a rt=E pts) :
  ∃ps,KL c sh s a rt l=E ps∧JE c sh s a rt l=E ps∧M0 c s sh rt pts l rt.length ps:=by
 have hlm:rt.length≤maxLen:=AG (by omega);have hz:((rt.length:Q) !=(l.length:Q))=F:=by rw[hlen]; simp
 unfold KL JE;simp only[e1,e2,e3,e4,IT hsn,Fl hsn,hs,C,if_true,hz,zA,if_false]
 refine CQ (fun n i=>∀ps,M0 c s sh rt pts l i ps→∃ps',GP sh l rt c s pts n (i:Q) ps=E ps'∧G3 sh l rt c s pts n (i:Q) ps=E ps'∧M0 c s sh rt pts l rt.length ps') hlm
  (fun n ps hp=>⟨ps,by simp[GP],by simp[G3],hp⟩) (fun n i h ih ps hp=> ?_) (zK _) [] ⟨rfl,fun j _ h=>by omega⟩
 have hi:i<l.length:=by omega
 have hpi:i<pts.length:=by have:=hr.len; omega
 rw[GP,G3];simp only[Aj,h,decide_true,if_true,At h,At hi,At hpi,(C8 (hr.seg i h)).1,C,BM,IC,LF,Nd,BEq.comm (a:=pts[i])];split
 ·rename_i hm
  simp only[zB,decide_eq_true_eq] at hm
  have hp1:=hp.1;rw[if_pos (BH (by omega) (by simp) (by omega)),if_pos (BH (by omega) (by simp) (by omega)),AK h hlm];refine ih _ ⟨by simp; omega,fun j hj1 hj2=> ?_⟩;by_cases hji:j=i
  ·subst hji;exact⟨pts[j],l[j],I _,I _,hm.1,hm.2,by rw[zG (by omega),hp1]; simp⟩
  ·obtain⟨x,y,q1,q2,q3,q4,q5⟩:=hp.2 j hj1 (by omega);exact⟨x,y,q1,q2,q3,q4,by rw[zC (by omega)]; exact q5⟩
 ·rename_i hm
  obtain⟨y,y1,y2,y3⟩:=hS i h;rw[I hi,zD] at y1
  exact absurd (by simp[y1,y2,y3]) hm
theorem Ur{c:X0}(hc:AW c=T){rt:G Q}(hl:rt.length≤10000000)(hs:∀i (h:i<rt.length),idx rt[i] c.Segments.length=T):∃r,F6 c rt=E r∧ET c rt=E r∧0≤r:=by
 have hlm:rt.length≤maxLen:=AG (by omega);have hn:=(C5 hc).2.2.1;have h10:=(C5 hc).2.1;unfold F6 ET;simp only[DI hn,Ef hn,hc,C,if_true];refine CQ (fun n i=>∀v:Q,0≤v→v≤240*(i:Q)→∃r,GR rt c n v (i:Q)=E r∧G5 rt c n v (i:Q)=E r∧0≤r) hlm (fun n v h1 h2=>⟨v,by simp[GR],by simp[G5],h1⟩) (fun n i h ih v h1 h2=> ?_) (zK _) 0 (by omega) (by omega);obtain⟨_,_,a,b⟩:=(IR hc).2.2 _ (C8 (hs i h)).2;rw[GR,G5];simp only[Aj,h,decide_true,if_true,At h,(C8 (hs i h)).1,C,Ee,CO _ (show c.Segments.length≤1000 by omega),hs i h,AK h hlm];rw[Au (by omega) (by omega)];exact ih _ (by omega) (by omega)
theorem YW{c:X0}{s:X6}(hc:AW c=T)(hs:Cd s=T)(hsn:s.Name.length≤maxLen){rt l:G Q}(hl:rt.length≤10000000)(hsg:∀i (h:i<rt.length),idx rt[i] c.Segments.length=T)(hlen:l.length=rt.length)(h0:rt≠ []) :
  ∃r,Kw c s rt l=E r∧Jo c s rt l=E r∧∀y,l[rt.length - 1]?=E y→0≤y→y≤2880→∃x,rt[rt.length - 1]?=E x∧r=yL .i64 (y+AE (Am c x) s):=by
 obtain⟨m,m1,m2,m3⟩:=Ur hc hl hsg;have hp:0<rt.length:=zV.2 h0;have hz:((rt.length:Q)==(0:Q))=F:=beq_eq_false_iff_ne.2 (by omega);have hq:((rt.length:Q) !=(l.length:Q))=F:=by rw[hlen]; simp
 have ew:yL .i64 ((rt.length:Q) - 1)=((rt.length - 1:X):Q):=by
  rw[show(rt.length:Q) - 1=((rt.length - 1:X):Q) by omega];exact Au (by omega) (by omega)
 have h1:rt.length - 1<rt.length:=by omega
 have h2:rt.length - 1<l.length:=by omega
 unfold Kw Jo;simp only[m1,m2,C,show decide (m<0)=F by simp; omega,zA,if_false,IT hsn,Fl hsn,hs,if_true,hq,hz,hlen,ew,At h1,At h2,BM,IC,(C8 (hsg _ h1)).1,LF,Nd,bne_self_eq_false];split
 ·refine⟨_,Z,Z,fun y e _ _=>⟨_,I h1,?_⟩⟩;rw[I h2,zD] at e
  rw[e]
 ·rename_i hm
  refine⟨-1,Z,Z,fun y e a b=>absurd ?_ hm⟩;rw[I h2,zD] at e
  simp only[zB,decide_eq_true_eq,e];exact⟨a,b⟩
structure AtOk (h:X9) (a:Xe) (rt:G Q) (st:Q) (o:X5):Prop where
 ha:Cz h a=T
 mo:∃pts l,RtOk h.Chart rt pts∧Sailed h.Chart (B2 h.Fleet a.Ship) rt st l∧M0 h.Chart (B2 h.Fleet a.Ship) a.Ship rt pts l rt.length o.Passages
def AP(c:X0)(s:X6)(rt:G Q):Q:=(rt.map fun k=>AE (Am c k) s).sum
theorem ZY{h:X9}{s:X6}{rt:G Q}{v:Xf}{f:Xb}{pts:G Q}(hc:AW h.Chart=T)(hl:rt.length≤10000000)(H:VoyOk f h.Chart s rt pts v)(st r:Q)(ps:G X3){c0:Q}(h0:AP h.Chart s rt≤c0)(h1:c0≤100000) :
  Ff rt h s st r ps bigN 0 c0=E (⟨st,r,c0 - AP h.Chart s rt,ps⟩,decide (r≤2880))∧EW v st r ps bigN 0 c0=E (⟨st,r,c0 - AP h.Chart s rt,ps⟩,decide (r≤2880)):=by
 have hlm:rt.length≤maxLen:=AG (by omega)
 have pos:∀l:G Q,(∀x∈l,idx x h.Chart.Segments.length=T)→0≤AP h.Chart s l:=by
  intro l
  induction l with
  | nil=>intro _; simp[AP]
  | cons a l ih=>
   intro hx;have h1:=ih fun x hm=>hx x (List.mem_cons_of_mem _ hm)
   have h2:=(Ek (s:=s) hc (hx a (List.mem_cons_self ..))).1;have e:AP h.Chart s (a::l)=AE (Am h.Chart a) s+AP h.Chart s l:=by simp[AP]
   omega
 have hsg:∀x∈rt,idx x h.Chart.Segments.length=T:=fun x hx=>by
  obtain⟨i,hi,rfl⟩:=zH hx;exact H.r.seg i hi
 have:=CQ (fun n i=>∀c0,AP h.Chart s (rt.drop i)≤c0→c0≤100000→Ff rt h s st r ps n (i:Q) c0=E (⟨st,r,c0 - AP h.Chart s (rt.drop i),ps⟩,decide (r≤2880))∧EW v st r ps n (i:Q) c0=E (⟨st,r,c0 - AP h.Chart s (rt.drop i),ps⟩,decide (r≤2880))) hlm (fun n c0 _ _=>by
   have e:AP h.Chart s (rt.drop rt.length)=0:=by simp[AP]
   rw[e,Int.sub_zero];exact⟨by simp[Ff],by simp[EW,H.ml]⟩) (fun n i hi ih c0 g0 g1=>by
  have hm:i<v.minutes.length:=by have:=H.ml; omega
  have e:AP h.Chart s (rt.drop i)=AE (Am h.Chart rt[i]) s+AP h.Chart s (rt.drop (i+1)):=by rw[yE hi]; rfl
  have hp:=pos (rt.drop (i+1)) fun x hx=>hsg x (List.mem_of_mem_drop hx)
  obtain⟨m1,m2⟩:=Ek (s:=s) hc (H.r.seg i hi);rw[Ff,EW];simp only[Aj,hi,hm,decide_true,if_true,At hi,Ao,H.m i hi,(C8 (H.r.seg i hi)).1,C,LF,AK hi hlm];rw[Au (n:=c0 - _) (by omega) (by omega)];have:=ih (c0 - AE (Am h.Chart rt[i]) s) (by omega) (by omega);rw[show c0 - AE (Am h.Chart rt[i]) s - AP h.Chart s (rt.drop (i+1))=c0 - AP h.Chart s (rt.drop i) by omega] at this
  exact this) (zK _) c0 (by simpa using h0) h1
 simpa using this
theorem Sailed.sum{c:X0}{s:X6}{rt l:G Q}{st:Q}(hc:AW c=T)(hsg:∀i (h:i<rt.length),idx rt[i] c.Segments.length=T)(H:Sailed c s rt st l):∀k (hk:k<rt.length),∃y,l[k]?=E y∧st+AP c s (rt.take k)≤y:=by
 intro k
 induction k with
 | zero=>intro hk; exact⟨st,H.hd,by simp[AP]⟩
 | succ k ih=>
  intro hk;obtain⟨y,y1,y2⟩:=ih (by omega);obtain⟨u,v,u1,u2,u3⟩:=H.up k hk;obtain⟨z,z1,z2,z3⟩:=H.sf k (by omega);rw[y1,zD] at u1 z1
  subst u1 z1;have hm:=Ek (s:=s) hc (hsg k (by omega));rw[Au (by omega) (by omega)] at u3
  have e:AP c s (rt.take (k+1))=AP c s (rt.take k)+AE (Am c rt[k]) s:=by
   rw[zQ (by omega)];unfold AP;rw[List.map_append,List.sum_append];simp
  exact⟨v,u2,by omega⟩
theorem mN{h:X9}{a:Xe}(ha:Cz h a=T)(hc:AW h.Chart=T)(hso:Cd (B2 h.Fleet a.Ship)=T)(hsn:(B2 h.Fleet a.Ship).Name.length≤maxLen){rt pts:G Q}{v:Xf}(hl:rt.length≤10000000)
  (V:VoyOk h.Forecast h.Chart (B2 h.Fleet a.Ship) rt pts v) (e1:Du h.Chart a.From rt=E T) (e2:DR h.Chart a.From rt=E T) (e3:E7 h.Chart a.From rt=E pts) (e4:D6 h.Chart a.From rt=E pts)
  {st:Q} (hr:a.Ready≤st) (hd:st≤2880):∃l b,In h.Chart (B2 h.Fleet a.Ship) pts rt v.sure st=E (l,b)∧(b=F→∃o,Gc h a v rt st=E (o,F))∧
   (b=T→∃o,L1 h a rt l=E (o,T)∧Gc h a v rt st=E (o,T)∧AtOk h a rt st o∧o.Arrival≤2880∧0≤o.Cost∧o.Cost≤2880∧∀y,l[rt.length - 1]?=E y→∃x,rt[rt.length - 1]?=E x∧o.Arrival=yL .i64 (y+AE (Am h.Chart x) (B2 h.Fleet a.Ship))):=by
 obtain⟨l,b,b1,b2,b3⟩:=nc hc hl V st;refine⟨l,b,b1,fun hb=> ?_,fun hb=> ?_⟩
 ·subst hb;exact⟨⟨0,0,0,[]⟩,by simp only[Gc,b2,C,zA,if_false]⟩
 ·subst hb;have S:=b3 rfl;have ha':=ha;simp only[Cz,DD,zB,decide_eq_true_eq] at ha'
  obtain⟨q1,_,_,_,⟨q5,_⟩,_⟩:=ha';obtain⟨s1,s2⟩:=TA q1
  have hsS:∀i (h':i<rt.length),∃y,l[i]?=E y∧0≤y∧y≤2880:=fun i h'=>by
   obtain⟨y,y1,y2,y3⟩:=S.sf i h';have:=(Ek (s:=B2 h.Fleet a.Ship) hc (V.r.seg i h')).1;exact⟨y,y1,y2,by omega⟩
  obtain⟨ps,p1,p2,p3⟩:=mU (sh:=a.Ship) hso hsn hl V.r S.len hsS e1 e2 e3 e4;obtain⟨r,r1,r2,r3⟩:=YW hc hso hsn hl V.r.seg S.len V.ne;have hp:=zV.2 V.ne;have hlt:rt.length - 1<rt.length:=by omega
  obtain⟨y,y1,y2,y3⟩:=S.sf _ hlt;have hm:=Ek (s:=B2 h.Fleet a.Ship) hc (V.r.seg _ hlt);obtain⟨x,x1,x2⟩:=r3 y y1 y2 (by omega);rw[I hlt,zD] at x1
  rw[← x1,Au (by omega) (by omega)] at x2
  obtain⟨z,z1,z2⟩:=S.sum hc V.r.seg _ hlt;rw[y1,zD] at z1
  subst z1
  have es:AP h.Chart (B2 h.Fleet a.Ship) rt=AP h.Chart (B2 h.Fleet a.Ship) (rt.take (rt.length - 1))+AE (Am h.Chart rt[rt.length - 1]) (B2 h.Fleet a.Ship):=by
   have e:rt=rt.take (rt.length - 1)++ [rt[rt.length - 1]]:=by
    rw[← zQ hlt,show rt.length - 1+1=rt.length by omega,yG]
   have:∀u w:G Q,AP h.Chart (B2 h.Fleet a.Ship) (u++w)=AP h.Chart (B2 h.Fleet a.Ship) u+AP h.Chart (B2 h.Fleet a.Ship) w:=fun u w=>by simp[AP]
   rw[congrArg (AP h.Chart (B2 h.Fleet a.Ship)) e,this];simp[AP]
  obtain⟨c1,c2⟩:=ZY hc hl V st r ps (c0:=r - a.Ready) (by omega) (by omega);have ew:yL .i64 (r - a.Ready)=r - a.Ready:=Au (by omega) (by omega);have hx0:ix l (0:Q)=E st:=by have:=Ao l 0; rw[S.hd] at this; exact this
  have hpos:0≤AP h.Chart (B2 h.Fleet a.Ship) rt:=by
   have:∀w:G Q,(∀x∈w,idx x h.Chart.Segments.length=T)→0≤AP h.Chart (B2 h.Fleet a.Ship) w:=by
    intro w
    induction w with
    | nil=>intro _; simp[AP]
    | cons u w ih=>
     intro hx;have h1:=ih fun x hm=>hx x (List.mem_cons_of_mem _ hm)
     have h2:=(Ek (s:=B2 h.Fleet a.Ship) hc (hx u (List.mem_cons_self ..))).1;have e:AP h.Chart (B2 h.Fleet a.Ship) (u::w)=AE (Am h.Chart u) (B2 h.Fleet a.Ship)+AP h.Chart (B2 h.Fleet a.Ship) w:=by simp[AP]
     omega
   exact this rt fun x hx=>by
    obtain⟨i,hi,rfl⟩:=zH hx;exact V.r.seg i hi
  have hd28:decide (r≤2880)=T:=by simp; omega
  refine⟨⟨st,r,r - a.Ready - AP h.Chart (B2 h.Fleet a.Ship) rt,ps⟩,?_,?_,⟨ha,pts,l,V.r,S,p3⟩,by simp only; omega,by simp only; omega,by simp only; omega,fun y' h'=> ?_⟩
  ·simp only[L1,s1,C,hx0,r1,p1,ew,c1,hd28]
  ·simp only[Gc,b2,if_true,s1,C,r2,p2,ew,c2,hd28]
  ·rw[y1,zD] at h'
   subst h';exact r3 y y1 y2 (by omega)
structure GoodP (c:X0) (fl:G X6) (l:G X3):Prop where
 ne:l≠ []
 inn:∀p∈l,U9 c fl p=T
 ship:∃sh,∀p∈l,p.Ship=sh
 link:∀j (h:j+1<l.length),(Mg c l[j+1]).1=(Mg c l[j]).2∧l[j].End≤l[j+1].Start
theorem dB{s:X1}{x:Q}(h:0≤BB s x):(if(s.A==x)=T then(s.A,s.B) else(s.B,s.A))=(x,BB s x):=by
 unfold BB at *
 by_cases h1:s.A=x
 ·subst h1; simp
 ·have h1':¬x=s.A:=fun e=>h1 e.symm
  by_cases h2:x=s.B
  ·subst h2; simp[h1,h1']
  ·simp[h1',h2] at h
theorem AtOk.good{h:X9}{a:Xe}{st:Q}{o:X5}(hh:Cp h=T)(H:AtOk h a (o.Passages.map fun p=>p.Segment) st o):GoodP h.Chart h.Fleet o.Passages:=by
 obtain⟨ha,pts,l,hr,S,hp⟩:=H;obtain⟨_,hc,hfl,_,_⟩:=ON hh;simp only[Cz,zB] at ha
 have hne:o.Passages≠ []:=fun e=>by
  have h1:=S.hd;have h2:=S.len;rw[e] at h2
  cases l with
  | nil=>cases h1
  | cons=>simp at h2
 obtain⟨_,hp⟩:=hp;generalize hps:o.Passages=ps at *
 have hlen:(ps.map fun p=>p.Segment).length=ps.length:=by simp
 have hpos:0<ps.length:=zV.2 hne
 have at_:∀j (hj:j<ps.length),∃x y,pts[j]?=E x∧l[j]?=E y∧0≤y∧y≤2880∧idx ps[j].Segment h.Chart.Segments.length=T∧ps[j]=⟨a.Ship,ps[j].Segment,(Am h.Chart ps[j].Segment).A==x,y,y+AE (Am h.Chart ps[j].Segment) (B2 h.Fleet a.Ship)⟩:=fun j hj=>by
  obtain⟨x,y,q1,q2,q3,q4,q5⟩:=hp j (by omega) (by omega);have hs:=hr.seg j (by omega);simp only[yH] at hs q5
  obtain⟨m1,m2⟩:=Ek (s:=B2 h.Fleet a.Ship) hc hs;rw[Au (by omega) (by omega),I hj,zD] at q5
  exact⟨x,y,q1,q2,q3,q4,hs,q5⟩
 have up:∀j (hj:j+1<ps.length),ps[j].End≤ps[j+1].Start:=fun j hj=>by
  obtain⟨x,y,_,q2,q3,q4,q5,q6⟩:=at_ j (by omega);obtain⟨x',y',_,r2,_,_,_,r6⟩:=at_ (j+1) hj;obtain⟨u,v,s1,s2,s3⟩:=S.up j (by omega);rw[q2,zD] at s1
  rw[r2,zD] at s2
  subst s1 s2;simp only[yH] at s3
  obtain⟨m1,m2⟩:=Ek (s:=B2 h.Fleet a.Ship) hc q5;rw[Au (by omega) (by omega)] at s3
  rw[q6,r6];exact s3
 refine⟨hne,fun p hpm=> ?_,⟨a.Ship,fun p hpm=> ?_⟩,fun j hj=>⟨?_,up j hj⟩⟩
 ·obtain⟨j,hj,rfl⟩:=zH hpm;obtain⟨x,y,q1,q2,q3,q4,q5,q6⟩:=at_ j hj;obtain⟨m1,m2⟩:=Ek (s:=B2 h.Fleet a.Ship) hc q5
  have hend:y+AE (Am h.Chart ps[j].Segment) (B2 h.Fleet a.Ship)≤2880:=by
   obtain⟨z,z1,_,z3⟩:=S.sf j (by omega);rw[q2,zD] at z1
   subst z1;simpa using z3
  rw[q6];simp only[U9,DD,zB,decide_eq_true_eq];exact⟨ha.1,q5,⟨q3,q4⟩,hend,(Au (by omega) (by omega)).symm⟩
 ·obtain⟨j,hj,rfl⟩:=zH hpm;obtain⟨x,y,q1,q2,q3,q4,q5,q6⟩:=at_ j hj;rw[q6]
 ·have e:∀j (hj:j<ps.length),∃x,pts[j]?=E x∧0≤BB (Am h.Chart ps[j].Segment) x∧pts[j+1]?=E (BB (Am h.Chart ps[j].Segment) x)∧Mg h.Chart ps[j]=(x,BB (Am h.Chart ps[j].Segment) x):=fun j hj=>by
   obtain⟨x,y,q1,q2,q3,q4,q5,q6⟩:=at_ j hj;obtain⟨x',t1,t2,t3⟩:=hr.stp j (by omega);simp only[yH] at t2 t3
   rw[q1,zD] at t1
   subst t1;refine⟨x,q1,t3,t2,?_⟩;rw[← dB t3];have ht:ps[j].Toward=((Am h.Chart ps[j].Segment).A==x):=by rw[q6]
   unfold Mg;rw[ht]
  obtain⟨x,_,_,g3,g4⟩:=e j (by omega);obtain⟨x',k1,_,_,k4⟩:=e (j+1) hj;rw[g3,zD] at k1
  rw[g4,k4,k1]
section
variable {c : X0} {fl : G X6}
end
def WF(h:X9)(pl:G X5):Prop:=∀o∈pl,GoodP h.Chart h.Fleet o.Passages∧o.Passages.length≤1048576
theorem Oq{m n:X}(h:m+n≤140737488355328):DO m n=T:=by
 unfold DO;simp only[decide_eq_true_eq];omega
theorem lA(P:X→X→Prop){len:X}(h0:∀n,P (n+1) len)(hs:∀n i,i<len→P n (i+1)→P (n+1) i):∀k i n,i+k=len→k<n→P n i:=by
 intro k
 induction k with
 | zero=>
  intro i n h1 h2;obtain⟨q,rfl⟩:=sn (n:=n) (by omega);obtain rfl:i=len:=by omega
  exact h0 q
 | succ k ih=>
  intro i n h1 h2;obtain⟨q,rfl⟩:=sn (n:=n) (by omega);exact hs q i (by omega) (ih _ _ (by omega) (by omega))
theorem Ra:∃m,bigN=m+1∧1000000000000<m:=⟨1208925819614629174706175,by rw[M8],by omega⟩
def Mb(y:X4):X:=(Dc y).countP fun b=> !b
theorem ZZ{l:G U}:∀{n:X},l[n]?=E F→((l.set n T).countP fun b=> !b)+1=l.countP fun b=> !b:=by
 induction l with
 | nil=>intro n h; simp at h
 | cons a l ih=>
  intro n h;cases n with
  | zero=>simp only[zX,zD] at h; subst h; simp
  | succ n=>
   simp only[List.getElem?_cons_succ] at h;have:=ih h;simp only[List.set_cons_succ,List.countP_cons];omega
theorem Ri{y:X4}{a:Q}(h:ix (Dc y) a=E F):Mb (X4.set y (Int.toNat a) T)+1=Mb y∧0≤a∧a<8:=by
 have hg:=Ay h;have hl:(Dc y).length=8:=rfl
 have ha:0≤a:=by
  unfold ix at h;split at h
  ·rename_i h1; exact h1
  ·cases h
 have hn:a.toNat<8:=by
  have:=(List.getElem?_eq_some_iff.1 hg).1;omega
 refine⟨?_,ha,by omega⟩;unfold Mb;rw[UA y hn];exact ZZ hg
theorem Rh{l:G Q}(h:l.length≤1000):BW l=E l:=by
 unfold BW Ck;rw[if_pos ⟨by omega,by omega,by omega,by omega⟩];simp only[C,Int.toNat_zero,List.replicate_zero,List.nil_append];rw[if_pos (by simp only[A4,List.length_nil,decide_eq_true_eq]; omega)]
structure Lead (c:X0) (a:Q) (rt l:G Q):Prop where
 r:RtOk c rt l
 hd:l[0]?=E a
 fr:∀i (h:i+1<l.length),((l.take (i+1)).any fun z=>z==l[i+1])=F
theorem Lead.snoc{c:X0}{a:Q}{rt l:G Q}(H:Lead c a rt l){x:Q}(hx:l.getLast?=E x){i:X}(hi:i<c.Segments.length)(he:idx (BB c.Segments[i] x) c.Points.length=T)(hf:(l.any fun z=>z==BB c.Segments[i] x)=F) :
  Lead c a (rt++ [(i:Q)]) (l++ [BB c.Segments[i] x]):=by
 have hlen:=H.r.len;have hsi:idx (i:Q) c.Segments.length=T:=Iw.2 ⟨by omega,by omega⟩;have hsg:Am c (i:Q)=c.Segments[i]:=by unfold Am; rw[Int.toNat_natCast,I hi]; rfl
 refine⟨⟨by simp; omega,fun y hy=> ?_,fun j hj=> ?_,fun j hj=> ?_⟩,by rw[zC (by omega)]; exact H.hd,fun j hj=> ?_⟩
 ·rcases zN.1 hy with hy|hy
  ·exact H.r.pt y hy
  ·rw[zJ] at hy; subst hy; exact he
 ·by_cases h:j<rt.length
  ·rw[zR h]; exact H.r.seg j h
  ·rw[zP (by omega)]; simpa using hsi
 ·simp only[yD,yA] at hj
  by_cases h:j<rt.length
  ·obtain⟨y,y1,y2,y3⟩:=H.r.stp j h;rw[zR h];exact⟨y,by rw[zC (by omega)]; exact y1,by rw[zC (by omega)]; exact y2,y3⟩
  ·obtain rfl:j=rt.length:=by omega
   rw[zP (by omega)];simp only[Nat.sub_self,List.getElem_singleton,hsg];exact⟨x,by rw[zC (by omega),← hx,zL,hlen]; rfl,by rw[zG (by omega),hlen]; simp,(Iw.1 he).1⟩
 ·simp only[yD,yA] at hj
  by_cases h:j+1<l.length
  ·rw[yC (by omega),zR h];exact H.fr j h
  ·have e:j+1=l.length:=by omega
   rw[zP (by omega)];simp only[e,Nat.sub_self,List.getElem_singleton];rw[yC (by omega),yG];exact hf
theorem Lead.points{c:X0}{a:Q}{rt l:G Q}(hc:AW c=T)(hl:rt.length≤1000000)(H:Lead c a rt l):F8 c a rt=E (l,T):=by
 have hlen:=H.r.len;have h10:=(C5 hc).2.1
 have h1:l.take 1= [a]:=by
  have h0:=H.hd;cases l with
  | nil=>cases h0
  | cons x l=>simp only[zX,zD] at h0; subst h0; rfl
 unfold F8;rw[← h1];refine CQ (fun n i=>D9 rt c n (i:Q) (l.take (i+1))=E (l,T)) (AG (by omega)) (fun n=> ?_) (fun n i hi ih=> ?_) (zK rt.length)
 ·rw[D9,if_neg (by simp),← hlen,yG]
 ·obtain⟨x,x1,x2,x3⟩:=H.r.stp i hi;have hi1:i+1<l.length:=by omega
  have hlast:(l.take (i+1)).getLast?=E x:=by
   rw[zL,List.length_take,Nat.min_eq_left (by omega),List.getElem?_take_of_lt (by omega)];simpa using x1
  rw[I hi1,zD] at x2
  have hfr:=H.fr i hi1;rw[x2] at hfr
  have hneg:¬BB (Am c rt[i]) x<0:=by omega
  rw[D9];simp only[Aj,hi,decide_true,if_true,At hi,C,CO _ (show c.Segments.length≤1000 by omega),H.r.seg i hi,(C8 (H.r.seg i hi)).1,Li (AG (n:=(l.take (i+1)).length) (by simp; omega)) hlast,PC,hneg,decide_false,zA,if_false,OO (AG (n:=(l.take (i+1)).length) (by simp; omega)),hfr,F9];rw[if_pos (BH (by simp; omega) (by simp) (by omega)),AK hi (AG (by omega)),← x2];rw[show l.take (i+1)++ [l[i+1]]=l.take (i+1+1) by rw[zQ hi1]];exact ih
theorem rJ{c:X0}(hc:AW c=T){a0:Q}:∀(u n:X) (a b:Q) (rt pts:G Q) (y:X4) (out:G (G Q)),u<n→Mb y≤u→ix (Dc y) a=E F→Met (X4.set y a.toNat T) pts→pts.getLast?=E a→Lead c a0 rt pts→rt.length+u≤100→out.length+10 ^ u≤100000000→
  ∃r,EO n c a b rt y out=E r∧Fb n c pts rt b out=E r∧r.length≤out.length+10 ^ u∧∀x∈r,x∈out∨(x.length≤100∧∃p,Lead c a0 x p∧p.getLast?=E b):=by
 obtain⟨_,hs10,_,_⟩:=C5 hc;intro u
 induction u with
 | zero=>
  intro n a b rt pts y out hn hu hi;have:=(Ri hi).1;omega
 | succ u ih=>
  intro n a b rt pts y out hn hu hi hm hla hL hr ho;obtain⟨q,rfl⟩:=sn (n:=n) (by omega);obtain⟨hc1,ha0,ha8⟩:=Ri hi;have hp:10 ^ (u+1)=10*10 ^ u:=by rw[Nat.pow_succ]; omega
  have hp1:0<10 ^ u:=Nat.pow_pos (by omega);have hpl:=hL.r.len;rw[EO,Mi,Fb,MS,Li (AG (by omega)) hla,C];by_cases hab:(a==b)=T
  ·have e:a=b:=by simpa using hab
   rw[if_pos hab,if_pos hab,Rh (by omega),C,if_pos (BH (by omega) (by simp) (by omega)),if_pos (BH (by simp) (by omega) (by omega))];refine⟨_,Z,Z,by simp; omega,fun x hx=> ?_⟩;rcases zN.1 hx with hx|hx
   ·exact Or.inl hx
   ·simp only[zJ] at hx; subst hx; exact Or.inr ⟨by omega,pts,hL,e▸hla⟩
  ·rw[if_neg hab,if_neg hab,if_pos (by simp; omega)];generalize hy:X4.set y (Int.toNat a) T=y' at hm
   have hy':(⟨y'.i0,y'.i1,y'.i2,y'.i3,y'.i4,y'.i5,y'.i6,y'.i7⟩:X4)=y':=rfl;rw[hy'];rw[hy] at hc1
   obtain⟨r,e1,e2,e3,e4⟩:=CQ (fun m i=>∀o:G (G Q),o.length≤out.length+i*10 ^ u→(∀x∈o,x∈out∨(x.length≤100∧∃p,Lead c a0 x p∧p.getLast?=E b))→
     ∃r,EN (EO q) a b rt c y' m (i:Q) o=E r∧Fa (Fb q) pts rt b a c m (i:Q) o=E r∧r.length≤out.length+c.Segments.length*10 ^ u∧∀x∈r,x∈out∨(x.length≤100∧∃p,Lead c a0 x p∧p.getLast?=E b)) (AG (n:=c.Segments.length) (by omega))
    (fun m o hl hx=>⟨o,by simp[EN],by simp[Fa],hl,hx⟩) (fun m i hlt ihk o hl hx=>by
     have hsucc:(i+1)*10 ^ u=i*10 ^ u+10 ^ u:=Nat.succ_mul i _;have hle:i*10 ^ u≤9*10 ^ u:=Nat.mul_le_mul_right _ (by omega);rw[EN,Fa];simp only[Aj,hlt,decide_true,if_true,At hlt,C,OE,PC];have he:=Rr hc (zE hlt) a;have hE:∃e,BB c.Segments[i] a=e:=⟨_,rfl⟩;obtain⟨e,hE⟩:=hE;rw[hE] at he ⊢
     by_cases h0:0≤e
     ·have hei:=he.resolve_left (by omega);have he':=Iw.1 hei;have hp8:=(C5 hc).1;have hd:(decide (0≤e)&&decide (e<8))=T:=by simp; omega
      have hmE:=hm e h0 (by omega);have hmE':=hmE;unfold Dc at hmE'
      simp only[h0,decide_true,if_true,OO (AG (n:=pts.length) (by omega)),C];rw[if_pos (by simp; omega),hmE',C];cases hb:pts.any fun z=>z==e with
      | true=>
       simp only[FX,GZ,Bool.not_true,zA,if_false,AK hlt (AG (n:=c.Segments.length) (by omega))];exact ihk o (by omega) hx
      | false=>
       simp only[FX,GZ,Bool.not_false,if_true,AK hlt (AG (n:=c.Segments.length) (by omega))];rw[Rh (by omega),C,if_pos (BH (by omega) (by simp) (by omega)),if_pos (BH (by simp) (by omega) (by omega)),if_pos (BH (by omega) (by simp) (by omega)),if_pos (BH (by simp) (by omega) (by omega)),if_pos (BH (by omega) (by simp) (by omega))];rw[hb] at hmE
       obtain⟨r,e1,e2,e3,e4⟩:=ih q e b (rt++ [(i:Q)]) (pts++ [e]) y' o (by omega) (by omega) hmE (hm.snoc h0 (by omega)) (by simp) (by have:=hL.snoc hla hlt (by rw[hE]; exact hei) (by rw[hE]; exact hb); rw[hE] at this; exact this) (by simp; omega) (by omega);rw[e1,e2,C,C]
       exact ihk r (by omega) fun x h=>by
        rcases e4 x h with h|h
        ·exact hx x h
        ·exact Or.inr h
     ·simp only[h0,decide_false,zA,if_false,FX,GZ,AK hlt (AG (n:=c.Segments.length) (by omega))];exact ihk o (by omega) hx) (zK _) out (by omega) fun x hx=>Or.inl hx
   have hle:c.Segments.length*10 ^ u≤10*10 ^ u:=Nat.mul_le_mul_right _ hs10;exact⟨r,e1,e2,by omega,e4⟩
theorem Zp{c:X0}(hc:AW c=T){a b:Q}(ha:idx a c.Points.length=T)(hb:idx b c.Points.length=T):∃r,KO c a b=E r∧JG c a b=E r∧r.length≤100000000∧∀x∈r,x.length≤100∧∃p,Lead c a x p∧p.getLast?=E b:=by
 have hp8:=(C5 hc).1;have hn:=(C5 hc).2.2.1;have ha':=Iw.1 ha
 have hi:ix (Dc ⟨F,F,F,F,F,F,F,F⟩) a=E F:=by
  obtain⟨n,rfl⟩:∃n:X,a=(n:Q):=⟨a.toNat,by omega⟩;have:n=0∨n=1∨n=2∨n=3∨n=4∨n=5∨n=6∨n=7:=by omega
  rcases this with rfl|rfl|rfl|rfl|rfl|rfl|rfl|rfl<;>rfl
 have m0:Met ⟨F,F,F,F,F,F,F,F⟩ []:=fun x x0 x8=>by
  obtain⟨n,rfl⟩:∃n:X,x=(n:Q):=⟨x.toNat,by omega⟩;have:n=0∨n=1∨n=2∨n=3∨n=4∨n=5∨n=6∨n=7:=by omega
  rcases this with rfl|rfl|rfl|rfl|rfl|rfl|rfl|rfl<;>rfl
 obtain⟨r,e1,e2,e3,e4⟩:=rJ hc (a0:=a) 8 bigN a b [] [a] ⟨F,F,F,F,F,F,F,F⟩ [] (by rw[M8]; omega) (by decide) hi (m0.snoc ha'.1 (by omega)) rfl ⟨⟨rfl,by simpa using ha,fun i h=>by simp at h,fun i h=>by simp at h⟩,rfl,fun i h=>by simp at h⟩ (by simp) (by simp);refine⟨r,?_,?_,by simpa using e3,fun x hx=>(e4 x hx).resolve_left (by simp)⟩
 ·unfold KO OH;simp only[DI hn,hc,C,if_true,CO _ (show c.Points.length≤1000 by omega),ha,hb,e2]
 ·unfold JG OF;simp only[Ef hn,hc,C,if_true,Ee,ha,hb,e1]
theorem Zo{c:X0}(hc:AW c=T){a b:Q}(ha:idx a c.Points.length=T)(hb:idx b c.Points.length=T):∃rt q,Kx c a b=E (rt,q)∧Jp c a b=E (rt,q)∧(q=F→rt= [])∧(q=T→rt.length≤100∧∃p,Lead c a rt p∧p.getLast?=E b):=by
 obtain⟨r,e1,e2,e3,e4⟩:=Zp hc ha hb;unfold Kx Jp;rw[e1,e2,C,C];cases hr0:r with
 | nil=>exact⟨[],F,by obtain⟨m,hm,_⟩:=Ra; rw[hm]; rfl,rfl,fun _=>rfl,fun h=>by cases h⟩
 | cons r0 rs=>
  rw[← hr0];have hpos:0<r.length:=by rw[hr0]; simp
  have hz:((r.length:Q)==(0:Q))=F:=beq_eq_false_iff_ne.2 (by omega);have h00:ix r (0:Q)=E r0:=by rw[hr0]; rfl
  have hm0:r0∈r:=by rw[hr0]; simp
  have hlm:r.length≤maxLen:=AG (by omega);rw[hz,if_neg (by simp),h00,C]
  have rm:∀x∈r,∃m,F6 c x=E m∧ET c x=E m:=fun x hx=>by
   obtain⟨h1,p,h2,_⟩:=e4 x hx;obtain⟨m,m1,m2,_⟩:=Ur hc (rt:=x) (by omega) h2.r.seg;exact⟨m,m1,m2⟩
  have key:=lA (fun n i=>∀v∈r,∃rt∈r,E5 r c n v T (i:Q)=E (rt,T)∧DP r c n v (i:Q)=E (rt,T)) (len:=r.length)
   (fun n v hv=>⟨v,hv,by simp[E5],by simp[DP]⟩) (fun n i hi ih v hv=>by
    obtain⟨m1,g1,g2⟩:=rm _ (zE hi);obtain⟨m2,g3,g4⟩:=rm v hv;rw[E5,DP];simp only[Aj,hi,decide_true,if_true,At hi,C,g1,g2,g3,g4,AK hi hlm,Ig];by_cases hlt:m1<m2
    ·simp only[hlt,decide_true,if_true];exact ih _ (zE hi)
    ·simp only[hlt,decide_false,zA,if_false];exact ih v hv)
  obtain⟨m,hm,hm1⟩:=Ra;obtain⟨rt,hrt,k1,k2⟩:=key (r.length - 1) 1 m (by omega) (by omega) r0 hm0;obtain⟨m1,g1,g2⟩:=rm r0 hm0;refine⟨rt,T,?_,?_,(fun h=>by cases h),fun _=>e4 rt hrt⟩
  ·rw[hm,E5];have hd:(decide ((0:Q)<(r.length:Q)))=T:=by simp; omega
   simp only[hd,if_true,h00,C,zA,if_false,Ig];exact k1
  ·rw[hm,DP];have hd:(decide ((0:Q)<(r.length:Q)))=T:=by simp; omega
   simp only[hd,if_true,h00,C,g2,show ¬m1<m1 by omega,decide_false,zA,if_false];exact k2
def FH(h:X9)(o:X5):Prop:=(GoodP h.Chart h.Fleet o.Passages∧o.Passages.length≤1048576)∧0≤o.Cost∧o.Cost≤2880
theorem AtOk.optG{h:X9}{a:Xe}{rt:G Q}{st:Q}{o:X5}(hh:Cp h=T)(hl:rt.length≤100)(H:AtOk h a rt st o)(h1:0≤o.Cost)(h2:o.Cost≤2880):FH h o:=by
 obtain⟨ha,pts,l,hr,S,hp⟩:=H
 have e:rt=o.Passages.map fun p=>p.Segment:=by
  refine List.ext_getElem (by simp[hp.1]) fun i g1 g2=> ?_
  obtain⟨x,y,_,_,_,_,q⟩:=hp.2 i g1 g1;simp only[List.length_map] at g2
  rw[I g2,zD] at q
  simp[q]
 have hlen:=hp.1;subst e;exact⟨⟨AtOk.good hh ⟨ha,pts,l,hr,S,hp⟩,by omega⟩,h1,h2⟩
theorem mO{h:X9}(s:HSmall h)(hh:Cp h=T){a:Xe}(ha:Cz h a=T):∃L,KJ h a=E L∧D5 h a=E L∧L.length≤8∧∀o∈L,FH h o:=by
 obtain⟨hf,hc,hfl,_,_⟩:=ON hh;have ha':=ha;simp only[Cz,DD,zB,decide_eq_true_eq] at ha'
 obtain⟨q1,q2,q3,q4,⟨q5,q6⟩,q7,q8⟩:=ha';obtain⟨s1,s2⟩:=TA q1;have hso:=(RN hfl).2 _ s2;have hsn:=s.fn _ s2;obtain⟨rt,q,b1,b2,b3,b4⟩:=Zo hc q2 q3;have nil_:∃L,E ([]:G X5)=E L∧E ([]:G X5)=E L∧L.length≤8∧∀o∈L,FH h o:=⟨[],rfl,rfl,by simp,fun o h=>by cases h⟩;unfold KJ D5;simp only[UC s,Tf s,hh,ha,Bool.and_self,C,if_true,b1,b2];cases q with
 | false=>
  rw[b3 rfl];obtain⟨pts,bb,g1,g2,g3,g4,_,_⟩:=Us hc (rt:= []) (a:=a.From) (by simp)
  have hv:∃v,Ga h a []=E v:=by
   unfold Ga;rw[g4,C];split
   ·exact⟨_,Z⟩
   ·have hl:pts.length≤1:=by
     have:=g4;obtain⟨p,b',e1,e2,e3,e4⟩:=Uc hc q2 (rt:= []) (by simp);have hn:=(C5 hc).2.2.1;unfold D6 at this
     rw[Ef hn,hc,C,if_pos rfl,e2,C,zD] at this
     subst this;cases b' with
     | false=>rw[e3 rfl]; simp
     | true=>rw[(e4 rfl).len]; simp
    rename_i hne
    have:∃x,pts.getLast?=E x:=by
     cases hp:pts.getLast? with
     | none=>rw[List.getLast?_eq_none_iff] at hp; rw[hp] at hne; simp at hne
     | some x=>exact⟨x,rfl⟩
    obtain⟨x,hx⟩:=this;rw[Li (AG (by omega)) hx,C];unfold HX;split
    ·exact⟨_,Z⟩
    ·rw[s1,C]
     have:∃w,Gd h.Forecast h.Chart (B2 h.Fleet a.Ship) a.From []=E w:=by
      unfold Gd;simp only[L9,Fl hsn,hf,hso,g2,C,if_true];split<;>exact⟨_,rfl⟩
     obtain⟨w,hw⟩:=this;rw[hw];exact⟨_,Z⟩
  obtain⟨v,hv⟩:=hv;simp only[hv,C,zA,if_false];exact nil_
 | true=>
  obtain⟨hl,p,P,hp⟩:=b4 rfl;obtain⟨pts,bb,g1,g2,g3,g4,g5,g6⟩:=Us hc (rt:=rt) (a:=a.From) (by omega)
  have hpts:bb=T∧pts=p:=by
   have e:=P.points hc (by omega);have hn:=(C5 hc).2.2.1;have h8:=(C5 hc).1;unfold Du at g1
   simp only[DI hn,hc,C,if_true,CO _ (show h.Chart.Points.length≤1000 by omega),q2,e,zD] at g1
   subst g1;unfold E7 Du at g3
   simp only[DI hn,hc,C,if_true,CO _ (show h.Chart.Points.length≤1000 by omega),q2,e,zD] at g3
   exact⟨Z,g3.symm⟩
  obtain⟨rfl,rfl⟩:=hpts;have hr:=g6 rfl;have hpl:=hr.len
  have h0:rt≠ []:=fun e=>by
   subst e;have hd:=P.hd;rw[zL,hpl] at hp
   rw[show([]:G Q).length+1 - 1=0 from rfl,hd] at hp
   exact q4 (Option.some.inj hp)
  obtain⟨v,v1,V⟩:=qJ hf hc hso hsn (by omega) hr h0 g2 g4;have hz:((pts.length:Q)==(0:Q))=F:=beq_eq_false_iff_ne.2 (by omega)
  have hcv:Ga h a rt=E (v,T):=by
   unfold Ga;simp only[g4,C,hz,zA,if_false,Li (AG (by omega)) hp,bne_self_eq_false,HX,s1,v1]
  simp only[hcv,C,if_true,s1,V.st,g3]
  have key:∀(k n:X) (m:Q) (acc:G X5),2880<m+15*(k:Q)→k<n→a.Ready≤m→m≤2880+15→acc.length≤8→(∀o∈acc,FH h o)→
    ∃L,E6 (rt,T) h a (B2 h.Fleet a.Ship) v.sure pts n m acc=E L∧Dn (rt,T) h a (v,T) n m acc=E L∧L.length≤8∧∀o∈L,FH h o:=by
   intro k
   induction k with
   | zero=>
    intro n m acc h1 h2 h3 h4 h5 h6;obtain⟨q,rfl⟩:=sn (n:=n) (by omega);have:¬m≤a.Due:=by omega
    exact⟨acc,by simp[E6,this],by simp[Dn,this],h5,h6⟩
   | succ k ih=>
    intro n m acc h1 h2 h3 h4 h5 h6;obtain⟨q,rfl⟩:=sn (n:=n) (by omega);rw[E6,Dn];by_cases hd:m≤a.Due
    ·by_cases h8:(acc.length:Q)<8
     ·have hw:yL .i64 (m+15)=m+15:=Au (by omega) (by omega);obtain⟨l,b,c1,c2,c3⟩:=mN ha hc hso hsn (by omega) V g1 g2 g3 g4 h3 (by omega);simp only[hd,h8,decide_true,if_true,c1,C];cases b with
      | false=>
       obtain⟨o,o1⟩:=c2 rfl;simp only[o1,C,zA,if_false,GO,ES,hw];exact ih q _ acc (by omega) (by omega) (by omega) (by omega) h5 h6
      | true=>
       obtain⟨o,o1,o2,o3,_,o4,o5,_⟩:=c3 rfl;simp only[o1,o2,C,if_true,GO,ES,hw];rw[if_pos (BH (by omega) (by simp) (by omega)),if_pos (BH (by omega) (by simp) (by omega))]
       exact ih q _ _ (by omega) (by omega) (by omega) (by omega) (by simp; omega) fun x hx=>by
        rcases zN.1 hx with hx|hx
        ·exact h6 x hx
        ·rw[zJ] at hx; subst hx; exact o3.optG hh hl o4 o5
     ·simp only[hd,h8,decide_true,decide_false,if_true,zA,if_false];exact⟨acc,Z,Z,h5,h6⟩
    ·simp only[hd,decide_false,zA,if_false];exact⟨acc,Z,Z,h5,h6⟩
  exact key 200 bigN a.Ready [] (by omega) (by rw[M8]; omega) (Int.le_refl _) (by omega) (by simp) fun o h=>by cases h
structure CallsGood (h:X9) (cs:G Xe):Prop where
 ok:∀a∈cs,Cz h a=T
 six:cs.length≤6
section
variable {h : X9} {cs : G Xe} {os : G (G X5)}
def GoodC(h:X9)(pl:G X5):Prop:=∀o∈pl,FH h o
theorem GoodC.pl{pl:G X5}(H:GoodC h pl):WF h pl:=fun o ho=>(H o ho).1
theorem GoodC.snoc{pl:G X5}{o:X5}(H:GoodC h pl)(ho:FH h o):GoodC h (pl++ [o]):=fun x hx=>by
 rcases zN.1 hx with hx|hx
 ·exact H x hx
 ·rw[zJ] at hx; subst hx; exact ho
def Chos(os:G (G X5))(pl:G X5)(ch:G Q):Prop:=pl.length=ch.length∧∀i (h:i<pl.length),∃(l:G X5) (c:X),os[i]?=E l∧ch[i]?=E (c:Q)∧l[c]?=E pl[i]
theorem Chos.snoc{pl:G X5}{ch:G Q}(H:Chos os pl ch){l:G X5}(hl:os[pl.length]?=E l){i:X}(hi:i<l.length):Chos os (pl++ [l[i]]) (ch++ [(i:Q)]):=by
 obtain⟨h1,h2⟩:=H;refine⟨by simp; omega,fun j hj=> ?_⟩;simp only[yD,yA] at hj
 by_cases h:j<pl.length
 ·obtain⟨l',c,c1,c2,c3⟩:=h2 j h;exact⟨l',c,c1,by rw[zC (by omega)]; exact c2,by rw[zR h]; exact c3⟩
 ·obtain rfl:j=pl.length:=by omega
  exact⟨l,i,hl,by rw[h1,zG (by omega)]; simp,by rw[zP (by omega),I hi]; simp⟩
end
theorem ZG{m n:X}(h:m+n≤140737488355328):DO m n=T:=by
 unfold DO;rw[decide_eq_true_eq];omega
theorem ifc{α:Type}{m n:X}(h:m+n≤140737488355328)(x y:α):(if DO m n=T then x else y)=x:=by rw[if_pos (ZG h)]
end Go.Vi
