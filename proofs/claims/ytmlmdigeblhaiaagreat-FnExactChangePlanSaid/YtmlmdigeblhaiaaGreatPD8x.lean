/-
Plain laws. No condition.
-/
import Derived.Test.YtmlmdigeblhaiaaGreatPR8b
namespace Go.Vi
set_option linter.all false
open Option renaming bind_some → G
open Int renaming toNat_natCast → H
open List renaming set_set → L
open _root_ renaming List → T, Int → F, Nat → E
def A0y{α:Type}{Lm:E->F->F->T α->Option (F × T α)}{Lh:T α->E->F->F->Option F}(xs:T α)(c:E)(e:F->α)(k0:F)(h0:0<=k0)(hc:c<=100)(hl:xs.length<=1048576)(hk:k0<=100000000000000)
  (hm:∀(n i:E) (k:F) (acc:T α),i<acc.length->acc.length<=1048576->0<=k->k<=1000000000000000->Lm (n+1) k (i:F) acc=Lm n (k+c) ((i+1:E):F) (acc.set i (e k)))
  (hme:∀(n:E) (k:F) (acc:T α),Lm (n+1) k (acc.length:F) acc=some (k,acc))
  (hh:∀(n i:E) (k:F) (ys:T α) (hi:i<ys.length),ys.length<=1048576->0<=k->k<=1000000000000000->ys[i]=e k->Lh ys (n+1) k (i:F)=Lh ys n (k+c) ((i+1:E):F))
  (hhe:∀(n:E) (k:F) (ys:T α),Lh ys (n+1) k (ys.length:F)=some k) :
  ∃ys,Lm bigN k0 0 xs=some (k0+c*(xs.length:F),ys)/\ys.length=xs.length/\Lh ys bigN k0 0=some (k0+c*(xs.length:F)):=by
 have bnd:∀i:E,i<=xs.length->k0+(c:F)*(i:F)<=1000000000000000/\0<=k0+(c:F)*(i:F):=by
  intro i hi;have h1:c*i<=100*1048576:=Nat.mul_le_mul hc a9;have h2:((c*i:E):F)=(c:F)*(i:F):=by simp
  omega
 have keym:∀(k i n:E) (acc:T α),i+k=acc.length->acc.length=xs.length->k<n->(∀j (hj:j<acc.length),j<i->acc[j]=e (k0+c*(j:F)))->
   ∃ys,Lm n (k0+c*(i:F)) (i:F) acc=some (k0+c*(xs.length:F),ys)/\ys.length=xs.length/\∀j (hj:j<ys.length),ys[j]=e (k0+c*(j:F)):=by
  intro k
  induction k with
  | zero=>
   intro i n acc hi ha hn hj;obtain⟨m,rfl⟩:∃m,n=m+1:=⟨n - 1,a9⟩;have:i=acc.length:=by omega
   subst this;exact⟨acc,by rw[hme,ha],ha,fun j hj2=>hj j hj2 hj2⟩
  | succ k ih=>
   intro i n acc hi ha hn hj;obtain⟨m,rfl⟩:∃m,n=m+1:=⟨n - 1,a9⟩;have hb:=bnd i a9;rw[hm m i _ acc a9 a9 hb.2 hb.1]
   obtain⟨ys,e1,e2,e3⟩:=ih (i+1) m (acc.set i (e (k0+c*(i:F)))) d3 (by simpa using ha) a9 (fun j hj2 hlt=>by
    by_cases e1:j=i
    .subst e1; simp
    .rw[List.getElem_set_ne (Ne.symm e1)];exact hj j (by simpa using hj2) a9)
   refine⟨ys,?_,e2,e3⟩;rw[<- e1];congr 1
   rw[show(((i+1:E):F))=(i:F)+1 from rfl,Int.mul_add,Int.mul_one];omega
 obtain⟨ys,e1,e2,e3⟩:=keym xs.length 0 bigN xs a9 rfl (BG (by rw[Az]; omega)) (fun j _ h=>by omega)
 have keyh:∀(k i n:E),i+k=ys.length->k<n->Lh ys n (k0+c*(i:F)) (i:F)=some (k0+c*(xs.length:F)):=by
  intro k
  induction k with
  | zero=>
   intro i n hi hn;obtain⟨m,rfl⟩:∃m,n=m+1:=⟨n - 1,a9⟩;have:i=ys.length:=by omega
   subst this;rw[hhe,e2]
  | succ k ih=>
   intro i n hi hn;obtain⟨m,rfl⟩:∃m,n=m+1:=⟨n - 1,a9⟩;have hb:=bnd i a9;rw[hh m i _ ys a9 a9 hb.2 hb.1 (e3 i a9)];rw[<- ih (i+1) m a9 a9];congr 1
   rw[show(((i+1:E):F))=(i:F)+1 from rfl,Int.mul_add,Int.mul_one];omega
 refine⟨ys,?_,e2,?_⟩
 .simpa using e1
 .have:=keyh ys.length 0 bigN a9 (BG (by rw[Az]; omega));simpa using this
def i64(n:F):Prop:= -9223372036854775808<=n/\n<=9223372036854775807
def Ki{α:Type}{Lm:E->F->F->T α->Option (F × T α)}(c:E)(hc:c<=10)
  (hm:∀(n i:E) (k:F) (acc:T α),i<acc.length->0<=k->k<=1000000000000->∃e,Lm (n+1) k (i:F) acc=Lm n (k+c) (IntKind.i64.wrap ((i:F)+1)) (acc.set i e))
  (he:∀(n:E) (k:F) (acc:T α),Lm (n+1) k (acc.length:F) acc=some (k,acc)) (xs:T α) (k0:F) (h0:0<=k0) (hk:k0<=100000000000) (hl:xs.length<=1048576):∃r,Lm bigN k0 0 xs=some r/\0<=r.1/\r.1<=k0+10485760:=by
 have hlm:xs.length<=maxLen:=Ak a9;refine Bi (fun n i=>∀(k:F) acc,acc.length=xs.length->0<=k->k<=k0+(10*i:E)->∃r,Lm n k (i:F) acc=some r/\0<=r.1/\r.1<=k0+10485760) hlm (fun n k acc h1 h2 h3=>⟨(k,acc),by rw[<- h1]; exact he n k acc,h2,by simp only; omega⟩) (fun n i hi ih k acc h1 h2 h3=> ?_) (Nat.zero_le _) k0 xs rfl h0 a9;obtain⟨e,e1⟩:=hm n i k acc a9 h2 a9;rw[e1,Au hi hlm];exact ih _ _ (by simpa using h1) a9 a9
def Ke{α:Type}{l:T α}{i:E}{v:α}(h:i<l.length):ix (l.set i v) (i:F)=some v:=by rw[Am,List.getElem?_set_self h]
def cL(k:F)(h0:0<=k)(hk:k<=1000000000000):∃r,LG k=some r:=by
 have key:∀(m n:E) (v:F) (acc:T UInt8),m<n->0<=v->v<10 ^ m->v<=1000000000000->acc.length+m<=1000->∃r,Jh n v acc=some r:=by
  intro m
  induction m with
  | zero=>
   intro n v acc hn h0 hv _ ha;obtain⟨q,rfl⟩:=sn (n:=n) a9;have hv0:¬(0:F)<v:=by simp at hv; omega
   exact⟨[109]++acc,by rw[Jh,if_neg (by simp[hv0]),if_pos (TO d3)]⟩
  | succ m ih=>
   intro n v acc hn h0 hv hb ha;obtain⟨q,rfl⟩:=sn (n:=n) a9;rw[Jh];by_cases hp:(0:F)<v
   .rw[if_pos (by simp[hp]),if_pos (TO d3),show Int.tdiv v 10=v / 10 from Int.tdiv_eq_ediv_of_nonneg h0,Ai a9 a9];refine ih q _ _ a9 a9 ?_ a9 d3;have:(10:F) ^ (m+1)=10 ^ m*10:=Int.pow_succ 10 m;omega
   .exact⟨[109]++acc,by rw[if_neg (by simp[hp]),if_pos (TO d3)]⟩
 unfold LG;by_cases h:k<=0
 .exact⟨[109,48],by simp only[h,decide_true,if_true]⟩
 .simp only[h,decide_false,Bool.false_eq_true,if_false];exact key 13 bigN k [] (BG (Ak a9)) h0 d3 hk d0
def yr(k:F):k+1+1=k+(2:E):=by omega
def bt(k:F):k+1+1+1=k+(3:E):=by omega
def SI(k:F):k+1+1+1+1+1=k+(5:E):=by omega
def yu(k:F):k+1+1+1+1+1+1=k+(6:E):=by omega
def A0w(a:X3)(b1:a.Forecast.Tide.Parts.length<=1048576)(b2:a.Forecast.Surges.length<=1048576)(b3:a.Chart.Points.length<=1048576)(b4:a.Chart.Segments.length<=1048576)(b5:a.Fleet.length<=1048576)(b6:a.Crew.Moves.length<=1048576) :
  ∃r,Jg a 1=some r/\0<=r.1/\r.1<=1000000000:=by
 obtain⟨r1,e1,l1,u1⟩:=Ki (Lm:=G0) 3 a9 (fun n i k acc hi h0 h1=>⟨_,by
  simp (disch:=omega) only[G0,Aj,hi,decide_true,if_true,Af hi,G,H,Ke hi,L,Ai,bt];rfl⟩) (fun n k acc=>by simp[G0]) a.Forecast.Tide.Parts 1 a9 a9 b1
 obtain⟨r2,e2,l2,u2⟩:=Ki (Lm:=G5) 3 a9 (fun n i k acc hi h0 h1=>⟨_,by
  simp (disch:=omega) only[G5,Aj,hi,decide_true,if_true,Af hi,G,H,Ke hi,L,Ai,bt];rfl⟩) (fun n k acc=>by simp[G5]) a.Forecast.Surges r1.1 l1 a9 b2
 obtain⟨r3,e3,l3,u3⟩:=Ki (Lm:=G2) 2 a9 (fun n i k acc hi h0 h1=>by
  obtain⟨t,ht⟩:=cL k h0 h1
  exact⟨_,by
   simp (disch:=omega) only[G2,ht,Aj,hi,decide_true,if_true,Af hi,G,H,Ke hi,L,Ai,yr];rfl⟩) (fun n k acc=>by simp[G2]) a.Chart.Points r2.1 l2 a9 b3
 obtain⟨r4,e4,l4,u4⟩:=Ki (Lm:=G3) 5 a9 (fun n i k acc hi h0 h1=>⟨_,by
  simp (disch:=omega) only[G3,Aj,hi,decide_true,if_true,Af hi,G,H,Ke hi,L,Ai,SI];rfl⟩) (fun n k acc=>by simp[G3]) a.Chart.Segments r3.1 l3 a9 b4
 obtain⟨r5,e5,l5,u5⟩:=Ki (Lm:=G4) 6 a9 (fun n i k acc hi h0 h1=>by
  obtain⟨t,ht⟩:=cL k h0 h1
  exact⟨_,by
   simp (disch:=omega) only[G4,ht,Aj,hi,decide_true,if_true,Af hi,G,H,Ke hi,L,Ai,yu];rfl⟩) (fun n k acc=>by simp[G4]) a.Fleet r4.1 l4 a9 b5
 obtain⟨r6,e6,l6,u6⟩:=Ki (Lm:=FZ) 1 a9 (fun n i k acc hi h0 h1=>⟨_,by
  simp (disch:=omega) only[FZ,Aj,hi,decide_true,if_true,Af hi,G,H,Ai];rfl⟩) (fun n k acc=>by simp[FZ]) a.Crew.Moves r5.1 l5 a9 b6
 refine⟨(r6.1,r1.2,r2.2,r3.2,r4.2,r5.2,r6.2),?_,l6,by simp only; omega⟩;simp only[Jg,Lx,LH,Lz,e1,G,LF,e2,Lv,LA,e3,LC,e4,LD,e5,Lw,Ly,e6]
end Go.Vi
