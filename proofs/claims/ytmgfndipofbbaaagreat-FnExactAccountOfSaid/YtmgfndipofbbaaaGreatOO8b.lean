/-
Plain laws. No condition.
-/
import Derived.Test.YtmgfndipofbbaaaGreatOO8a
namespace Go.Vi
set_option linter.all false
open Option renaming bind_some → O, some → E
open List renaming getElem?_append_left → Q, getElem_of_mem → V, getLast?_eq_getElem? → X, getElem?_eq_getElem → Y
open Bool renaming and_eq_true → U, false_eq_true → W, true → T, false → F
open Nat renaming zero_le → Z
open _root_ renaming List → G, Int → N
theorem sn{n:Nat}(h:0<n):∃q,n=q+1:=⟨n - 1,by omega⟩
theorem Bb{n:Nat}(h:n≤1000000000000):n≤maxLen:=by rw[AN]; omega
theorem CZ{n k b:Nat}(h:n≤100000000)(hk:k≤1000)(hb:b≤1000):AP n k b=T:=by
 have:(n+k)*b≤100001000*1000:=Nat.mul_le_mul (by omega) hb;simp only[AP,decide_eq_true_eq];omega
theorem BZ(P:Nat→Nat→Prop){len:Nat}(hl:len≤maxLen)(h0:∀n,P (n+1) len)(hs:∀n i,i<len→P n (i+1)→P (n+1) i){i:Nat}(hi:i≤len):P bigN i:=by
 have key:∀k i n,i+k=len→k<n→P n i:=by
  intro k
  induction k with
  | zero=>
   intro i n h1 h2;obtain⟨q,rfl⟩:=sn (n:=n) (by omega);obtain rfl:i=len:=by omega
   exact h0 q
  | succ k ih=>
   intro i n h1 h2;obtain⟨q,rfl⟩:=sn (n:=n) (by omega);exact hs q i (by omega) (ih _ _ (by omega) (by omega))
 exact key (len - i) i bigN (by omega) (Nat.lt_of_le_of_lt (Nat.sub_le _ _) (BL hl))
theorem E5{α R:Type}{L:Nat→N→Option R}(l:G α)(p:α→Bool)(x K:Option R)(hl:l.length≤maxLen)
  (hs:∀(n i:Nat) (h:i<l.length),L (n+1) (i:N)=if p l[i]=T then x else L n (IntKind.i64.wrap ((i:N)+1))) (he:∀n,L (n+1) (l.length:N)=K):L bigN 0=if l.any p=T then x else K:=by
 have:=BZ (fun n i=>L n (i:N)=if(l.drop i).any p=T then x else K) hl (fun n=>by simpa using he n) (fun n i h ih=>by
  simp only[hs n i h,AT h hl,ih,List.drop_eq_getElem_cons h,List.any_cons];cases p l[i]<;>simp) (Z _)
 simpa using this
theorem SR{α:Type}{l:G α}{x:α}(hl:l.length≤maxLen)(h:l.getLast?=E x):ix l (IntKind.i64.wrap ((l.length:N) - 1))=E x:=by
 have h0:0<l.length:=by cases l with | nil=>cases h | cons=>simp
 rw[show(l.length:N) - 1=((l.length - 1:Nat):N) by omega,AF (by omega) (by rw[AN] at hl; omega),Ay,← X,h]
theorem W8{i:N}{n:Nat}:idx i n=T↔0≤i∧i<(n:N):=by simp[idx]
theorem DK{c:X6}(h:Be c=T):c.Points.length≤8∧c.Segments.length≤10∧(∀x∈c.Points,x.Name.length≤maxLen)∧∀x∈c.Segments,idx x.A c.Points.length=T∧idx x.B c.Points.length=T:=by
 simp only[Be,U,decide_eq_true_eq,List.all_eq_true,List.mem_range] at h;obtain⟨h1,h2,h3,h4⟩:=h;refine⟨h1,h2,fun x hx=> ?_,fun x hx=> ?_⟩
 ·obtain⟨i,hi,rfl⟩:=V hx;have:=h3 i hi;simp only[Gx,Y hi,U] at this
  exact Bb (by have:=(A1l this.1).2; omega)
 ·obtain⟨i,hi,rfl⟩:=V hx;have:=h4 i hi;simp only[DF,Y hi,U,decide_eq_true_eq] at this
  exact⟨this.1,this.2.1⟩
theorem Wt{c:X6}{s:X5}{i:N}(hc:Be c=T)(hi:idx i c.Segments.length=T):1≤Bn (B1 c i) s∧Bn (B1 c i) s≤480:=by
 obtain⟨_,_,a,b⟩:=(Fv hc).2.2 _ (C8 hi).2;unfold Bn;split
 ·rw[AF (n:=2*_) (by omega) (by omega)]; omega
 ·omega
def CU(h:X7)(a:Xa):Bool:=idx a.Ship h.Fleet.length&&(idx a.From h.Chart.Points.length&&(idx a.To h.Chart.Points.length&&(decide (a.From≠a.To)&&(Cq a.Ready&&(decide (a.Ready≤a.Due)&&decide (a.Due≤2880))))))
theorem Wa(h:X7)(a:Xa):JH h a=E (CU h a):=by
 unfold JH CU;simp only[El,O,Gm,D9,Jh,Cq,SB];cases idx a.Ship h.Fleet.length<;>cases idx a.From h.Chart.Points.length<;>cases idx a.To h.Chart.Points.length<;>simp[bne_iff_ne]
theorem xA{h:X7}(s:HSmall h)(a:Xa):LO h a=E (BS h&&CU h a):=by
 unfold LO;rw[eU s,O,Wa];cases BS h<;>rfl
theorem Ek{h:X7}(hh:BS h=T):Dc h.Forecast=T∧Be h.Chart=T∧Dv h.Fleet=T∧IV h.Regime=T∧EO h.Crew=T:=by
 simpa only[BS,U] using hh
theorem WP{h:X7}(s:HSmall h)(a:Xa):I3 h a=E (BS h&&CU h a):=by
 unfold I3;rw[gb s,O];cases hh:BS h with
 | false=>simp
 | true=>
  obtain⟨_,hc,hf,_,_⟩:=Ek hh;have h1:=(Kq hf).1;have h2:=(DK hc).1;simp only[if_true,Dw _ (show h.Fleet.length≤1000 by omega),Dw _ (show h.Chart.Points.length≤1000 by omega),O,BG,CU,Bool.true_and,Jh,Cq,SB];cases idx a.Ship h.Fleet.length<;>cases idx a.From h.Chart.Points.length<;>cases idx a.To h.Chart.Points.length<;>simp[bne_iff_ne]
theorem pu(a1:G Xa)(v4:N)(a0:X7)(x6:Xa)(y10:G Xa)(y11:N)(K:N→Option Bool):∀n v,K5 a1 v4 a0 x6 y10 y11 K n v=EP a1 v4 a0 x6 y10 y11 K n v:=by
 intro n
 induction n with
 | zero=>intro v; rfl
 | succ n ih=>intro v; simp only[K5,EP,ih,BEq.comm (a:=x6.Ship)]
theorem pr{h:X7}(s:HSmall h)(hh:BS h=T)(cs:G Xa):∀n v,K4 cs h n v=DM cs h n v:=by
 intro n
 induction n with
 | zero=>intro v; rfl
 | succ n ih=>intro v; simp only[K4,DM,WP s,Wa,hh,Bool.true_and,pu,funext ih]
theorem pv{h:X7}(s:HSmall h){cs:G Xa}:∃b,Ni h cs=E b∧LP h cs=E b∧(b=T→BS h=T∧cs.length≤6∧∀a∈cs,CU h a=T):=by
 unfold Ni LP;rw[gb s,eU s,O];cases hh:BS h with
 | false=>exact⟨F,rfl,rfl,fun h=>by cases h⟩
 | true=>
  simp only[if_true,funext (pr s hh cs _),O];by_cases h6:(6:N)<(cs.length:N)
  ·simp only[h6,decide_true,if_true];exact⟨F,rfl,rfl,fun h=>by cases h⟩
  ·simp only[h6,decide_false,W,if_false];have hl:cs.length≤maxLen:=Bb (by omega)
   have:=BZ (fun n i=>∃b,DM cs h n (i:N)=E b∧(b=T→∀j (hj:j<cs.length),i≤j→CU h cs[j]=T)) hl (fun n=>⟨T,by simp[DM],fun _ j h1 h2=>by omega⟩) (fun n i hi ih=>by
    obtain⟨b,e1,e2⟩:=ih;rw[DM];simp only[Au,hi,decide_true,if_true,Ax hi,O,Wa,EL (Nat.le_of_lt hi),List.drop_zero,Nat.sub_zero];cases hok:CU h cs[i] with
    | false=>exact⟨F,rfl,fun h=>by cases h⟩
    | true=>
     simp only[if_true]
     have e:=E5 (L:=EP cs (i:N) h cs[i] (cs.take i) ((cs.take i).length:N) (DM cs h n)) (cs.take i) (fun x=>x.Ship==cs[i].Ship) (E F) (DM cs h n (IntKind.i64.wrap ((i:N)+1))) (Bb (by simp; omega)) (fun m j hj=>by
      rw[EP];simp only[Au,hj,decide_true,if_true,Ax hj,O]) fun m=>by rw[EP,if_neg (by simp)]
     rw[e,AT hi hl,e1];split
     ·exact⟨F,rfl,fun h=>by cases h⟩
     ·refine⟨b,rfl,fun hb j h1 h2=> ?_⟩;by_cases hji:j=i
      ·subst hji; exact hok
      ·exact e2 hb j h1 (by omega)) (Z _)
   obtain⟨b,e1,e2⟩:=this
   exact⟨b,e1,e1,fun hb=>⟨trivial,by omega,fun a ha=>by
    obtain⟨j,hj,rfl⟩:=V ha;exact e2 hb j hj (Z _)⟩⟩
def CF(x:X3)(a:N):N:=if a=x.A then x.B else if a=x.B then x.A else -1
theorem dj(x:X3)(a:N):M9 x a=E (CF x a):=by
 unfold M9 CF;by_cases h1:a=x.A
 ·rw[if_pos (by simpa using h1),if_pos h1]
 ·rw[if_neg (by simpa using h1),if_neg h1];by_cases h2:a=x.B
  ·rw[if_pos (by simpa using h2),if_pos h2]
  ·rw[if_neg (by simpa using h2),if_neg h2]
theorem A2a(x:X3)(a:N):Si x a=E (CF x a):=dj x a
theorem tB{c:X6}(hc:Be c=T){x:X3}(hx:x∈c.Segments)(a:N):CF x a= -1∨idx (CF x a) c.Points.length=T:=by
 obtain⟨h1,h2⟩:=(DK hc).2.2.2 x hx;unfold CF;split
 ·exact Or.inr h2
 ·split
  ·exact Or.inr h1
  ·exact Or.inl rfl
theorem wV{l:G N}(hl:l.length≤maxLen)(a:N):NN l a=E (l.any fun x=>x==a):=by
 have:=E5 (L:=Ix a l) l (fun x=>x==a) (E T) (E F) hl (fun n i h=>by
  rw[Ix];simp only[Au,h,decide_true,if_true,Ax h,O]) fun n=>by simp[Ix]
 unfold NN;rw[this];cases l.any fun x=>x==a<;>rfl
def Oi(y:Xe):G Bool:= [y.i0,y.i1,y.i2,y.i3,y.i4,y.i5,y.i6,y.i7]
theorem A37(y:Xe){n:Nat}(hn:n<8):Oi (Xe.set y n T)=(Oi y).set n T:=by
 have:n=0∨n=1∨n=2∨n=3∨n=4∨n=5∨n=6∨n=7:=by omega
 rcases this with rfl|rfl|rfl|rfl|rfl|rfl|rfl|rfl<;>rfl
def Met(y:Xe)(l:G N):Prop:=∀x:N,0≤x→x<8→ix (Oi y) x=E (l.any fun z=>z==x)
theorem Met.snoc{y:Xe}{l:G N}(H:Met y l){r:N}(h0:0≤r)(h8:r<8):Met (Xe.set y r.toNat T) (l++ [r]):=fun x x0 x8=>by
 obtain⟨n,rfl⟩:∃n:Nat,r=(n:N):=⟨r.toNat,by omega⟩;obtain⟨m,rfl⟩:∃m:Nat,x=(m:N):=⟨x.toNat,by omega⟩;have hl:(Oi y).length=8:=rfl;have hm:=H m x0 x8;rw[Ay] at hm
 rw[Int.toNat_natCast,A37 y (by omega),Ay,List.getElem?_set,hm];by_cases e:n=m
 ·subst e;rw[if_pos rfl,if_pos (by omega)];simp
 ·rw[if_neg e];have:((n:N)==(m:N))=F:=beq_eq_false_iff_ne.2 (by omega);simp[this]
structure RtOk (c:X6) (rt l:G N):Prop where
 len:l.length=rt.length+1
 pt:∀x∈l,idx x c.Points.length=T
 seg:∀i (h:i<rt.length),idx rt[i] c.Segments.length=T
 stp:∀i (h:i<rt.length),∃x,l[i]?=E x∧l[i+1]?=E (CF (B1 c rt[i]) x)∧0≤CF (B1 c rt[i]) x
theorem A2q{c:X6}(hc:Be c=T){rt:G N}{a:N}(ha:idx a c.Points.length=T)(hl:rt.length≤10000000) :
  ∃l b,Kk c a rt=E (l,b)∧H2 c a rt=E (l,b)∧(b=F→l= [])∧(b=T→RtOk c rt l):=by
 obtain⟨hp8,hs10,_,_⟩:=DK hc;have ha':=W8.1 ha;have fail:∃l b,(E (([]:G N),F):Option (G N × Bool))=E (l,b)∧(E (([]:G N),F):Option (G N × Bool))=E (l,b)∧(b=F→l= [])∧(b=T→RtOk c rt l):=⟨[],F,rfl,rfl,fun _=>rfl,fun h=>by cases h⟩
 have main:=BZ (fun n i=>∀v5 v7 l,l.getLast?=E v5→l.length=i+1→Met v7 l→(∀x∈l,idx x c.Points.length=T)→
   (∀j (h:j<rt.length),j<i→idx rt[j] c.Segments.length=T∧∃x,l[j]?=E x∧l[j+1]?=E (CF (B1 c rt[j]) x)∧0≤CF (B1 c rt[j]) x)→
   ∃l' b,Ga rt c n (i:N) l=E (l',b)∧FH rt c n v5 (i:N) v7 l=E (l',b)∧(b=F→l'= [])∧(b=T→RtOk c rt l')) (len:=rt.length) (Bb (by omega))
  (fun n v5 v7 l h1 h2 h3 h4 h5=>⟨l,T,by simp[Ga],by simp[FH],(fun h=>by cases h),fun _=>⟨h2,h4,fun j h=>(h5 j h h).1,fun j h=>(h5 j h h).2⟩⟩)
  (fun n i hi ih v5 v7 l h1 h2 h3 h4 h5=>by
   rw[Ga,FH];simp only[Au,hi,decide_true,if_true,Ax hi,O,El,Dw _ (show c.Segments.length≤1000 by omega)];cases hx:idx rt[i] c.Segments.length with
   | false=>exact fail
   | true=>
    simp only[if_true,(C8 hx).1,O,SR (Bb (by omega)) h1,A2a,dj];have he:=tB hc (C8 hx).2 v5;have hr:∃r,CF (B1 c rt[i]) v5=r:=⟨_,rfl⟩;obtain⟨r,hr⟩:=hr;rw[hr] at he ⊢
    by_cases h0:r<0
    ·simp only[h0,decide_true,if_true,H3,Iy];exact fail
    ·have hri:=he.resolve_left (by omega);have hr':=W8.1 hri;have hd:(decide (0≤r)&&decide (r<8))=T:=by simp; omega
     have hm:=h3 r hr'.1 (by omega);unfold Oi at hm
     simp only[h0,decide_false,W,if_false,hd,if_true,wV (Bb (n:=l.length) (by omega)),O,hm];cases hb:l.any fun z=>z==r with
     | true=>simp only[H3,Iy,if_true]; exact fail
     | false=>
      simp only[H3,Iy,W,if_false,hd,if_true];rw[if_pos (CZ (by omega) (by simp) (by omega)),if_pos (CZ (by omega) (by simp) (by omega)),AT hi (Bb (by omega))];refine ih r _ _ (by simp) (by simp; omega) (h3.snoc hr'.1 (by omega)) (fun x hx=> ?_) fun j h1' h2'=> ?_
      ·rcases List.mem_append.1 hx with hx|hx
       ·exact h4 x hx
       ·simp only[List.mem_singleton] at hx; exact hx▸hri
      ·by_cases hji:j=i
       ·subst hji;refine⟨hx,v5,?_,?_,by rw[hr]; exact hr'.1⟩
        ·rw[Q (by omega),← h1,X,h2]; rfl
        ·rw[List.getElem?_append_right (by omega),h2,hr]; simp
       ·obtain⟨g1,x,g2,g3,g4⟩:=h5 j h1' (by omega);exact⟨g1,x,by rw[Q (by omega)]; exact g2,by rw[Q (by omega)]; exact g3,g4⟩) (Z _)
 have hd:(decide (0≤a)&&decide (a<8))=T:=by simp; omega
 unfold Kk H2;rw[El,ha,O];simp only[if_true,hd]
 have m0:Met ⟨F,F,F,F,F,F,F,F⟩ []:=fun x x0 x8=>by
  obtain⟨n,rfl⟩:∃n:Nat,x=(n:N):=⟨x.toNat,by omega⟩;have:n=0∨n=1∨n=2∨n=3∨n=4∨n=5∨n=6∨n=7:=by omega
  rcases this with rfl|rfl|rfl|rfl|rfl|rfl|rfl|rfl<;>rfl
 exact main a _ [a] rfl rfl (m0.snoc ha'.1 (by omega)) (by simpa using ha) fun j _ h=>by omega
theorem A3j{c:X6}(hc:Be c=T){rt:G N}{a:N}(hl:rt.length≤10000000) :
  ∃l b,G7 c a rt=E b∧FN c a rt=E b∧G8 c a rt=E l∧ER c a rt=E l∧(b=F→l= [])∧(b=T→RtOk c rt l):=by
 have hn:=(DK hc).2.2.1;have h8:=(DK hc).1;unfold G8 ER G7 FN;simp only[Fw hn,II hn,hc,O,if_true,Dw _ (show c.Points.length≤1000 by omega)];cases ha:idx a c.Points.length with
 | false=>
  refine⟨[],F,rfl,?_,rfl,?_,fun _=>rfl,fun h=>by cases h⟩<;>(unfold H2; rw[El,ha]; rfl)
 | true=>
  obtain⟨l,b,e1,e2,e3,e4⟩:=A2q hc ha hl;refine⟨l,b,by simp only[if_true,e1,O],by simp only[e2,O],?_,by simp only[e2,O],e3,e4⟩;simp only[if_true,e1,O];cases b with
  | false=>rw[e3 rfl]; rfl
  | true=>rfl
end Go.Vi
