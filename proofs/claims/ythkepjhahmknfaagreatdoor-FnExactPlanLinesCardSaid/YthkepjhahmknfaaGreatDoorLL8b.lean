/-
Plain laws. No condition.
-/
import Derived.Test.YthkepjhahmknfaaGreatDoorLL8a
namespace Go.Vi
set_option linter.all false
open Option renaming bind_some → zA, some → Q
open Bool renaming false_eq_true → zB, and_eq_true → zG, not_true → zQ, eq_iff_iff → zY, true → E, false → O
open List renaming getElem_mem → zC, getElem?_eq_getElem → zD, getElem?_append_left → zF, length_pos_iff → zI, drop_eq_getElem_cons → zJ, getElem_of_mem → zK, getElem?_append_right → zL, getLast?_eq_getElem? → zM, drop_zero → zN, head?_eq_getElem? → zO, append_assoc → zR, getLast?_eq_none_iff → zS, getElem_map → zU, any_eq_true → zV, mem_map → zW, take_length → zX, nil_append → zZ, replicate → yA
open Nat renaming zero_le → zE, testBit_two_pow_sub_one → zP, sub_zero → zT
open Option.some renaming injEq → zH
open IntKind renaming wrap → yB
open _root_ renaming List → U, Option → W, Int → X, Bool → Y, Nat → Z, rfl → I
theorem sn{n:Z}(h:0<n):∃q,n=q+1:=⟨n - 1,by omega⟩
theorem B9{n:Z}(h:n≤1000000000000):n≤maxLen:=by rw[AO]; omega
theorem CK{n k b:Z}(h:n≤100000000)(hk:k≤1000)(hb:b≤1000):AJ n k b=E:=by
 have:(n+k)*b≤100001000*1000:=Nat.mul_le_mul (by omega) hb;simp only[AJ,decide_eq_true_eq];omega
theorem BV(P:Z→Z→Prop){len:Z}(hl:len≤maxLen)(h0:∀n,P (n+1) len)(hs:∀n i,i<len→P n (i+1)→P (n+1) i){i:Z}(hi:i≤len):P bigN i:=by
 have key:∀k i n,i+k=len→k<n→P n i:=by
  intro k
  induction k with
  | zero=>
   intro i n h1 h2;obtain⟨q,rfl⟩:=sn (n:=n) (by omega);obtain rfl:i=len:=by omega
   exact h0 q
  | succ k ih=>
   intro i n h1 h2;obtain⟨q,rfl⟩:=sn (n:=n) (by omega);exact hs q i (by omega) (ih _ _ (by omega) (by omega))
 exact key (len - i) i bigN (by omega) (Nat.lt_of_le_of_lt (Nat.sub_le _ _) (BG hl))
theorem E5{α R:Type}{L:Z→X→W R}(l:U α)(p:α→Y)(x K:W R)(hl:l.length≤maxLen)
  (hs:∀(n i:Z) (h:i<l.length),L (n+1) (i:X)=if p l[i]=E then x else L n (yB .i64 ((i:X)+1))) (he:∀n,L (n+1) (l.length:X)=K):L bigN 0=if l.any p=E then x else K:=by
 have:=BV (fun n i=>L n (i:X)=if(l.drop i).any p=E then x else K) hl (fun n=>by simpa using he n) (fun n i h ih=>by
  simp only[hs n i h,AS h hl,ih,zJ h,List.any_cons];cases p l[i]<;>simp) (zE _)
 simpa using this
theorem T5{α:Type}{l:U α}{x:α}(hl:l.length≤maxLen)(h:l.getLast?=Q x):ix l (yB .i64 ((l.length:X) - 1))=Q x:=by
 have h0:0<l.length:=by cases l with | nil=>cases h | cons=>simp
 rw[show(l.length:X) - 1=((l.length - 1:Z):X) by omega,Az (by omega) (by rw[AO] at hl; omega),AA,← zM,h]
theorem fK{i:X}{n:Z}:idx i n=E↔0≤i∧i<(n:X):=by simp[idx]
theorem DJ{c:X6}(h:Bc c=E):c.Points.length≤8∧c.Segments.length≤10∧(∀x∈c.Points,x.Name.length≤maxLen)∧∀x∈c.Segments,idx x.A c.Points.length=E∧idx x.B c.Points.length=E:=by
 simp only[Bc,zG,decide_eq_true_eq,List.all_eq_true,List.mem_range] at h;obtain⟨h1,h2,h3,h4⟩:=h;refine⟨h1,h2,fun x hx=> ?_,fun x hx=> ?_⟩
 ·obtain⟨i,hi,rfl⟩:=zK hx;have:=h3 i hi;simp only[GD,zD hi,zG] at this
  exact B9 (by have:=(A2x this.1).2; omega)
 ·obtain⟨i,hi,rfl⟩:=zK hx;have:=h4 i hi;simp only[DD,zD hi,zG,decide_eq_true_eq] at this
  exact⟨this.1,this.2.1⟩
theorem WP{c:X6}{s:X5}{i:X}(hc:Bc c=E)(hi:idx i c.Segments.length=E):1≤Bn (B0 c i) s∧Bn (B0 c i) s≤480:=by
 obtain⟨_,_,a,b⟩:=(Fx hc).2.2 _ (C5 hi).2;unfold Bn;split
 ·rw[Az (n:=2*_) (by omega) (by omega)]; omega
 ·omega
def CV(h:X7)(a:Xa):Y:=idx a.Ship h.Fleet.length&&(idx a.From h.Chart.Points.length&&(idx a.To h.Chart.Points.length&&(decide (a.From≠a.To)&&(Cq a.Ready&&(decide (a.Ready≤a.Due)&&decide (a.Due≤2880))))))
theorem Wt(h:X7)(a:Xa):JL h a=Q (CV h a):=by
 unfold JL CV;simp only[Em,zA,Gt,D6,Jl,Cq,SM];cases idx a.Ship h.Fleet.length<;>cases idx a.From h.Chart.Points.length<;>cases idx a.To h.Chart.Points.length<;>simp[bne_iff_ne]
theorem xq{h:X7}(s:HSmall h)(a:Xa):LS h a=Q (BQ h&&CV h a):=by
 unfold LS;rw[fN s,zA,Wt];cases BQ h<;>rfl
theorem El{h:X7}(hh:BQ h=E):D9 h.Forecast=E∧Bc h.Chart=E∧Du h.Fleet=E∧IZ h.Regime=E∧EP h.Crew=E:=by
 simpa only[BQ,zG] using hh
theorem XB{h:X7}(s:HSmall h)(a:Xa):Ia h a=Q (BQ h&&CV h a):=by
 unfold Ia;rw[iF s,zA];cases hh:BQ h with
 | false=>simp
 | true=>
  obtain⟨_,hc,hf,_,_⟩:=El hh;have h1:=(Kw hf).1;have h2:=(DJ hc).1;simp only[if_true,Dv _ (show h.Fleet.length≤1000 by omega),Dv _ (show h.Chart.Points.length≤1000 by omega),zA,BF,CV,Bool.true_and,Jl,Cq,SM];cases idx a.Ship h.Fleet.length<;>cases idx a.From h.Chart.Points.length<;>cases idx a.To h.Chart.Points.length<;>simp[bne_iff_ne]
theorem qb(a1:U Xa)(v4:X)(a0:X7)(x6:Xa)(y10:U Xa)(y11:X)(K:X→W Y):∀n v,K9 a1 v4 a0 x6 y10 y11 K n v=EQ a1 v4 a0 x6 y10 y11 K n v:=by
 intro n
 induction n with
 | zero=>intro v; rfl
 | succ n ih=>intro v; simp only[K9,EQ,ih,BEq.comm (a:=x6.Ship)]
theorem qa{h:X7}(s:HSmall h)(hh:BQ h=E)(cs:U Xa):∀n v,K7 cs h n v=DL cs h n v:=by
 intro n
 induction n with
 | zero=>intro v; rfl
 | succ n ih=>intro v; simp only[K7,DL,XB s,Wt,hh,Bool.true_and,qb,funext ih]
theorem qc{h:X7}(s:HSmall h){cs:U Xa}:∃b,Np h cs=Q b∧LU h cs=Q b∧(b=E→BQ h=E∧cs.length≤6∧∀a∈cs,CV h a=E):=by
 unfold Np LU;rw[iF s,fN s,zA];cases hh:BQ h with
 | false=>exact⟨O,rfl,rfl,fun h=>by cases h⟩
 | true=>
  simp only[if_true,funext (qa s hh cs _),zA];by_cases h6:(6:X)<(cs.length:X)
  ·simp only[h6,decide_true,if_true];exact⟨O,I,I,fun h=>by cases h⟩
  ·simp only[h6,decide_false,zB,if_false];have hl:cs.length≤maxLen:=B9 (by omega)
   have:=BV (fun n i=>∃b,DL cs h n (i:X)=Q b∧(b=E→∀j (hj:j<cs.length),i≤j→CV h cs[j]=E)) hl (fun n=>⟨E,by simp[DL],fun _ j h1 h2=>by omega⟩) (fun n i hi ih=>by
    obtain⟨b,e1,e2⟩:=ih;rw[DL];simp only[At,hi,decide_true,if_true,Aw hi,zA,Wt,EL (Nat.le_of_lt hi),zN,zT];cases hok:CV h cs[i] with
    | false=>exact⟨O,rfl,fun h=>by cases h⟩
    | true=>
     simp only[if_true]
     have e:=E5 (L:=EQ cs (i:X) h cs[i] (cs.take i) ((cs.take i).length:X) (DL cs h n)) (cs.take i) (fun x=>x.Ship==cs[i].Ship) (Q O) (DL cs h n (yB .i64 ((i:X)+1))) (B9 (by simp; omega)) (fun m j hj=>by
      rw[EQ];simp only[At,hj,decide_true,if_true,Aw hj,zA]) fun m=>by rw[EQ,if_neg (by simp)]
     rw[e,AS hi hl,e1];split
     ·exact⟨O,I,fun h=>by cases h⟩
     ·refine⟨b,I,fun hb j h1 h2=> ?_⟩;by_cases hji:j=i
      ·subst hji; exact hok
      ·exact e2 hb j h1 (by omega)) (zE _)
   obtain⟨b,e1,e2⟩:=this
   exact⟨b,e1,e1,fun hb=>⟨trivial,by omega,fun a ha=>by
    obtain⟨j,hj,rfl⟩:=zK ha;exact e2 hb j hj (zE _)⟩⟩
def CF(x:X3)(a:X):X:=if a=x.A then x.B else if a=x.B then x.A else -1
theorem eP(x:X3)(a:X):Me x a=Q (CF x a):=by
 unfold Me CF;by_cases h1:a=x.A
 ·rw[if_pos (by simpa using h1),if_pos h1]
 ·rw[if_neg (by simpa using h1),if_neg h1];by_cases h2:a=x.B
  ·rw[if_pos (by simpa using h2),if_pos h2]
  ·rw[if_neg (by simpa using h2),if_neg h2]
theorem A3o(x:X3)(a:X):Sr x a=Q (CF x a):=eP x a
theorem tm{c:X6}(hc:Bc c=E){x:X3}(hx:x∈c.Segments)(a:X):CF x a= -1∨idx (CF x a) c.Points.length=E:=by
 obtain⟨h1,h2⟩:=(DJ hc).2.2.2 x hx;unfold CF;split
 ·exact Or.inr h2
 ·split
  ·exact Or.inr h1
  ·exact Or.inl I
theorem xO{l:U X}(hl:l.length≤maxLen)(a:X):NU l a=Q (l.any fun x=>x==a):=by
 have:=E5 (L:=IE a l) l (fun x=>x==a) (Q E) (Q O) hl (fun n i h=>by
  rw[IE];simp only[At,h,decide_true,if_true,Aw h,zA]) fun n=>by simp[IE]
 unfold NU;rw[this];cases l.any fun x=>x==a<;>rfl
def Oq(y:Xe):U Y:= [y.i0,y.i1,y.i2,y.i3,y.i4,y.i5,y.i6,y.i7]
theorem A5o(y:Xe){n:Z}(hn:n<8):Oq (Xe.set y n E)=(Oq y).set n E:=by
 have:n=0∨n=1∨n=2∨n=3∨n=4∨n=5∨n=6∨n=7:=by omega
 rcases this with rfl|rfl|rfl|rfl|rfl|rfl|rfl|rfl<;>rfl
def Met(y:Xe)(l:U X):Prop:=∀x:X,0≤x→x<8→ix (Oq y) x=Q (l.any fun z=>z==x)
theorem Met.snoc{y:Xe}{l:U X}(H:Met y l){r:X}(h0:0≤r)(h8:r<8):Met (Xe.set y r.toNat E) (l++ [r]):=fun x x0 x8=>by
 obtain⟨n,rfl⟩:∃n:Z,r=(n:X):=⟨r.toNat,by omega⟩;obtain⟨m,rfl⟩:∃m:Z,x=(m:X):=⟨x.toNat,by omega⟩;have hl:(Oq y).length=8:=rfl;have hm:=H m x0 x8;rw[AA] at hm
 rw[Int.toNat_natCast,A5o y (by omega),AA,List.getElem?_set,hm];by_cases e:n=m
 ·subst e;rw[if_pos rfl,if_pos (by omega)];simp
 ·rw[if_neg e];have:((n:X)==(m:X))=O:=beq_eq_false_iff_ne.2 (by omega);simp[this]
structure RtOk (c:X6) (rt l:U X):Prop where
 len:l.length=rt.length+1
 pt:∀x∈l,idx x c.Points.length=E
 seg:∀i (h:i<rt.length),idx rt[i] c.Segments.length=E
 stp:∀i (h:i<rt.length),∃x,l[i]?=Q x∧l[i+1]?=Q (CF (B0 c rt[i]) x)∧0≤CF (B0 c rt[i]) x
theorem A35{c:X6}(hc:Bc c=E){rt:U X}{a:X}(ha:idx a c.Points.length=E)(hl:rt.length≤10000000) :
  ∃l b,Kr c a rt=Q (l,b)∧Ha c a rt=Q (l,b)∧(b=O→l= [])∧(b=E→RtOk c rt l):=by
 obtain⟨hp8,hs10,_,_⟩:=DJ hc;have ha':=fK.1 ha;have fail:∃l b,(Q (([]:U X),O):W (U X × Y))=Q (l,b)∧(Q (([]:U X),O):W (U X × Y))=Q (l,b)∧(b=O→l= [])∧(b=E→RtOk c rt l):=⟨[],O,rfl,rfl,fun _=>rfl,fun h=>by cases h⟩
 have main:=BV (fun n i=>∀v5 v7 l,l.getLast?=Q v5→l.length=i+1→Met v7 l→(∀x∈l,idx x c.Points.length=E)→
   (∀j (h:j<rt.length),j<i→idx rt[j] c.Segments.length=E∧∃x,l[j]?=Q x∧l[j+1]?=Q (CF (B0 c rt[j]) x)∧0≤CF (B0 c rt[j]) x)→
   ∃l' b,Gf rt c n (i:X) l=Q (l',b)∧FJ rt c n v5 (i:X) v7 l=Q (l',b)∧(b=O→l'= [])∧(b=E→RtOk c rt l')) (len:=rt.length) (B9 (by omega))
  (fun n v5 v7 l h1 h2 h3 h4 h5=>⟨l,E,by simp[Gf],by simp[FJ],(fun h=>by cases h),fun _=>⟨h2,h4,fun j h=>(h5 j h h).1,fun j h=>(h5 j h h).2⟩⟩)
  (fun n i hi ih v5 v7 l h1 h2 h3 h4 h5=>by
   rw[Gf,FJ];simp only[At,hi,decide_true,if_true,Aw hi,zA,Em,Dv _ (show c.Segments.length≤1000 by omega)];cases hx:idx rt[i] c.Segments.length with
   | false=>exact fail
   | true=>
    simp only[if_true,(C5 hx).1,zA,T5 (B9 (by omega)) h1,A3o,eP];have he:=tm hc (C5 hx).2 v5;have hr:∃r,CF (B0 c rt[i]) v5=r:=⟨_,rfl⟩;obtain⟨r,hr⟩:=hr;rw[hr] at he ⊢
    by_cases h0:r<0
    ·simp only[h0,decide_true,if_true,Hb,IF];exact fail
    ·have hri:=he.resolve_left (by omega);have hr':=fK.1 hri;have hd:(decide (0≤r)&&decide (r<8))=E:=by simp; omega
     have hm:=h3 r hr'.1 (by omega);unfold Oq at hm
     simp only[h0,decide_false,zB,if_false,hd,if_true,xO (B9 (n:=l.length) (by omega)),zA,hm];cases hb:l.any fun z=>z==r with
     | true=>simp only[Hb,IF,if_true]; exact fail
     | false=>
      simp only[Hb,IF,zB,if_false,hd,if_true];rw[if_pos (CK (by omega) (by simp) (by omega)),if_pos (CK (by omega) (by simp) (by omega)),AS hi (B9 (by omega))];refine ih r _ _ (by simp) (by simp; omega) (h3.snoc hr'.1 (by omega)) (fun x hx=> ?_) fun j h1' h2'=> ?_
      ·rcases List.mem_append.1 hx with hx|hx
       ·exact h4 x hx
       ·simp only[List.mem_singleton] at hx; exact hx▸hri
      ·by_cases hji:j=i
       ·subst hji;refine⟨hx,v5,?_,?_,by rw[hr]; exact hr'.1⟩
        ·rw[zF (by omega),← h1,zM,h2]; rfl
        ·rw[zL (by omega),h2,hr]; simp
       ·obtain⟨g1,x,g2,g3,g4⟩:=h5 j h1' (by omega);exact⟨g1,x,by rw[zF (by omega)]; exact g2,by rw[zF (by omega)]; exact g3,g4⟩) (zE _)
 have hd:(decide (0≤a)&&decide (a<8))=E:=by simp; omega
 unfold Kr Ha;rw[Em,ha,zA];simp only[if_true,hd]
 have m0:Met ⟨O,O,O,O,O,O,O,O⟩ []:=fun x x0 x8=>by
  obtain⟨n,rfl⟩:∃n:Z,x=(n:X):=⟨x.toNat,by omega⟩;have:n=0∨n=1∨n=2∨n=3∨n=4∨n=5∨n=6∨n=7:=by omega
  rcases this with rfl|rfl|rfl|rfl|rfl|rfl|rfl|rfl<;>rfl
 exact main a _ [a] rfl I (m0.snoc ha'.1 (by omega)) (by simpa using ha) fun j _ h=>by omega
theorem A40{c:X6}(hc:Bc c=E){rt:U X}{a:X}(hl:rt.length≤10000000) :
  ∃l b,Gc c a rt=Q b∧FQ c a rt=Q b∧Gd c a rt=Q l∧ES c a rt=Q l∧(b=O→l= [])∧(b=E→RtOk c rt l):=by
 have hn:=(DJ hc).2.2.1;have h8:=(DJ hc).1;unfold Gd ES Gc FQ;simp only[Fy hn,IM hn,hc,zA,if_true,Dv _ (show c.Points.length≤1000 by omega)];cases ha:idx a c.Points.length with
 | false=>
  refine⟨[],O,I,?_,I,?_,fun _=>rfl,fun h=>by cases h⟩<;>(unfold Ha; rw[Em,ha]; rfl)
 | true=>
  obtain⟨l,b,e1,e2,e3,e4⟩:=A35 hc ha hl;refine⟨l,b,by simp only[if_true,e1,zA],by simp only[e2,zA],?_,by simp only[e2,zA],e3,e4⟩;simp only[if_true,e1,zA];cases b with
  | false=>rw[e3 rfl]; rfl
  | true=>rfl
theorem xP(l:U X4)(a:X)(hl:l.length≤100000):∃b,Nu l a=Q b∧LZ l a=Q b:=by
 have e1:=E5 (L:=Il a l) l (fun x=>decide (x.From≤a)&&decide (a≤x.To)) (Q E) (Q O) (B9 (by omega)) (fun n i h=>by
  rw[Il];simp only[At,h,decide_true,if_true,Aw h,zA,BF]) fun n=>by simp[Il]
 have e2:=E5 (L:=Hg a l) l (fun x=>decide (x.From≤a)&&decide (a≤x.To)) (Q E) (Q O) (B9 (by omega)) (fun n i h=>by
  rw[Hg];simp only[At,h,decide_true,if_true,Aw h,zA,D6]) fun n=>by simp[Hg]
 unfold Nu LZ;rw[e1,e2];split
 ·exact⟨E,I,I⟩
 ·exact⟨O,I,I⟩
theorem A2y(l:U X4)(a:X)(hl:l.length≤100000):∃r,NB l a=Q r∧M7 l a=Q r∧(r<0∨a≤r):=by
 have hm:l.length≤maxLen:=B9 (by omega);unfold NB M7;rw[iK hm,fP hm,zA,zA];split
 ·exact BV (fun n i=>∃r,Ip a l n (i:X)=Q r∧Hm a l n (i:X)=Q r∧(r<0∨a≤r)) hm (fun n=>⟨-1,by simp[Ip],by simp[Hm],Or.inl (by omega)⟩) (fun n i h ih=>by
   rw[Ip,Hm];simp only[At,h,decide_true,if_true,Aw h,zA,AS h hm];split
   ·exact⟨_,I,I,Or.inr (by split<;>omega)⟩
   ·exact ih) (zE _)
 ·exact⟨-1,I,I,Or.inl (by omega)⟩
def wt(c:X6)(x:X):Y:=(c.Points[x.toNat]?.getD ⟨[],O⟩).Wait
structure VoyOk (f:Xc) (c:X6) (s:X5) (rt pts:U X) (v:Xh):Prop where
 ne:rt≠ []
 r:RtOk c rt pts
 ml:v.minutes.length=rt.length
 ul:v.sure.length=rt.length
 m:∀i (h:i<rt.length),v.minutes[i]?=Q (Bn (B0 c rt[i]) s)
 w:∀i (h:i<rt.length),∃x,pts[i]?=Q x∧v.waits[i]?=Q (wt c x)
 u:∀i (h:i<rt.length),∃l,v.sure[i]?=Q l∧l.length≤2881
 st:Su f c s rt=Q v.sure
theorem A8s{f:Xc}{c:X6}{s:X5}(hf:D9 f=E)(hc:Bc c=E)(hs:CG s=E)(hsn:s.Name.length≤maxLen){rt pts:U X}{a:X}(hl:rt.length≤10000000)(hr:RtOk c rt pts)(h0:rt≠ [])
  (e1:FQ c a rt=Q E) (e2:ES c a rt=Q pts):∃v,HE f c s a rt=Q (v,E)∧VoyOk f c s rt pts v:=by
 have hn:=(DJ hc).2.2.1;have hz:((rt.length:X)==(0:X))=O:=by cases rt with | nil=>exact absurd rfl h0 | cons=>simp; omega
 have hp:=hr.len;have hlen:(pts.take rt.length).length=rt.length:=by simp; omega
 have hlm:rt.length≤maxLen:=B9 (by omega)
 have hspec:=BV (fun n i=>∀us,us.length=i→∃vs,Gg rt f c s n (i:X) us=Q (us++vs)∧∀ws ms,ws.length=i→ms.length=i→
   ∃ws' ms',HG rt f c s (pts.take rt.length) ((pts.take rt.length).length:X) n (i:X) ws ms us=Q (⟨ws++ws',ms++ms',us++vs⟩,E)∧ms'.length=rt.length - i∧vs.length=rt.length - i∧
    (∀j (h:j<rt.length),i≤j→ms'[j - i]?=Q (Bn (B0 c rt[j]) s)∧(∃x,pts[j]?=Q x∧ws'[j - i]?=Q (wt c x))∧∃l,vs[j - i]?=Q l∧l.length≤2881)) hlm
  (fun n us hu=>⟨[],by simp[Gg],fun ws ms hw hm=>⟨[],[],by simp[HG,hlen],by simp,by simp,fun j h h'=>by omega⟩⟩)
  (fun n i h ih us hu=>by
   obtain⟨l,l1,l2,l3⟩:=A6k (s:=s) hf hn hsn hc hs (hr.seg i h);have hlt':i<(pts.take rt.length).length:=by omega
   have hpi:i<pts.length:=by omega
   have hpt:=hr.pt pts[i] (zC hpi);have hg:(pts.take rt.length)[i]=pts[i]:=by simp
   obtain⟨vs,v1,v2⟩:=ih (us++ [l]) (by simp; omega);refine⟨l::vs,?_,fun ws ms hw hm=> ?_⟩
   ·rw[Gg];simp only[At,h,decide_true,if_true,Aw h,zA,l1];rw[if_pos (CK (by omega) (by simp) (by omega)),AS h hlm,v1];simp
   ·obtain⟨ws',ms',g1,g2,g2',g3⟩:=v2 (ws++ [wt c pts[i]]) (ms++ [Bn (B0 c rt[i]) s]) (by simp; omega) (by simp; omega);refine⟨wt c pts[i]::ws',Bn (B0 c rt[i]) s::ms',?_,by simp; omega,by simp; omega,fun j hj hij=> ?_⟩
    ·rw[HG];simp only[At,hlt',decide_true,if_true,Aw hlt',Aw h,hg,zA,(SQ (⟨[],O⟩:X9) hpt).1,(C5 (hr.seg i h)).1,O8,l2];rw[if_pos (CK (by omega) (by simp) (by omega)),if_pos (CK (by omega) (by simp) (by omega)),if_pos (CK (by omega) (by simp) (by omega)),AS h hlm];refine g1.trans ?_;simp
    ·by_cases hji:j=i
     ·subst hji;simp only[Nat.sub_self,List.getElem?_cons_zero];exact⟨trivial,⟨_,zD hpi,I⟩,l,I,l3⟩
     ·obtain⟨q,hq⟩:∃q,j - i=q+1:=⟨j - i - 1,by omega⟩;have:=g3 j hj (by omega);rw[show j - (i+1)=q by omega] at this
      rw[hq];simpa using this) (zE _)
 obtain⟨vs,v1,v2⟩:=hspec [] rfl;obtain⟨ws',ms',g1,g2,g3,g4⟩:=v2 [] [] rfl rfl;refine⟨⟨ws',ms',vs⟩,?_,h0,hr,by simpa using g2,by simpa using g3,fun i h=>by simpa using(g4 i h (zE _)).1,fun i h=>by simpa using(g4 i h (zE _)).2.1,fun i h=>by simpa using(g4 i h (zE _)).2.2,show Gg rt f c s bigN 0 []=Q vs by simpa using v1⟩;unfold HE;simp only[O7,Gs hsn,hf,hs,e1,e2,zA,if_true,HF,hz,zB,if_false];rw[EL (by omega),zA];simp only[zN,zT];exact g1
structure Sailed (c:X6) (s:X5) (rt:U X) (st:X) (l:U X):Prop where
 len:l.length=rt.length
 hd:l[0]?=Q st
 up:∀i (h:i+1<rt.length),∃x y,l[i]?=Q x∧l[i+1]?=Q y∧yB .i64 (x+Bn (B0 c rt[i]) s)≤y
theorem A5h{f:Xc}{c:X6}{s:X5}(hc:Bc c=E){rt pts:U X}{v:Xh}(hl:rt.length≤10000000)(H:VoyOk f c s rt pts v)(st:X) :
  ∃l b,NW c s pts rt v.sure st=Q (l,b)∧My v st=Q (l,b)∧(b=E→Sailed c s rt st l):=by
 have h0:0<rt.length:=zI.2 H.ne;have hlm:rt.length≤maxLen:=B9 (by omega);obtain⟨l0,u1,u2⟩:=H.u 0 h0;obtain⟨b,b1,b2⟩:=xP l0 st (by omega);have hx:ix v.sure (0:X)=Q l0:=by have:=AA v.sure 0; rw[u1] at this; exact this
 unfold NW My;simp only[hx,zA,b1,b2];cases b with
 | false=>exact⟨[],O,rfl,rfl,fun h=>by cases h⟩
 | true=>
  simp only[if_true]
  refine BV (fun n i=>∀l,1≤i→l.length=i→l[0]?=Q st→(∀j (h:j+1<rt.length),j+1<i→∃x y,l[j]?=Q x∧l[j+1]?=Q y∧yB .i64 (x+Bn (B0 c rt[j]) s)≤y)→
   ∃l' b,Ej pts rt v.sure c s n (i:X) l=Q (l',b)∧Ee v n (i:X) l=Q (l',b)∧(b=E→Sailed c s rt st l')) hlm
   (fun n l h1 h2 h3 h4=>⟨l,E,by simp[Ej],by simp[Ee,H.ul],fun _=>⟨h2,h3,fun j h=>h4 j h h⟩⟩)
   (fun n i h ih l h1 h2 h3 h4=> ?_) (i:=1) (by omega) [st] (by omega) rfl rfl (fun j _ h=>by omega)
  obtain⟨w,g1,g2⟩:=H.u i h;have hu:i<v.sure.length:=by have:=H.ul; omega
  have ew:yB .i64 ((i:X) - 1)=((i - 1:Z):X):=by
   rw[show(i:X) - 1=((i - 1:Z):X) by omega];exact Az (by omega) (by omega)
  have hi1:i - 1<rt.length:=by omega
  have hil:i - 1<l.length:=by omega
  obtain⟨x,x1,x2⟩:=H.w i h;have hpt:=H.r.pt x (List.mem_of_getElem? x1);obtain⟨r,r1,r2,r3⟩:=A2y w (yB .i64 (l[i - 1]+Bn (B0 c rt[i - 1]) s)) (by omega);rw[Ej,Ee];simp only[At,h,hu,decide_true,if_true,ew,Aw hil,Aw hi1,AA,H.m _ hi1,(C5 (H.r.seg _ hi1)).1,zA,OL,g1,r1,r2,x1,x2,(SQ (⟨[],O⟩:X9) hpt).1];have fail:∃l' b,(Q (([]:U X),O):W (U X × Y))=Q (l',b)∧(Q (([]:U X),O):W (U X × Y))=Q (l',b)∧(b=E→Sailed c s rt st l'):=⟨[],O,rfl,rfl,fun h=>by cases h⟩;by_cases hr0:r<0
  ·simp only[hr0,decide_true,if_true,IH,HH];exact fail
  ·have hge:=r3.resolve_left hr0
   have hne:(r !=yB .i64 (l[i - 1]+Bn (B0 c rt[i - 1]) s))=decide (yB .i64 (l[i - 1]+Bn (B0 c rt[i - 1]) s)<r):=by
    rw[Jl];by_cases e:r=yB .i64 (l[i - 1]+Bn (B0 c rt[i - 1]) s)
    ·simp[← e]
    ·have:yB .i64 (l[i - 1]+Bn (B0 c rt[i - 1]) s)<r:=by omega
     simp[e,this]
   have go:∃l' b,Ej pts rt v.sure c s n (yB .i64 ((i:X)+1)) (l++ [r])=Q (l',b)∧Ee v n (yB .i64 ((i:X)+1)) (l++ [r])=Q (l',b)∧(b=E→Sailed c s rt st l'):=by
    rw[AS h hlm];refine ih (l++ [r]) (by omega) (by simp; omega) (by rw[zF (by omega)]; exact h3) fun j hj1 hj2=> ?_
    by_cases hji:j+1=i
    ·subst hji;exact⟨l[j],r,by rw[zF (by omega),zD],by rw[zL (by omega),h2]; simp,by simpa using hge⟩
    ·obtain⟨x,y,q1,q2,q3⟩:=h4 j hj1 (by omega);exact⟨x,y,by rw[zF (by omega)]; exact q1,by rw[zF (by omega)]; exact q2,q3⟩
   have hap:AJ l.length [r].length 8=E:=CK (by omega) (by simp) (by omega);simp only[hr0,decide_false,zB,if_false,hne,IH,HH,hap,if_true];split
   ·change ∃l' b,(if(!wt c x)=E then _ else _)=_∧_
    split
    ·exact fail
    ·exact go
   ·exact go
def P5(c:X6)(s:X5)(sh:X)(rt pts l:U X)(i:Z)(ps:U X1):Prop:=
 ps.length=i∧∀j (h:j<rt.length),j<i→∃x y,pts[j]?=Q x∧l[j]?=Q y∧0≤y∧y≤2880∧ps[j]?=Q ⟨sh,rt[j],(B0 c rt[j]).A==x,y,yB .i64 (y+Bn (B0 c rt[j]) s)⟩
theorem A3x{c:X6}{s:X5}(hs:CG s=E)(hsn:s.Name.length≤maxLen){rt pts l:U X}{a sh:X}(hl:rt.length≤10000000)(hr:RtOk c rt pts)(hlen:l.length=rt.length)
  (e1:Gc c a rt=Q E) (e2:FQ c a rt=Q E) (e3:Gd c a rt=Q pts) (e4:ES c a rt=Q pts) :
  ∃ps,ND c sh s a rt l=Q ps∧Mb c sh s a rt l=Q ps∧(ps≠ []→P5 c s sh rt pts l rt.length ps):=by
 have hlm:rt.length≤maxLen:=B9 (by omega);have hz:((rt.length:X) !=(l.length:X))=O:=by rw[hlen]; simp
 unfold ND Mb;simp only[e1,e2,e3,e4,J1 hsn,Gs hsn,hs,zA,if_true,hz,zB,if_false]
 refine BV (fun n i=>∀ps,P5 c s sh rt pts l i ps→∃ps',Iq sh l rt c s pts n (i:X) ps=Q ps'∧Hn sh l rt c s pts n (i:X) ps=Q ps'∧(ps'≠ []→P5 c s sh rt pts l rt.length ps')) hlm
  (fun n ps hp=>⟨ps,by simp[Iq],by simp[Hn],fun _=>hp⟩) (fun n i h ih ps hp=> ?_) (zE _) [] ⟨rfl,fun j _ h=>by omega⟩
 have hi:i<l.length:=by omega
 have hpi:i<pts.length:=by have:=hr.len; omega
 rw[Iq,Hn];simp only[At,h,decide_true,if_true,Aw h,Aw hi,Aw hpi,(C5 (hr.seg i h)).1,zA,BF,Gt,OL,O8,BEq.comm (a:=pts[i])];split
 ·rename_i hm
  simp only[zG,decide_eq_true_eq] at hm
  have hp1:=hp.1;rw[if_pos (CK (by omega) (by simp) (by omega)),if_pos (CK (by omega) (by simp) (by omega)),AS h hlm];refine ih _ ⟨by simp; omega,fun j hj1 hj2=> ?_⟩;by_cases hji:j=i
  ·subst hji;exact⟨pts[j],l[j],zD _,zD _,hm.1,hm.2,by rw[zL (by omega),hp1]; simp⟩
  ·obtain⟨x,y,q1,q2,q3,q4,q5⟩:=hp.2 j hj1 (by omega);exact⟨x,y,q1,q2,q3,q4,by rw[zF (by omega)]; exact q5⟩
 ·exact⟨[],I,I,fun h=>absurd I h⟩
theorem A4z{c:X6}(hc:Bc c=E){rt:U X}(hl:rt.length≤10000000)(hs:∀i (h:i<rt.length),idx rt[i] c.Segments.length=E):∃r,NJ c rt=Q r∧Md c rt=Q r∧0≤r:=by
 have hlm:rt.length≤maxLen:=B9 (by omega);have hn:=(DJ hc).2.2.1;have h10:=(DJ hc).2.1;unfold NJ Md;simp only[Fy hn,IM hn,hc,zA,if_true];refine BV (fun n i=>∀v:X,0≤v→v≤240*(i:X)→∃r,Iv rt c n v (i:X)=Q r∧Hr rt c n v (i:X)=Q r∧0≤r) hlm (fun n v h1 h2=>⟨v,by simp[Iv],by simp[Hr],h1⟩) (fun n i h ih v h1 h2=> ?_) (zE _) 0 (by omega) (by omega);obtain⟨_,_,a,b⟩:=(Fx hc).2.2 _ (C5 (hs i h)).2;rw[Iv,Hr];simp only[At,h,decide_true,if_true,Aw h,(C5 (hs i h)).1,zA,Em,Dv _ (show c.Segments.length≤1000 by omega),hs i h,AS h hlm];rw[Az (by omega) (by omega)];exact ih _ (by omega) (by omega)
theorem pU{c:X6}{s:X5}(hc:Bc c=E)(hs:CG s=E)(hsn:s.Name.length≤maxLen){rt l:U X}(hl:rt.length≤10000000)(hsg:∀i (h:i<rt.length),idx rt[i] c.Segments.length=E)(hlen:l.length=rt.length)(h0:rt≠ []) :
  ∃r,Nn c s rt l=Q r∧LR c s rt l=Q r∧∀y,l[rt.length - 1]?=Q y→0≤y→y≤2880→∃x,rt[rt.length - 1]?=Q x∧r=yB .i64 (y+Bn (B0 c x) s):=by
 obtain⟨m,m1,m2,m3⟩:=A4z hc hl hsg;have hp:0<rt.length:=zI.2 h0;have hz:((rt.length:X)==(0:X))=O:=beq_eq_false_iff_ne.2 (by omega);have hq:((rt.length:X) !=(l.length:X))=O:=by rw[hlen]; simp
 have ew:yB .i64 ((rt.length:X) - 1)=((rt.length - 1:Z):X):=by
  rw[show(rt.length:X) - 1=((rt.length - 1:Z):X) by omega];exact Az (by omega) (by omega)
 have h1:rt.length - 1<rt.length:=by omega
 have h2:rt.length - 1<l.length:=by omega
 unfold Nn LR;simp only[m1,m2,zA,show decide (m<0)=O by simp; omega,zB,if_false,J1 hsn,Gs hsn,hs,if_true,hq,hz,hlen,ew,Aw h1,Aw h2,BF,Gt,(C5 (hsg _ h1)).1,OL,O8,bne_self_eq_false];split
 ·refine⟨_,I,I,fun y e _ _=>⟨_,zD h1,?_⟩⟩;rw[zD h2,zH] at e
  rw[e]
 ·rename_i hm
  refine⟨-1,I,I,fun y e a b=>absurd ?_ hm⟩;rw[zD h2,zH] at e
  simp only[zG,decide_eq_true_eq,e];exact⟨a,b⟩
structure AtOk (h:X7) (a:Xa) (rt:U X) (st:X) (o:X2):Prop where
 hh:BQ h=E
 ha:CV h a=E
 mo:∃pts l,RtOk h.Chart rt pts∧Sailed h.Chart (BZ h.Fleet a.Ship) rt st l∧(o.Passages≠ []→P5 h.Chart (BZ h.Fleet a.Ship) a.Ship rt pts l rt.length o.Passages)∧o.Arrival≤2880∧
  ∀y,l[rt.length - 1]?=Q y→0≤y→y≤2880→∃x,rt[rt.length - 1]?=Q x∧o.Arrival=yB .i64 (y+Bn (B0 h.Chart x) (BZ h.Fleet a.Ship))
theorem qx{h:X7}{s:X5}{rt:U X}{v:Xh}{f:Xc}{pts:U X}(hl:rt.length≤10000000)(H:VoyOk f h.Chart s rt pts v)(st r:X)(ps:U X1)(c0:X) :
  ∃w,Gm rt h s st r ps bigN 0 c0=Q (⟨st,r,w,ps⟩,decide (r≤2880))∧FW v st r ps bigN 0 c0=Q (⟨st,r,w,ps⟩,decide (r≤2880)):=by
 have hlm:rt.length≤maxLen:=B9 (by omega);refine BV (fun n i=>∀c0,∃w,Gm rt h s st r ps n (i:X) c0=Q (⟨st,r,w,ps⟩,decide (r≤2880))∧FW v st r ps n (i:X) c0=Q (⟨st,r,w,ps⟩,decide (r≤2880))) hlm (fun n c0=>⟨c0,by simp[Gm],by simp[FW,H.ml]⟩) (fun n i hi ih c0=> ?_) (zE _) c0;have hm:i<v.minutes.length:=by have:=H.ml; omega
 rw[Gm,FW];simp only[At,hi,hm,decide_true,if_true,Aw hi,AA,H.m i hi,(C5 (H.r.seg i hi)).1,zA,OL,AS hi hlm];exact ih _
theorem A3l{h:X7}(s:HSmall h)(a:Xa){rt:U X}(hl:rt.length≤10000000)(st:X) :
  ∃o b,Kk h a rt st=Q (o,b)∧JG h a rt st=Q (o,b)∧(b=E→AtOk h a rt st o):=by
 have fail:∃o b,(Q (⟨0,0,0,[]⟩,O):W (X2 × Y))=Q (o,b)∧(Q (⟨0,0,0,[]⟩,O):W (X2 × Y))=Q (o,b)∧(b=E→AtOk h a rt st o):=⟨_,O,rfl,rfl,fun h=>by cases h⟩;unfold Kk JG;rw[XB s,xq s,zA,zA];cases hq:BQ h&&CV h a with
 | false=>exact fail
 | true=>
  rw[zG] at hq
  obtain⟨hh,ha⟩:=hq;obtain⟨hf,hc,hfl,_,_⟩:=El hh;have ha':=ha;simp only[CV,zG,decide_eq_true_eq] at ha'
  obtain⟨q1,q2,q3,q4,_⟩:=ha';obtain⟨s1,s2⟩:=IP q1;have hso:=(Kw hfl).2 _ s2;have hsn:=s.fn _ s2;simp only[if_true,BF,D6,zA];cases hw:decide (a.Ready≤st)&&decide (st≤a.Due) with
  | false=>exact fail
  | true=>
   obtain⟨pts,b,e1,e2,e3,e4,e5,e6⟩:=A40 hc (a:=a.From) hl;simp only[if_true,zQ,M8,zB,if_false,Sx,RX,e3,e4,zA];cases b with
   | false=>
    rw[e5 rfl];exact fail
   | true=>
    have hr:=e6 rfl;have hpl:=hr.len;have hz:((pts.length:X)==(0:X))=O:=beq_eq_false_iff_ne.2 (by omega)
    have hlast:∃x,pts.getLast?=Q x:=by
     cases hp:pts.getLast? with
     | none=>rw[zS] at hp; rw[hp] at hpl; simp at hpl
     | some x=>exact⟨x,rfl⟩
    obtain⟨x,hx⟩:=hlast;simp only[hz,zB,if_false,T5 (B9 (by omega)) hx,zA];by_cases h0:rt= []
    ·have hvo:HE h.Forecast h.Chart (BZ h.Fleet a.Ship) a.From rt=Q (⟨[],[],[]⟩,O):=by
      unfold HE;simp only[O7,Gs hsn,hf,hso,e2,zA,if_true];rw[h0];rfl
     have h1:¬(1:X)<(pts.length:X):=by rw[hpl,h0]; simp
     simp only[h1,decide_false,zB,if_false,zA,Bool.not_false,G9,if_true,Hx,s1,hvo];split<;>exact fail
    ·have h1:(1:X)<(pts.length:X):=by have:=zI.2 h0; omega
     simp only[h1,decide_true,if_true,zA];by_cases hto:x=a.To
     ·have t1:(x==a.To)=E:=by simpa using hto
      have t2:(x !=a.To)=O:=by simpa using hto
      obtain⟨v,v1,V⟩:=A8s hf hc hso hsn hl hr h0 e2 e4;obtain⟨l,b,b1,b2,b3⟩:=A5h hc hl V st;have hz0:((rt.length:X)==(0:X))=O:=beq_eq_false_iff_ne.2 (by have:=zI.2 h0; omega)
      have hsr:NK h.Forecast h.Chart (BZ h.Fleet a.Ship) a.From rt st=Q (l,b):=by
       unfold NK;simp only[XE,J1 hsn,hf,hso,e1,zA,if_true,Iw,hz0,zB,if_false,e3,V.st,b1]
      simp only[t1,t2,zQ,G9,Hx,zB,if_false,s1,v1,zA,hsr,if_true,RZ,b2];cases b with
      | false=>exact fail
      | true=>
       have S:=b3 rfl;obtain⟨ps,p1,p2,p3⟩:=A3x (sh:=a.Ship) hso hsn hl hr S.len e1 e2 e3 e4;obtain⟨r,r1,r2,r3⟩:=pU hc hso hsn hl hr.seg S.len h0;obtain⟨w,w1,w2⟩:=qx hl V st r ps (yB .i64 (r - a.Ready));have hx0:ix l (0:X)=Q st:=by have:=AA l 0; rw[S.hd] at this; exact this
       simp only[if_true,Sy,s1,zA,hx0,r1,r2,p1,p2,w1,w2];by_cases h28:r≤2880
       ·simp only[h28,decide_true,if_true];exact⟨_,E,I,I,fun _=>⟨hh,ha,pts,l,hr,S,p3,h28,r3⟩⟩
       ·simp only[h28,decide_false,zB,if_false];exact fail
     ·have t1:(x==a.To)=O:=by simpa using hto
      have t2:(x !=a.To)=E:=by simpa using hto
      simp only[t1,t2,Bool.not_false,G9,Hx,if_true,zA,zB,if_false];exact fail
theorem gj(x y:X1):((x.Ship==y.Ship)&&((x.Segment==y.Segment)&&((x.Toward==y.Toward)&&((x.Start==y.Start)&&((x.End==y.End)&&E)))))=decide (x=y):=by
 cases x; cases y;rw[zY];simp[X1.mk.injEq]
theorem eS{L:Z→X→W Y}(l m:U X1)(hl:l.length≤maxLen)(hm:l.length=m.length)
  (hs:∀(n i:Z) (h:i<l.length) (h':i<m.length),L (n+1) (i:X)=if decide (l[i]=m[i])=E then L n (yB .i64 ((i:X)+1)) else Q O) (he:∀n,L (n+1) (l.length:X)=Q E):L bigN 0=Q (decide (l=m)):=by
 have:=BV (fun n i=>L n (i:X)=Q (decide (l.drop i=m.drop i))) hl (fun n=>by rw[he,List.drop_length,hm,List.drop_length]; rfl) (fun n i h ih=>by
  have h':i<m.length:=by omega
  simp only[hs n i h h',AS h hl,ih,zJ h,zJ h',List.cons.injEq];by_cases e:l[i]=m[i]<;>simp[e]) (zE _)
 simpa using this
theorem A5i{x o:X2}(h:x.Passages.length≤maxLen):Ix x o=Q (decide (x=o))∧Ht x o=Q (decide (x=o)):=by
 obtain⟨x1,x2,x3,x4⟩:=x;obtain⟨o1,o2,o3,o4⟩:=o
 have e:∀hl:x4.length=o4.length,Iy ⟨x1,x2,x3,x4⟩ ⟨o1,o2,o3,o4⟩ bigN 0=Q (decide (x4=o4))∧I9 x4 o4 bigN 0=Q (decide (x4=o4)):=fun hl=>by
  refine⟨eS x4 o4 h hl (fun n i h1 h2=> ?_) fun n=>by simp[Iy],eS x4 o4 h hl (fun n i h1 h2=> ?_) fun n=>by simp[I9]⟩
  ·rw[Iy];simp only[At,h1,decide_true,if_true,Aw h1,Aw h2,zA,gj]
  ·rw[I9];simp only[At,h1,decide_true,if_true,Aw h1,Aw h2,zA,gj]
 have hne:x4.length≠o4.length→x4≠o4:=fun h e=>h (by rw[e])
 unfold Ix Ht Sl;simp only[X2.mk.injEq,Jl];by_cases c1:x1=o1
 ·by_cases c2:x2=o2
  ·by_cases c3:x3=o3
   ·by_cases c4:x4.length=o4.length
    ·simp[c1,c2,c3,c4,e c4];subst c1 c2 c3;exact(e c4).1
    ·have:¬((x4.length:X)=(o4.length:X)):=by omega
     simp[c1,c2,c3,hne c4,this]
   ·simp[c1,c2,c3]
  ·simp[c1,c2]
 ·simp[c1]
structure GoodP (c:X6) (fl:U X5) (l:U X1):Prop where
 ne:l≠ []
 inn:∀p∈l,Cb c fl p=E
 ship:∃sh,∀p∈l,p.Ship=sh
 link:∀j (h:j+1<l.length),(Cz c l[j+1]).1=(Cz c l[j]).2∧l[j].End≤l[j+1].Start
theorem tn{s:X3}{x:X}(h:0≤CF s x):(if(s.A==x)=E then(s.A,s.B) else(s.B,s.A))=(x,CF s x):=by
 unfold CF at *
 by_cases h1:s.A=x
 ·subst h1; simp
 ·have h1':¬x=s.A:=fun e=>h1 e.symm
  by_cases h2:x=s.B
  ·subst h2; simp[h1,h1']
  ·simp[h1',h2] at h
theorem AtOk.good{h:X7}{a:Xa}{st:X}{o:X2}(H:AtOk h a (o.Passages.map fun p=>p.Segment) st o):GoodP h.Chart h.Fleet o.Passages:=by
 obtain⟨hh,ha,pts,l,hr,S,hp,h28,hlast⟩:=H;obtain⟨_,hc,hfl,_,_⟩:=El hh;simp only[CV,zG] at ha
 have hne:o.Passages≠ []:=fun e=>by
  have h1:=S.hd;have h2:=S.len;rw[e] at h2
  cases l with
  | nil=>cases h1
  | cons=>simp at h2
 obtain⟨_,hp⟩:=hp hne;generalize hps:o.Passages=ps at *
 have hlen:(ps.map fun p=>p.Segment).length=ps.length:=by simp
 have hpos:0<ps.length:=zI.2 hne
 have at_:∀j (hj:j<ps.length),∃x y,pts[j]?=Q x∧l[j]?=Q y∧0≤y∧y≤2880∧idx ps[j].Segment h.Chart.Segments.length=E∧ps[j]=⟨a.Ship,ps[j].Segment,(B0 h.Chart ps[j].Segment).A==x,y,y+Bn (B0 h.Chart ps[j].Segment) (BZ h.Fleet a.Ship)⟩:=fun j hj=>by
  obtain⟨x,y,q1,q2,q3,q4,q5⟩:=hp j (by omega) (by omega);have hs:=hr.seg j (by omega);simp only[zU] at hs q5
  obtain⟨m1,m2⟩:=WP (s:=BZ h.Fleet a.Ship) hc hs;rw[Az (by omega) (by omega),zD hj,zH] at q5
  exact⟨x,y,q1,q2,q3,q4,hs,q5⟩
 have up:∀j (hj:j+1<ps.length),ps[j].End≤ps[j+1].Start:=fun j hj=>by
  obtain⟨x,y,_,q2,q3,q4,q5,q6⟩:=at_ j (by omega);obtain⟨x',y',_,r2,_,_,_,r6⟩:=at_ (j+1) hj;obtain⟨u,v,s1,s2,s3⟩:=S.up j (by omega);rw[q2,zH] at s1
  rw[r2,zH] at s2
  subst s1 s2;simp only[zU] at s3
  obtain⟨m1,m2⟩:=WP (s:=BZ h.Fleet a.Ship) hc q5;rw[Az (by omega) (by omega)] at s3
  rw[q6,r6];exact s3
 refine⟨hne,fun p hpm=> ?_,⟨a.Ship,fun p hpm=> ?_⟩,fun j hj=>⟨?_,up j hj⟩⟩
 ·obtain⟨j,hj,rfl⟩:=zK hpm;obtain⟨x,y,q1,q2,q3,q4,q5,q6⟩:=at_ j hj;obtain⟨m1,m2⟩:=WP (s:=BZ h.Fleet a.Ship) hc q5
  have hend:y+Bn (B0 h.Chart ps[j].Segment) (BZ h.Fleet a.Ship)≤2880:=by
   by_cases hj1:j+1<ps.length
   ·obtain⟨x',y',_,_,_,r4,_,r6⟩:=at_ (j+1) hj1;have:=up j hj1;rw[q6,r6] at this
    exact Int.le_trans this r4
   ·have hjl:j=ps.length - 1:=by omega
    obtain⟨z,z1,z2⟩:=hlast y (by rw[hlen,← hjl]; exact q2) q3 q4;rw[hlen,← hjl,List.getElem?_map,zD hj] at z1
    simp only[Option.map_some,zH] at z1
    rw[← z1,Az (by omega) (by omega)] at z2
    omega
  rw[q6];simp only[Cb,Cq,zG,decide_eq_true_eq];exact⟨ha.1,q5,⟨q3,q4⟩,hend,(Az (by omega) (by omega)).symm⟩
 ·obtain⟨j,hj,rfl⟩:=zK hpm;obtain⟨x,y,q1,q2,q3,q4,q5,q6⟩:=at_ j hj;rw[q6]
 ·have e:∀j (hj:j<ps.length),∃x,pts[j]?=Q x∧0≤CF (B0 h.Chart ps[j].Segment) x∧pts[j+1]?=Q (CF (B0 h.Chart ps[j].Segment) x)∧Cz h.Chart ps[j]=(x,CF (B0 h.Chart ps[j].Segment) x):=fun j hj=>by
   obtain⟨x,y,q1,q2,q3,q4,q5,q6⟩:=at_ j hj;obtain⟨x',t1,t2,t3⟩:=hr.stp j (by omega);simp only[zU] at t2 t3
   rw[q1,zH] at t1
   subst t1;refine⟨x,q1,t3,t2,?_⟩;rw[← tn t3];have ht:ps[j].Toward=((B0 h.Chart ps[j].Segment).A==x):=by rw[q6]
   unfold Cz;rw[ht]
  obtain⟨x,_,_,g3,g4⟩:=e j (by omega);obtain⟨x',k1,_,_,k4⟩:=e (j+1) hj;rw[g3,zH] at k1
  rw[g4,k4,k1]
theorem A0e{h:X7}(s:HSmall h)(a:Xa){o:X2}(hl:o.Passages.length≤10000000):∃b,Ki h a o=Q b∧Hh h a o=Q b∧(b=E→GoodP h.Chart h.Fleet o.Passages):=by
 have hlm:o.Passages.length≤maxLen:=B9 (by omega);have hml:(o.Passages.map fun p=>p.Segment).length≤10000000:=by simpa using hl
 obtain⟨x,q,e1,e2,e3⟩:=A3l s a hml o.Start
 have l1:=KX (L:=Im o h a) o.Passages (fun p=>p.Segment) (fun rt=>(Kk h a rt o.Start).bind fun r9=>if r9.2 then(Ix r9.1 o).bind fun r11=>Q r11 else Q O) hlm (fun n i acc h ha=>by
  rw[Im];simp only[At,h,decide_true,if_true,Aw h,zA];rw[if_pos (CK (by omega) (by simp) (by omega))]) fun n acc ha=>by rw[Im,if_neg (by simp)]
 have l2:=KX (L:=Hk o h a) o.Passages (fun p=>p.Segment) (fun rt=>(JG h a rt o.Start).bind fun r9=>if r9.2 then(Ht r9.1 o).bind fun r11=>Q r11 else Q O) hlm (fun n i acc h ha=>by
  rw[Hk];simp only[At,h,decide_true,if_true,Aw h,zA];rw[if_pos (CK (by omega) (by simp) (by omega))]) fun n acc ha=>by rw[Hk,if_neg (by simp)]
 unfold Ki Hh;rw[XB s,zA,l1,l2,e1,e2,zA,zA];cases q with
 | false=>exact⟨O,by split<;>rfl,rfl,fun h=>by cases h⟩
 | true=>
  have A:=e3 rfl
  have hxo:∀hx:x.Passages.length≤maxLen,∃b,(if E=E then(Ix x o).bind fun r11=>Q r11 else Q O)=Q b∧(if E=E then(Ht x o).bind fun r11=>Q r11 else Q O)=Q b∧(b=E→x=o):=fun hx=>by
   obtain⟨g1,g2⟩:=A5i (o:=o) hx;exact⟨decide (x=o),by rw[g1]; rfl,by rw[g2]; rfl,fun h=>by simpa using h⟩
  have hx:x.Passages.length≤maxLen:=by
   by_cases hn:x.Passages= []
   ·rw[hn]; exact zE _
   ·obtain⟨_,_,_,_,hp,_⟩:=A.mo;have:=(hp hn).1;exact B9 (by omega)
  obtain⟨b,b1,b2,b3⟩:=hxo hx;refine⟨b,?_,b2,fun hb=> ?_⟩
  ·rw[if_pos (by rw[A.hh,A.ha]; rfl)]; exact b1
  ·have hx:=b3 hb;subst hx;exact A.good
def DX(a b g:X):Y:=decide (a - b<g∧b - a<g)
def DY(p q:X1):Y:=decide (p.Start<q.End∧q.Start<p.End)
def DK(c:X6)(r:Xg)(p q:X1):Y:=
 decide (p.Segment=q.Segment)&&(if p.Ship=q.Ship then DY p q else if p.Toward=q.Toward then(DX p.Start q.Start r.Gap || (DX p.End q.End r.Gap || decide ((p.Start<q.Start∧q.End<p.End)∨(q.Start<p.Start∧p.End<q.End)))) else DY p q&&(r.NoMeet || !(B0 c p.Segment).Meet))
theorem eI(c:X6)(r:Xg)(p q:X1):DK c r p q=DK c r q p:=by
 have n:∀a b g,DX a b g=DX b a g:=fun a b g=>by unfold DX; congr 1; exact propext And.comm
 have v:DY p q=DY q p:=by unfold DY; congr 1; exact propext And.comm
 unfold DK;by_cases e:p.Segment=q.Segment
 ·simp only[e,n q.Start,n q.End,← v,eq_comm (a:=q.Ship),eq_comm (a:=q.Toward),or_comm (a:=q.Start<p.Start∧p.End<q.End)]
 ·have e':¬q.Segment=p.Segment:=fun h=>e h.symm
  simp[e,e']
theorem iM{a b g:X}(a0:0≤a)(a1:a≤2880)(b0:0≤b)(b1:b≤2880):Ks a b g=Q (DX a b g):=by
 unfold Ks NX DX;by_cases h:b<a
 ·have h':¬a<b:=by omega
  simp only[h,h',if_true,if_false,show ¬b<0 by omega,decide_false,zB,Az (n:=a - b) (by omega) (by omega),zH,decide_eq_decide];omega
 ·simp only[h,if_false,show ¬a<0 by omega,decide_false,zB,zH,decide_eq_decide];by_cases h':a<b
  ·simp only[h',if_true,Az (n:=b - a) (by omega) (by omega)]; omega
  ·simp only[h',if_false,Az (n:=a - a) (by omega) (by omega)]; omega
theorem fU{a b g:X}(a0:0≤a)(a1:a≤2880)(b0:0≤b)(b1:b≤2880)(g0:0≤g)(g1:g≤60):JR a b g=Q (DX a b g):=by
 unfold JR DX;rw[ED g0 (by omega)];by_cases h:b<a
 ·have h':¬a<b:=by omega
  simp only[h,h',if_true,if_false,ED (n:=a) (by omega) (by omega),ED (n:=b) (by omega) (by omega),ED (n:=a - b) (by omega) (by omega),zH,decide_eq_decide];omega
 ·by_cases h':a<b
  ·simp only[h,h',if_true,if_false,ED (n:=a) (by omega) (by omega),ED (n:=b) (by omega) (by omega),ED (n:=b - a) (by omega) (by omega),zH,decide_eq_decide];omega
  ·simp only[h,h',if_true,if_false,ED (n:=a) (by omega) (by omega),ED (n:=a - a) (by omega) (by omega),zH,decide_eq_decide];omega
theorem A3s{p q:X1}(hp:p.Start<p.End)(hq:q.Start<q.End):Kl p q=Q (DY p q)∧JH p q=Q (DY p q):=by
 have:decide ((if p.Start<q.Start then q.Start else p.Start)<(if q.End<p.End then q.End else p.End))=DY p q:=by
  unfold DY;rw[decide_eq_decide];split<;>split<;>omega
 unfold Kl JH;rw[this];exact⟨I,I⟩
theorem eJ{c:X6}{fl:U X5}{r:Xg}(hc:Bc c=E)(hr:IZ r=E){p q:X1}(hp:Cb c fl p=E)(hq:Cb c fl q=E) :
  (∃n,Ns c r p q=Q n∧(n !=0)=DK c r p q)∧∃n,Mn c r p q=Q n∧(n !=0)=DK c r p q:=by
 obtain⟨_,p2,p3,p4,p5⟩:=DA hc hp;obtain⟨_,q2,q3,q4,q5⟩:=DA hc hq;have hn:=(DJ hc).2.2.1;have h10:=(DJ hc).2.1;have hr':=hr;simp only[IZ,zG,decide_eq_true_eq] at hr'
 obtain⟨o1,o2⟩:=A3s (OB hc hp) (OB hc hq);have n1:=iM (a:=p.Start) (b:=q.Start) (g:=r.Gap) (by omega) (by omega) (by omega) (by omega);have n2:=iM (a:=p.End) (b:=q.End) (g:=r.Gap) (by omega) (by omega) (by omega) (by omega);have m1:=fU (a:=p.Start) (b:=q.Start) (g:=r.Gap) (by omega) (by omega) (by omega) (by omega) hr'.1 hr'.2;have m2:=fU (a:=p.End) (b:=q.End) (g:=r.Gap) (by omega) (by omega) (by omega) (by omega) hr'.1 hr'.2;have hreg:Iu r=Q E:=by simp only[Iu,BF,zA]; exact congrArg Q hr
 unfold Ns Mn Mo Mp Hz Mq DK;simp only[Fy hn,hc,hreg,zA,if_true,Dv _ (show c.Segments.length≤1000 by omega),p2,Em,o1,o2,n1,n2,m1,m2,(C5 p2).1,zQ,zB,if_false];by_cases e1:p.Segment=q.Segment
 ·by_cases e2:p.Ship=q.Ship
  ·cases ho:DY p q<;>simp[e1,e2]
  ·by_cases e3:p.Toward=q.Toward
   ·cases h1:DX p.Start q.Start r.Gap<;>cases h2:DX p.End q.End r.Gap<;>simp[e1,e2,e3];by_cases g1:p.Start<q.Start<;>by_cases g2:q.End<p.End<;>by_cases g3:q.Start<p.Start<;>by_cases g4:p.End<q.End<;>simp[g1,g2,g3,g4]<;>omega
   ·cases ho:DY p q<;>cases hm:r.NoMeet<;>cases hs:(B0 c p.Segment).Meet<;>simp[e1,e2,e3]<;>simp_all
 ·simp[e1]
def E7(c:X6)(r:Xg)(a b:U X1):Y:=a.any fun p=>b.any fun q=>DK c r p q
theorem eB(c:X6)(r:Xg)(a b:U X1):E7 c r a b=E7 c r b a:=by
 rw[zY];simp only[E7,zV];constructor
 ·rintro⟨p,hp,q,hq,h⟩
  exact⟨q,hq,p,hp,by rw[eI]; exact h⟩
 ·rintro⟨p,hp,q,hq,h⟩
  exact⟨q,hq,p,hp,by rw[eI]; exact h⟩
theorem eC{c:X6}{fl:U X5}{r:Xg}(hc:Bc c=E)(hr:IZ r=E){a b:U X1}(ha:∀p∈a,Cb c fl p=E)(hb:∀p∈b,Cb c fl p=E)(la:a.length≤maxLen)(lb:b.length≤maxLen) :
  Nr c r a b=Q (E7 c r a b)∧Mm c r a b=Q (E7 c r a b):=by
 have fin:∀x:Y,(if x=E then Q E else Q O)=Q x:=fun x=>by cases x<;>rfl
 constructor
 ·have:=E5 (L:=F9 b a c r) a (fun p=>b.any fun q=>DK c r p q) (Q E) (Q O) la (fun n i h=>by
   rw[F9];simp only[At,h,decide_true,if_true,Aw h,zA]
   exact E5 (L:=If b a (i:X) c r a[i] (F9 b a c r n)) b (fun q=>DK c r a[i] q) (Q E) (F9 b a c r n (yB .i64 ((i:X)+1))) lb (fun m j hj=>by
    obtain⟨x,x1,x2⟩:=(eJ hc hr (ha _ (zC h)) (hb _ (zC hj))).1;rw[If];simp only[At,hj,decide_true,if_true,Aw hj,zA,x1,x2]) fun m=>by rw[If,if_neg (by simp)]) fun n=>by rw[F9,if_neg (by simp)]
  unfold Nr;rw[this,fin];rfl
 ·have:=E5 (L:=EW b a c r) a (fun p=>b.any fun q=>DK c r p q) (Q E) (Q O) la (fun n i h=>by
   rw[EW];simp only[At,h,decide_true,if_true,Aw h,zA]
   exact E5 (L:=Hy b a (i:X) c r a[i] (EW b a c r n)) b (fun q=>DK c r a[i] q) (Q E) (EW b a c r n (yB .i64 ((i:X)+1))) lb (fun m j hj=>by
    obtain⟨x,x1,x2⟩:=(eJ hc hr (ha _ (zC h)) (hb _ (zC hj))).2;rw[Hy];simp only[At,hj,decide_true,if_true,Aw hj,zA,x1,x2]) fun m=>by rw[Hy,if_neg (by simp)]) fun n=>by rw[EW,if_neg (by simp)]
  unfold Mm;rw[this,fin];rfl
theorem fz{B C:Z→Z→Y}{N M n m:Z}(h:N≤M)(e:∀i j,i<N→j<N→B i j=C i j)(H:Ck B (2 ^ N - 1) n)(K:Ck C (2 ^ M - 1) m):n≤m:=by
 obtain⟨f,f1,f2⟩:=K.1
 have b:∀i,(2 ^ N - 1).testBit i=E→i<N∧(2 ^ M - 1).testBit i=E:=fun i hi=>by
  rw[zP,decide_eq_true_eq] at hi
  exact⟨hi,by rw[zP,decide_eq_true_eq]; omega⟩
 exact H.2 m ⟨f,fun i hi=>f1 i (b i hi).2,fun i j hi hj hne he=>by rw[e i j (b i hi).1 (b j hj).1]; exact f2 i j (b i hi).2 (b j hj).2 hne he⟩
theorem Z5{p:X}{m:U X}{l k:U X8}{i j:Z}(hi:i<l.length)(hj:j<l.length):Bj p m l i j=Bj p m (l++k) i j:=by
 unfold Bj;rw[zF hi,zF hj]
theorem Jt{p:X}{m:U X}{l:U X8}(hm:m.length≤maxLen)(h1:l.length≤12)(h2:∀d∈l,Bu d=E)(h3:Cq p=E)(h4:Eu m=E) :
  ∃n:Z,Ck (Bj p m l) (2 ^ l.length - 1) n∧(∃w,In p m l=Q (w,(n:X),E))∧∀k:X,FR p m l k=Q (decide ((n:X)≤k)):=by
 obtain⟨n,w1,w2,n12,n1,e1,e2⟩:=ot hm (pA h1 h2 h3 h4);refine⟨n,n1,⟨w1,e1⟩,fun k=> ?_⟩;have hn:n≤l.length:=n1.2 _ (RG (by have:=Nat.pow_pos (n:=l.length) (show 0<2 by omega); omega));unfold FR;by_cases hk:(l.length:X)≤k
 ·have:(n:X)≤k:=by omega
  simp[hk,this]
 ·simp[hk,e2]
section
variable {c : X6} {fl : U X5}
def BS(c:X6)(fl:U X5)(all:U X1):U X8:=all.flatMap fun p=>yA (BZ fl p.Ship).Tugs.toNat (CN c p p)
def GL(l:U X8):U X8 × Y:=if l.length≤12 then(l,E) else([],O)
theorem jJ(hn:∀x∈c.Points,x.Name.length≤maxLen)(hf:∀x∈fl,x.Name.length≤maxLen)(hc:Bc c=E)(hfl:Du fl=E){all:U X1}(hl:all.length≤maxLen)(hp:∀p∈all,Cb c fl p=E) :
  Sw c fl all=Q (GL (BS c fl all))∧Mx c fl all=Q (GL (BS c fl all)):=by
 refine BV (fun n i=>∀acc:U X8,acc.length≤12→Fh fl all c n (i:X) acc=Q (GL (acc++BS c fl (all.drop i)))∧EZ fl all c n (i:X) acc=Q (GL (acc++BS c fl (all.drop i)))) hl
  (fun n acc ha=>by simp[Fh,EZ,BS,GL,ha]) (fun n i h ih acc ha=> ?_) (zE _) [] (by simp)
 have hpi:=hp _ (zC h);obtain⟨f1,f2,f3,f4,f5⟩:=DA hc hpi;obtain⟨s1,s2⟩:=IP f1;have hso:=(Kw hfl).2 _ s2
 have hT:0≤(BZ fl all[i].Ship).Tugs∧(BZ fl all[i].Ship).Tugs≤4:=by
  simp only[CG,zG,decide_eq_true_eq] at hso
  omega
 have hTe:(BZ fl all[i].Ship).Tugs=((BZ fl all[i].Ship).Tugs.toNat:X):=by omega
 have hd:BS c fl (all.drop i)=yA (BZ fl all[i].Ship).Tugs.toNat (CN c all[i] all[i])++BS c fl (all.drop (i+1)):=by
  rw[zJ h]; rfl
 rw[Fh,EZ,hd];simp only[At,h,decide_true,if_true,Aw h,zA,iI hn hf hc hfl,xx hn hf hc hfl,hpi,OK f2,s1];generalize (BZ fl all[i].Ship).Tugs.toNat=T at *
 have g1:=A8d (c:=c) (p:=all[i]) s1 f2 all (i:X) (Fh fl all c n) hTe (by omega) T 0 bigN acc (by omega) (by rw[Cw]; omega) (by omega);have g2:=A8c (c:=c) (fl:=fl) (p:=all[i]) f2 all (i:X) (EZ fl all c n) hTe (by omega) T 0 bigN acc (by omega) (by rw[Cw]; omega) (by omega);have g1:Gl fl (Cz c all[i]) all (i:X) c all[i] (Fh fl all c n) bigN 0 acc=_:=g1;have g2:FX fl all (i:X) (BZ fl all[i].Ship) c all[i] (EZ fl all c n) bigN 0 acc=_:=g2;rw[g1,g2,← zR,AS h hl];generalize acc++yA T (CN c all[i] all[i])=ac2 at ih ⊢
 by_cases h12:(12:X)<(ac2.length:X)
 ·have:¬ac2.length+(BS c fl (all.drop (i+1))).length≤12:=by omega
  simp[h12,GL,this]
 ·simp only[h12,decide_false,zB,if_false];exact ih ac2 (by omega)
theorem XT(hc:Bc c=E){all:U X1}(hp:∀p∈all,Cb c fl p=E):∀d∈BS c fl all,Bu d=E:=fun d hd=>by
 obtain⟨p,hpm,hd⟩:=List.mem_flatMap.1 hd;rw[(List.mem_replicate.1 hd).2];have:=DA hc (hp p hpm);exact eO hc this.2.1 this.2.1 this.2.2.1 (OB hc (hp p hpm)) this.2.2.2.2
def Ek(l:U X1):X1:=l.head?.getD ⟨0,0,O,0,0⟩
def Gv(l:U X1):X1:=l.getLast?.getD ⟨0,0,O,0,0⟩
def BW(c:X6)(pl:U X2):U X8:=pl.map fun o=>CN c (Ek o.Passages) (Gv o.Passages)
theorem Wf{l:U X1}(h:l≠ []):l.head?=Q (Ek l)∧l.getLast?=Q (Gv l):=by
 cases l with
 | nil=>exact absurd rfl h
 | cons a l=>
  refine⟨I,?_⟩;unfold Gv;cases e:(a::l).getLast? with
  | none=>rw[zS] at e; cases e
  | some x=>rfl
theorem GoodP.duty{l:U X1}(hc:Bc c=E)(H:GoodP c fl l):Cb c fl (Ek l)=E∧Cb c fl (Gv l)=E∧Bu (CN c (Ek l) (Gv l))=E:=by
 obtain⟨e1,e2⟩:=Wf H.ne;have i1:=H.inn _ (List.mem_of_head? e1);have i2:=H.inn _ (List.mem_of_getLast? e2);have f1:=DA hc i1;have f2:=DA hc i2;have hpos:=zI.2 H.ne
 have hlt:∀j (h:j<l.length),(l[0]'hpos).Start<l[j].End:=by
  intro j
  induction j with
  | zero=>intro h; exact OB hc (H.inn _ (zC h))
  | succ j ih=>
   intro h;have g1:=ih (by omega);have g2:=(H.link j h).2;have g3:=OB hc (H.inn _ (zC h));omega
 have s1:l[0]'hpos=Ek l:=by rw[zO,zD hpos] at e1; exact Option.some.inj e1
 have s2:l[l.length - 1]'(by omega)=Gv l:=by rw[zM,zD (by omega)] at e2; exact Option.some.inj e2
 have:=hlt (l.length - 1) (by omega);rw[s1,s2] at this
 exact⟨i1,i2,eO hc f1.2.1 f2.2.1 f1.2.2.1 this f2.2.2.2.2⟩
theorem A33(hn:∀x∈c.Points,x.Name.length≤maxLen)(hf:∀x∈fl,x.Name.length≤maxLen)(hc:Bc c=E)(hfl:Du fl=E){l:U X1}(hl:l.length≤100000000)(H:GoodP c fl l):NE c fl l=Q (CN c (Ek l) (Gv l),E):=by
 have hlm:l.length≤maxLen:=B9 (by omega);have hpos:=zI.2 H.ne;have h10:=(DJ hc).2.1;obtain⟨e1,e2⟩:=Wf H.ne;obtain⟨i1,i2,_⟩:=H.duty hc;have h00:ix l (0:X)=Q (Ek l):=by have:=AA l 0; rw[← zO,e1] at this; exact this
 obtain⟨sh,hsh⟩:=H.ship
 have chain:Nv c l=Q E:=by
  unfold Nv;rw[Fy hn,hc,zA,if_pos rfl];refine BV (fun n i=>G6 l c n (i:X)=Q E) hlm (fun n=>by simp[G6]) (fun n i h ih=> ?_) (zE _);have hs:=(DA hc (H.inn _ (zC h))).2.1;have hq:(l[i].Ship !=(Ek l).Ship)=O:=by rw[hsh _ (zC h),hsh _ (List.mem_of_head? e1)]; simp
  rw[G6];simp only[At,h,decide_true,if_true,Aw h,h00,zA,hq,zB,if_false,Dv _ (show c.Segments.length≤1000 by omega),hs,AS h hlm,ih];cases i with
  | zero=>rfl
  | succ i=>
   have hz:(((i+1:Z):X)==(0:X))=O:=beq_eq_false_iff_ne.2 (by omega)
   have ew:yB .i64 (((i+1:Z):X) - 1)=(i:X):=by
    rw[show((i+1:Z):X) - 1=(i:X) by omega];exact Az (by omega) (by omega)
   have hi:i<l.length:=by omega
   have hs':=(DA hc (H.inn _ (zC hi))).2.1;obtain⟨k1,k2⟩:=H.link i h;have hx:¬l[i+1].Start<l[i].End:=by omega
   simp only[hz,zB,if_false,OK hs,ew,Aw hi,zA,OK hs',k1,bne_self_eq_false,hx,decide_false]
 unfold NE NF;have hz:((l.length:X)==(0:X))=O:=beq_eq_false_iff_ne.2 (by omega);simp only[hz,zB,if_false,chain,zA,zQ];refine BV (fun n i=>Ir fl l c n (i:X)=Q (CN c (Ek l) (Gv l),E)) hlm (fun n=> ?_) (fun n i h ih=> ?_) (zE _)
 ·have s1:=(DA hc i1).2.1;have s2:=(DA hc i2).2.1;rw[Ir,if_neg (by simp),T5 hlm e2,zA,h00,zA,OK s1,zA,OK s2,zA];rfl
 ·rw[Ir];simp only[At,h,decide_true,if_true,Aw h,zA,iI hn hf hc hfl,H.inn _ (zC h),AS h hlm,ih]
end
def BJ(pl:U X2):U X1:=(BU pl).flatten
def FitP(h:X7)(pl:U X2):Prop:=
 (BS h.Chart h.Fleet (BJ pl)).length≤12∧(∃n:Z,Ck (Bj 0 h.Crew.Moves (BS h.Chart h.Fleet (BJ pl))) (2 ^ (BS h.Chart h.Fleet (BJ pl)).length - 1) n∧(n:X)≤h.Crew.Tugs)∧
  ∃n:Z,Ck (Bj h.Crew.Rest h.Crew.Moves (BW h.Chart pl)) (2 ^ (BW h.Chart pl).length - 1) n∧(n:X)≤h.Crew.Pilots
theorem gA{B:Z→Z→Y}{S n m:Z}(H:Ck B S n)(K:Ck B S m):n=m:=Nat.le_antisymm (H.2 _ K.1) (K.2 _ H.1)
def E2(h:X7)(pl:U X2):Prop:=∀o∈pl,GoodP h.Chart h.Fleet o.Passages∧o.Passages.length≤1048576
theorem O2{h:X7}{pl:U X2}(H:E2 h pl):∀p∈BJ pl,Cb h.Chart h.Fleet p=E:=fun p hp=>by
 obtain⟨l,hl,hp⟩:=List.mem_flatten.1 hp;obtain⟨o,ho,rfl⟩:=zW.1 hl;exact(H o ho).1.inn p hp
theorem Xu{h:X7}{pl:U X2}(hc:Bc h.Chart=E)(H:E2 h pl):∀d∈BW h.Chart pl,Bu d=E:=fun d hd=>by
 obtain⟨o,ho,rfl⟩:=zW.1 hd;exact((H o ho).1.duty hc).2.2
theorem FitP.app{h:X7}{pl ql:U X2}(hh:BQ h=E)(s:HSmall h)(H:E2 h (pl++ql))(hl:pl.length≤12)(F:FitP h (pl++ql)):FitP h pl:=by
 obtain⟨_,hc,_,_,hw⟩:=El hh;obtain⟨m1,m2⟩:=W8 hw;have Hp:E2 h pl:=fun o ho=>H o (List.mem_append_left _ ho)
 have et:BS h.Chart h.Fleet (BJ (pl++ql))=BS h.Chart h.Fleet (BJ pl)++BS h.Chart h.Fleet (BJ ql):=by simp[BJ,BU,BS,List.flatMap_append]
 have ep:BW h.Chart (pl++ql)=BW h.Chart pl++BW h.Chart ql:=by simp[BW]
 obtain⟨f1,⟨n,f2,f3⟩,m,f4,f5⟩:=F;rw[et] at f1 f2
 rw[ep] at f4
 have l1:(BS h.Chart h.Fleet (BJ pl)).length≤12:=by rw[List.length_append] at f1; omega
 obtain⟨n',k1,_,_⟩:=Jt (p:=0) s.mv l1 (XT hc (O2 Hp)) (by decide) m2;obtain⟨m',k2,_,_⟩:=Jt (p:=h.Crew.Rest) s.mv (l:=BW h.Chart pl) (by simpa[BW] using hl) (Xu hc Hp) m1 m2;have q1:=fz (by simp) (fun i j hi hj=>Z5 hi hj) k1 f2;have q2:=fz (by simp) (fun i j hi hj=>Z5 hi hj) k2 f4;exact⟨l1,⟨n',k1,by omega⟩,m',k2,by omega⟩
theorem FitP.iff{h:X7}{pl:U X2}{n m:Z}(h12:(BS h.Chart h.Fleet (BJ pl)).length≤12)(k1:Ck (Bj 0 h.Crew.Moves (BS h.Chart h.Fleet (BJ pl))) (2 ^ (BS h.Chart h.Fleet (BJ pl)).length - 1) n)(k4:Ck (Bj h.Crew.Rest h.Crew.Moves (BW h.Chart pl)) (2 ^ (BW h.Chart pl).length - 1) m) :
  (n:X)≤h.Crew.Tugs∧(m:X)≤h.Crew.Pilots↔FitP h pl:=by
 constructor
 ·rintro⟨a,b⟩
  exact⟨h12,⟨n,k1,a⟩,m,k4,b⟩
 ·rintro⟨_,⟨n',a1,a2⟩,m',b1,b2⟩
  rw[gA k1 a1,gA k4 b1];exact⟨a2,b2⟩
theorem eu{h:X7}{pl:U X2}(hl:pl.length≤12)(H:E2 h pl):(BJ pl).length≤1000000000000:=by
 have:∀(ql:U X2),(∀o∈ql,o.Passages.length≤1048576)→(BJ ql).length≤ql.length*1048576:=by
  intro ql
  induction ql with
  | nil=>intro _; simp[BJ,BU]
  | cons o ql ih=>
   intro h;have h1:=ih fun x hx=>h x (List.mem_cons_of_mem _ hx)
   have h2:=h o (List.mem_cons_self ..);have e:BJ (o::ql)=o.Passages++BJ ql:=rfl;rw[e,List.length_append,List.length_cons];omega
 have:=this pl fun o ho=>(H o ho).2
 omega
theorem rD{h:X7}(s:HSmall h)(hh:BQ h=E){pl:U X2}(hl:pl.length≤12)(H:E2 h pl):∃b,Ec h pl=Q b∧(b=E↔FitP h pl):=by
 obtain⟨_,hc,hfl,_,hw⟩:=El hh;obtain⟨m1,m2⟩:=W8 hw;have hlm:pl.length≤maxLen:=B9 (by omega)
 have key:=BV (fun n i=>∀v2 v3,v2.length≤i*1048576→v3.length=i→FS pl h n (i:X) v2 v3=(Mx h.Chart h.Fleet (v2++BJ (pl.drop i))).bind fun r12=>
   if r12.2 then(FR 0 h.Crew.Moves r12.1 h.Crew.Tugs).bind fun r14=>if r14 then(FR h.Crew.Rest h.Crew.Moves (v3++BW h.Chart (pl.drop i)) h.Crew.Pilots).bind fun r16=>Q r16 else Q O else Q O) hlm
  (fun n v2 v3 h1 h2=>by rw[FS,if_neg (by simp)]; simp[BJ,BU,BW]) (fun n i hi ih v2 v3 h1 h2=> ?_) (zE _) [] [] (by simp) rfl
 ·have key:Ec h pl=_:=key;rw[key,zN,zZ,zZ,(jJ s.pn s.fn hc hfl (B9 (eu hl H)) (O2 H)).2,zA];unfold GL;by_cases h12:(BS h.Chart h.Fleet (BJ pl)).length≤12
  ·obtain⟨n,k1,_,k3⟩:=Jt (p:=0) s.mv h12 (XT hc (O2 H)) (by decide) m2;obtain⟨m,k4,_,k6⟩:=Jt (p:=h.Crew.Rest) s.mv (l:=BW h.Chart pl) (by simpa[BW] using hl) (Xu hc H) m1 m2;simp only[h12,if_true,k3,k6,zA];refine⟨decide ((n:X)≤h.Crew.Tugs)&&decide ((m:X)≤h.Crew.Pilots),by by_cases q:(n:X)≤h.Crew.Tugs<;>simp[q],?_⟩;simp only[zG,decide_eq_true_eq];exact FitP.iff h12 k1 k4
  ·simp only[h12,if_false];exact⟨O,I,⟨(fun h=>by cases h),fun F=>absurd F.1 h12⟩⟩
 ·obtain⟨g1,g2⟩:=H _ (zC hi);obtain⟨e1,e2⟩:=Wf g1.ne;obtain⟨i1,i2,_⟩:=g1.duty hc;have hz:(0:X)<(pl[i].Passages.length:X):=by have:=zI.2 g1.ne; omega
  have h00:ix pl[i].Passages (0:X)=Q (Ek pl[i].Passages):=by have:=AA pl[i].Passages 0; rw[← zO,e1] at this; exact this
  rw[FS];simp only[At,hi,decide_true,if_true,Aw hi,zA,hz,h00,T5 (B9 (by omega)) e2,fQ (DA hc i1).2.1 (DA hc i2).2.1];rw[if_pos (Pg (by omega) (by omega)),if_pos (CK (by omega) (by simp) (by omega)),AS hi hlm,ih _ _ (by simp; omega) (by simp; omega)];simp only[zJ hi,BJ,BU,BW,List.map_cons,List.flatten_cons,zR,List.singleton_append]
theorem A6d{h:X7}(s:HSmall h)(hh:BQ h=E){pl:U X2}(hl:pl.length≤12)(H:E2 h pl):∃b,Sm h.Crew h.Chart h.Fleet (BU pl)=Q b∧(b=E↔FitP h pl):=by
 obtain⟨_,hc,hfl,_,hw⟩:=El hh;obtain⟨m1,m2⟩:=W8 hw;have hlm:pl.length≤maxLen:=B9 (by omega);obtain⟨m,k4,⟨w4,k5⟩,_⟩:=Jt (p:=h.Crew.Rest) s.mv (l:=BW h.Chart pl) (by simpa[BW] using hl) (Xu hc H) m1 m2
 have pil:NG h.Crew h.Chart h.Fleet (BU pl)=Q (m:X):=by
  unfold NG;rw[XD s.mv,hw,zA,if_pos rfl];have hcl:(BU pl).length=pl.length:=by simp[BU]
  refine BV (fun n i=>∀v,v.length=i→v++BW h.Chart (pl.drop i)=BW h.Chart pl→Ga h.Fleet (BU pl) h.Crew h.Chart n (i:X) v=Q (m:X)) hlm (fun n v h1 h2=> ?_) (fun n i hi ih v h1 h2=> ?_) (zE _) [] rfl (by simp)
  ·rw[Ga,if_neg (by rw[hcl]; simp)];have:v=BW h.Chart pl:=by simpa[BW] using h2
   rw[this,k5];rfl
  ·obtain⟨g1,g2⟩:=H _ (zC hi);have hi':i<(BU pl).length:=by omega
   have hg:(BU pl)[i]=pl[i].Passages:=by simp[BU]
   have hz:((pl[i].Passages.length:X)==(0:X))=O:=beq_eq_false_iff_ne.2 (by have:=zI.2 g1.ne; omega);rw[Ga];simp only[At,hi',decide_true,if_true,Aw hi',hg,zA,hz,zB,if_false,A33 s.pn s.fn hc hfl (by omega) g1];rw[if_pos (CK (by omega) (by simp) (by omega)),AS hi hlm];exact ih _ (by simp; omega) (by rw[← h2,zJ hi,zR]; rfl)
 have hT:∃t:X,Kn h.Crew h.Chart h.Fleet (BJ pl)=Q t∧((0≤t∧t≤h.Crew.Tugs)∧(m:X)≤h.Crew.Pilots↔FitP h pl):=by
  unfold Kn;rw[(jJ s.pn s.fn hc hfl (B9 (eu hl H)) (O2 H)).1,zA,XD s.mv,hw,zA,if_pos rfl];unfold GL;by_cases h12:(BS h.Chart h.Fleet (BJ pl)).length≤12
  ·obtain⟨n,k1,⟨w1,k2⟩,_⟩:=Jt (p:=0) s.mv h12 (XT hc (O2 H)) (by decide) m2;simp only[h12,if_true,k2,zA];exact⟨n,rfl,by rw[← FitP.iff h12 k1 k4]; constructor<;>(rintro⟨a,b⟩; exact⟨by omega,b⟩)⟩
  ·simp only[h12,if_false];exact⟨-1,I,⟨(fun h=>by omega),fun F=>absurd F.1 h12⟩⟩
 obtain⟨t,t1,t2⟩:=hT
 have:=(vC (L:=Ih h.Fleet (BU pl) h.Crew h.Chart) (BU pl) (Q ((decide (0≤t)&&decide (t≤h.Crew.Tugs))&&decide ((m:X)≤h.Crew.Pilots))) (by simp[BU]; omega) (fun x hx=>by
  obtain⟨o,ho,rfl⟩:=zW.1 hx
  exact(H o ho).2) (fun n i acc hi ha=>by
   have:(BU pl)[i].length≤1048576:=by
    obtain⟨o,ho,e⟩:=zW.1 (zC hi);rw[← e]; exact(H o ho).2
   have hcl:(BU pl).length=pl.length:=by simp[BU]
   rw[Ih];simp only[At,hi,decide_true,if_true,Aw hi,zA]
   rw[if_pos (Pg (by omega) (by omega))]) fun n=>by
    rw[Ih,if_neg (by simp)];have t1:Kn h.Crew h.Chart h.Fleet (BU pl).flatten=Q t:=t1;rw[t1,zA,BF,zA,pil,zA,BF];cases decide (0≤t)&&decide (t≤h.Crew.Tugs)<;>simp).1
 refine⟨_,this,?_⟩;rw[← t2];simp only[zG,decide_eq_true_eq]
theorem qm{l:U X2}(h:l.length≤1000):Eb l=Q l:=by
 unfold Eb C9;rw[if_pos ⟨by omega,by omega,by omega,by omega⟩];simp only[zA,Int.toNat_zero,List.replicate_zero,zZ];rw[if_pos (by simp only[AJ,List.length_nil,decide_eq_true_eq]; omega)]
def GP(h:X7)(l:U X2)(o:X2):Prop:=∀x∈l,E7 h.Chart h.Regime x.Passages o.Passages=O
theorem uz{h:X7}(s:HSmall h)(hh:BQ h=E){l:U X2}{o:X2}(hl:l.length≤11)(H:E2 h (l++ [o])):∃b,Ms h l o=Q b∧(b=E↔GP h l o∧FitP h (l++ [o])):=by
 obtain⟨_,hc,_,hr,_⟩:=El hh;obtain⟨b,b1,b2⟩:=rD s hh (pl:=l++ [o]) (by simp; omega) H;have Ho:=H o (by simp)
 have e:=E5 (L:=HB l h o) l (fun x=>E7 h.Chart h.Regime x.Passages o.Passages) (Q O) (Q b) (B9 (by omega)) (fun n i hi=>by
  have Hi:=H l[i] (List.mem_append_left _ (zC hi));rw[HB]
  simp only[At,hi,decide_true,if_true,Aw hi,zA,(eC hc hr Hi.1.inn Ho.1.inn (B9 (by omega)) (B9 (by omega))).2]) fun n=>by
   rw[HB,if_neg (by simp),qm (by omega),zA,if_pos (CK (by omega) (by simp) (by omega)),b1];rfl
 have e:Ms h l o=_:=e;rw[e];cases ha:l.any fun x=>E7 h.Chart h.Regime x.Passages o.Passages with
 | true=>
  obtain⟨x,x1,x2⟩:=zV.1 ha;exact⟨O,I,(fun h=>by cases h),fun K=>by rw[K.1 x x1] at x2; cases x2⟩
 | false=>
  refine⟨b,I,b2.trans ⟨fun F=>⟨fun x hx=> ?_,F⟩,fun K=>K.2⟩⟩;have:=List.any_eq_false.1 ha x hx;simpa using this
theorem uy{h:X7}(s:HSmall h)(hh:BQ h=E){pl:U X2}(hl:pl.length≤12)(H:E2 h pl):∃b,Sz h pl=Q b∧(b=E↔(∀i (hi:i<pl.length),GP h (pl.take i) pl[i])∧FitP h pl):=by
 obtain⟨_,hc,_,hr,_⟩:=El hh;have hlm:pl.length≤maxLen:=B9 (by omega);obtain⟨b,b1,b2⟩:=A6d s hh hl H
 obtain⟨x,x1,x2⟩:=BV (fun n i=>∃x,Fi pl h n (i:X)=Q x∧(x=E↔(∀j (hj:j<pl.length),i≤j→GP h (pl.take j) pl[j])∧FitP h pl)) hlm
  (fun n=>⟨b,by rw[Fi,if_neg (by simp),A6c (by omega) fun o ho=>(H o ho).2,zA,b1]; rfl,b2.trans ⟨fun F=>⟨fun j h1 h2=>by omega,F⟩,fun K=>K.2⟩⟩)
  (fun n i hi ih=>by
   obtain⟨x,x1,x2⟩:=ih;have Hi:=H _ (zC hi)
   have e:=E5 (L:=IJ pl (i:X) h pl[i] (pl.take i) ((pl.take i).length:X) (Fi pl h n)) (pl.take i) (fun x=>E7 h.Chart h.Regime pl[i].Passages x.Passages) (Q O) (Fi pl h n (yB .i64 ((i:X)+1))) (B9 (by simp; omega)) (fun m j hj=>by
    have Hj:=H _ (List.mem_of_mem_take (zC hj));rw[IJ];simp only[At,hj,decide_true,if_true,Aw hj,zA,(eC hc hr Hi.1.inn Hj.1.inn (B9 (by omega)) (B9 (by omega))).1]) fun m=>by rw[IJ,if_neg (by simp)]
   rw[Fi];simp only[At,hi,decide_true,if_true,Aw hi,zA,EL (Nat.le_of_lt hi),zN,zT];rw[e,AS hi hlm,x1];cases ha:(pl.take i).any fun x=>E7 h.Chart h.Regime pl[i].Passages x.Passages with
   | true=>
    obtain⟨y,y1,y2⟩:=zV.1 ha;exact⟨O,I,(fun h=>by cases h),fun K=>by rw[eB,K.1 i hi (Nat.le_refl _) y y1] at y2; cases y2⟩
   | false=>
    refine⟨x,I,x2.trans ⟨fun K=>⟨fun j hj hij=> ?_,K.2⟩,fun K=>⟨fun j hj hij=>K.1 j hj (by omega),K.2⟩⟩⟩;by_cases e:j=i
    ·subst e;intro y hy;have:=List.any_eq_false.1 ha y hy;rw[eB];simpa using this
    ·exact K.1 j hj (by omega)) (zE _)
 exact⟨x,x1,x2.trans ⟨fun K=>⟨fun i hi=>K.1 i hi (zE _),K.2⟩,fun K=>⟨fun i hi _=>K.1 i hi,K.2⟩⟩⟩
theorem FitP.nil{h:X7}(hh:BQ h=E):FitP h []:=by
 have hw:=(El hh).2.2.2.2;simp only[EP,zG,decide_eq_true_eq] at hw
 exact⟨by simp[BS,BJ,BU],⟨0,WG,hw.1.1⟩,0,WG,hw.2.1.1⟩
def GA(h:X7)(a:Xa)(o:X2):Y:=(Hh h a o).getD O
theorem WS{h:X7}(s:HSmall h)(a:Xa){o:X2}(hl:o.Passages.length≤1048576):Ki h a o=Q (GA h a o)∧Hh h a o=Q (GA h a o)∧(GA h a o=E→GoodP h.Chart h.Fleet o.Passages∧o.Passages.length≤1048576):=by
 obtain⟨b,b1,b2,b3⟩:=A0e s a (o:=o) (by omega);have:GA h a o=b:=by unfold GA; rw[b2]; rfl
 rw[this];exact⟨b1,b2,fun hb=>⟨b3 hb,hl⟩⟩
theorem A0f{h:X7}(s:HSmall h){cs:U Xa}{pl:U X2}(hpl:pl.length≤1048576)(hp:∀o∈pl,o.Passages.length≤1048576) :
  ∃b,Ny h cs pl=Q b∧M2 h cs pl=Q b∧(b=E→BQ h=E∧cs.length≤6∧pl.length=cs.length∧∀a∈cs,CV h a=E):=by
 obtain⟨b,b1,b2,b3⟩:=qc s (cs:=cs);unfold Ny M2;rw[b1,b2,zA,zA];cases b with
 | false=>exact⟨O,rfl,rfl,fun h=>by cases h⟩
 | true=>
  obtain⟨hh,h6,hcs⟩:=b3 rfl;simp only[if_true];by_cases hlen:pl.length=cs.length
  case neg=>
   have:((pl.length:X) !=(cs.length:X))=E:=by rw[bne_iff_ne]; omega
   simp only[this,if_true];exact⟨O,I,I,fun h=>by cases h⟩
  have hz:((pl.length:X) !=(cs.length:X))=O:=by rw[hlen]; simp
  simp only[hz,zB,if_false];have hlm:pl.length≤maxLen:=B9 (by omega);let Opt:Z→Prop:=fun j=>∀(h1:j<pl.length) (h2:j<cs.length),GA h cs[j] pl[j]=E
  have good:∀i,(∀j,j<i→Opt j)→E2 h (pl.take i):=fun i H o ho=>by
   obtain⟨j,hj,rfl⟩:=zK ho;simp only[List.length_take] at hj
   rw[List.getElem_take];exact(WS s cs[j] (hp _ (zC _))).2.2 (H j (by omega) (by omega) (by omega))
  have hs:∃x,G8 cs pl h bigN 0=Q x∧(x=E↔(∀j,Opt j)∧(∀i (hi:i<pl.length),GP h (pl.take i) pl[i])∧FitP h pl):=by
   obtain⟨x,x1,x2⟩:=BV (fun n i=>(∀j,j<i→Opt j)→∃x,G8 cs pl h n (i:X)=Q x∧(x=E↔(∀j,Opt j)∧(∀i (hi:i<pl.length),GP h (pl.take i) pl[i])∧FitP h pl)) hlm
    (fun n H=>by
     have G:=good _ H;rw[zX] at G
     obtain⟨x,x1,x2⟩:=uy s hh (by omega) G;exact⟨x,by rw[G8,if_neg (by simp),x1]; rfl,x2.trans ⟨fun K=>⟨fun j h1 h2=>H j h1 h1 h2,K⟩,fun K=>K.2⟩⟩)
    (fun n i hi ih H=>by
     have hi':i<cs.length:=by omega
     obtain⟨e1,_,_⟩:=WS s cs[i] (hp _ (zC hi));rw[G8];simp only[At,hi,decide_true,if_true,Aw hi,Aw hi',zA,e1,AS hi hlm];cases hob:GA h cs[i] pl[i] with
     | false=>exact⟨O,rfl,(fun h=>by cases h),fun K=>by have:=K.1 i hi hi'; rw[hob] at this; cases this⟩
     | true=>
      exact ih fun j hj=>by
       by_cases e:j=i
       ·subst e; exact fun _ _=>hob
       ·exact H j (by omega)) (zE _) fun j h=>by omega
   exact⟨x,x1,x2⟩
  have hi_:∃x,FO pl cs h bigN 0=Q x∧(x=E↔∀j (hj:j<pl.length),Opt j∧GP h (pl.take j) pl[j]∧FitP h (pl.take (j+1))):=by
   obtain⟨x,x1,x2⟩:=BV (fun n i=>(∀j,j<i→Opt j)→∃x,FO pl cs h n (i:X)=Q x∧(x=E↔∀j (hj:j<pl.length),i≤j→Opt j∧GP h (pl.take j) pl[j]∧FitP h (pl.take (j+1)))) hlm
    (fun n H=>⟨E,by rw[FO,if_neg (by rw[hlen]; simp)],⟨(fun _ j h1 h2=>by omega),fun _=>rfl⟩⟩)
    (fun n i hi ih H=>by
     have hi':i<cs.length:=by omega
     obtain⟨_,e1,_⟩:=WS s cs[i] (hp _ (zC hi));rw[FO];simp only[At,hi',decide_true,if_true,Aw hi,Aw hi',zA,e1,AS hi hlm,EL (Nat.le_of_lt hi),zN,zT];cases hob:GA h cs[i] pl[i] with
     | false=>exact⟨O,rfl,(fun h=>by cases h),fun K=>by have:=(K i hi (Nat.le_refl _)).1 hi hi'; rw[hob] at this; cases this⟩
     | true=>
      have H':∀j,j<i+1→Opt j:=fun j hj=>by
       by_cases e:j=i
       ·subst e; exact fun _ _=>hob
       ·exact H j (by omega)
      have ht:pl.take (i+1)=pl.take i++ [pl[i]]:=by simp
      have G:=good _ H';rw[ht] at G
      obtain⟨b,b1,b2⟩:=uz s hh (by simp; omega) G;obtain⟨x,x1,x2⟩:=ih H';simp only[if_true,b1,zA,x1];cases b with
      | false=>exact⟨O,rfl,(fun h=>by cases h),fun K=>by have:=(K i hi (Nat.le_refl _)).2; rw[ht] at this; exact b2.2 this⟩
      | true=>
       have hb:=b2.1 rfl;rw[← ht] at hb
       refine⟨x,I,x2.trans ⟨fun K j hj hij=> ?_,fun K j hj hij=>K j hj (by omega)⟩⟩;by_cases e:j=i
       ·subst e; exact⟨fun _ _=>hob,hb⟩
       ·exact K j hj (by omega)) (zE _) fun j h=>by omega
   exact⟨x,x1,x2.trans ⟨fun K j hj=>K j hj (zE _),fun K j hj _=>K j hj⟩⟩
  obtain⟨x,x1,x2⟩:=hs;obtain⟨y,y1,y2⟩:=hi_
  have exy:x=y:=by
   rw[zY,x2,y2];constructor
   ·rintro⟨k1,k2,k3⟩ j hj
    refine⟨k1 j,k2 j hj,?_⟩;have G:=good pl.length fun j _=>k1 j
    rw[zX,← List.take_append_drop (j+1) pl] at G
    rw[← List.take_append_drop (j+1) pl] at k3
    exact FitP.app hh s G (by simp; omega) k3
   ·intro K;refine⟨fun j h1 h2=>(K j h1).1 h1 h2,fun i hi=>(K i hi).2.1,?_⟩;by_cases h0:pl= []
    ·rw[h0]; exact FitP.nil hh
    ·have hpos:=zI.2 h0;have:=(K (pl.length - 1) (by omega)).2.2;rw[show pl.length - 1+1=pl.length by omega,zX] at this
     exact this
  subst exy;exact⟨x,x1,y1,fun _=>⟨hh,h6,hlen,hcs⟩⟩
end Go.Vi
