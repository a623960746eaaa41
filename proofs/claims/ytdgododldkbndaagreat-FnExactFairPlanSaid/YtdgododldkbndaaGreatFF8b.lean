/-
Plain laws. No condition.
-/
import Derived.Test.YtdgododldkbndaaGreatFP8a
namespace Go.Vi
set_option linter.all false
open Option renaming bind_some → Z, some → O
open List renaming getElem?_eq_getElem → I, getElem_mem → zB, getElem?_append_left → zD, length_pos_iff → zG, getElem_of_mem → zH, drop_eq_getElem_cons → zI, getElem?_append_right → zJ, getLast?_eq_getElem? → zK, head?_eq_getElem? → zL, take_succ_eq_append_getElem → zM, mem_cons_of_mem → zN, mem_cons_self → zO, append_assoc → zQ, any_eq_true → zR, getElem_map → zS, mem_map → zT, nil_append → zU, drop_zero → zV, replicate → zW
open Option.some renaming injEq → zA
open Bool renaming false_eq_true → zC, and_eq_true → zE, true → E, false → G
open Nat renaming zero_le → zF, testBit_two_pow_sub_one → zP
open IntKind renaming wrap → zX
open _root_ renaming List → Q, Int → U, Bool → W, Nat → X, rfl → Y
theorem sn{n:X}(h:0<n):∃q,n=q+1:=⟨n - 1,by omega⟩
theorem As{n:X}(h:n≤1000000000000):n≤maxLen:=by rw[AA]; omega
theorem B3{n k b:X}(h:n≤100000000)(hk:k≤1000)(hb:b≤1000):A3 n k b=E:=by
 have:(n+k)*b≤100001000*1000:=Nat.mul_le_mul (by omega) hb;simp only[A3,decide_eq_true_eq];omega
theorem BO(P:X→X→Prop){len:X}(hl:len≤maxLen)(h0:∀n,P (n+1) len)(hs:∀n i,i<len→P n (i+1)→P (n+1) i){i:X}(hi:i≤len):P bigN i:=by
 have key:∀k i n,i+k=len→k<n→P n i:=by
  intro k
  induction k with
  | zero=>
   intro i n h1 h2;obtain⟨q,rfl⟩:=sn (n:=n) (by omega);obtain rfl:i=len:=by omega
   exact h0 q
  | succ k ih=>
   intro i n h1 h2;obtain⟨q,rfl⟩:=sn (n:=n) (by omega);exact hs q i (by omega) (ih _ _ (by omega) (by omega))
 exact key (len - i) i bigN (by omega) (Nat.lt_of_le_of_lt (Nat.sub_le _ _) (Bx hl))
theorem F0{α R:Type}{L:X→U→Option R}(l:Q α)(p:α→W)(x K:Option R)(hl:l.length≤maxLen)
  (hs:∀(n i:X) (h:i<l.length),L (n+1) (i:U)=if p l[i]=E then x else L n (zX .i64 ((i:U)+1))) (he:∀n,L (n+1) (l.length:U)=K):L bigN 0=if l.any p=E then x else K:=by
 have:=BO (fun n i=>L n (i:U)=if(l.drop i).any p=E then x else K) hl (fun n=>by simpa using he n) (fun n i h ih=>by
  simp only[hs n i h,Aw h hl,ih,zI h,List.any_cons];cases p l[i]<;>simp) (zF _)
 simpa using this
theorem J1{α:Type}{l:Q α}{x:α}(hl:l.length≤maxLen)(h:l.getLast?=O x):ix l (zX .i64 ((l.length:U) - 1))=O x:=by
 have h0:0<l.length:=by cases l with | nil=>cases h | cons=>simp
 rw[show(l.length:U) - 1=((l.length - 1:X):U) by omega,Am (by omega) (by rw[AA] at hl; omega),Al,← zK,h]
theorem IW{i:U}{n:X}:idx i n=E↔0≤i∧i<(n:U):=by simp[idx]
theorem Cc{c:X1}(h:AO c=E):c.Points.length≤8∧c.Segments.length≤10∧(∀x∈c.Points,x.Name.length≤maxLen)∧∀x∈c.Segments,idx x.A c.Points.length=E∧idx x.B c.Points.length=E:=by
 simp only[AO,zE,decide_eq_true_eq,List.all_eq_true,List.mem_range] at h;obtain⟨h1,h2,h3,h4⟩:=h;refine⟨h1,h2,fun x hx=> ?_,fun x hx=> ?_⟩
 ·obtain⟨i,hi,rfl⟩:=zH hx;have:=h3 i hi;simp only[H3,I hi,zE] at this
  exact As (by have:=(sW this.1).2; omega)
 ·obtain⟨i,hi,rfl⟩:=zH hx;have:=h4 i hi;simp only[DP,I hi,zE,decide_eq_true_eq] at this
  exact⟨this.1,this.2.1⟩
theorem FQ{c:X1}{s:X4}{i:U}(hc:AO c=E)(hi:idx i c.Segments.length=E):1≤AF (Aq c i) s∧AF (Aq c i) s≤480:=by
 obtain⟨_,_,a,b⟩:=(EQ hc).2.2 _ (BJ hi).2;unfold AF;split
 ·rw[Am (n:=2*_) (by omega) (by omega)]; omega
 ·omega
def C3(h:X6)(a:Xa):W:=idx a.Ship h.Fleet.length&&(idx a.From h.Chart.Points.length&&(idx a.To h.Chart.Points.length&&(decide (a.From≠a.To)&&(C5 a.Ready&&(decide (a.Ready≤a.Due)&&decide (a.Due≤2880))))))
theorem So(h:X6)(a:Xa):JZ h a=O (C3 h a):=by
 unfold JZ C3;simp only[E7,Z,GT,Dw,Lx,C5,Qc];cases idx a.Ship h.Fleet.length<;>cases idx a.From h.Chart.Points.length<;>cases idx a.To h.Chart.Points.length<;>simp[bne_iff_ne]
theorem pQ{h:X6}(s:HSmall h)(a:Xa):LI h a=O (B5 h&&C3 h a):=by
 unfold LI;rw[WL s,Z,So];cases B5 h<;>rfl
theorem EB{h:X6}(hh:B5 h=E):Dj h.Forecast=E∧AO h.Chart=E∧DH h.Fleet=E∧Jc h.Regime=E∧F4 h.Crew=E:=by
 simpa only[B5,zE] using hh
theorem YM{h:X6}(s:HSmall h)(a:Xa):Kq h a=O (B5 h&&C3 h a):=by
 unfold Kq;rw[YP s,Z];cases hh:B5 h with
 | false=>simp
 | true=>
  obtain⟨_,hc,hf,_,_⟩:=EB hh;have h1:=(IU hf).1;have h2:=(Cc hc).1;simp only[if_true,CP _ (show h.Fleet.length≤1000 by omega),CP _ (show h.Chart.Points.length≤1000 by omega),Z,BB,C3,Bool.true_and,Lx,C5,Qc];cases idx a.Ship h.Fleet.length<;>cases idx a.From h.Chart.Points.length<;>cases idx a.To h.Chart.Points.length<;>simp[bne_iff_ne]
theorem gI(a1:Q Xa)(v4:U)(a0:X6)(x6:Xa)(y10:Q Xa)(y11:U)(K:U→Option W):∀n v,Ks a1 v4 a0 x6 y10 y11 K n v=F6 a1 v4 a0 x6 y10 y11 K n v:=by
 intro n
 induction n with
 | zero=>intro v; rfl
 | succ n ih=>intro v; simp only[Ks,F6,ih,BEq.comm (a:=x6.Ship)]
theorem gH{h:X6}(s:HSmall h)(hh:B5 h=E)(cs:Q Xa):∀n v,Kr cs h n v=DX cs h n v:=by
 intro n
 induction n with
 | zero=>intro v; rfl
 | succ n ih=>intro v; simp only[Kr,DX,YM s,So,hh,Bool.true_and,gI,funext ih]
theorem gJ{h:X6}(s:HSmall h){cs:Q Xa}:∃b,N0 h cs=O b∧LJ h cs=O b∧(b=E→B5 h=E∧cs.length≤6∧∀a∈cs,C3 h a=E):=by
 unfold N0 LJ;rw[YP s,WL s,Z];cases hh:B5 h with
 | false=>exact⟨G,rfl,rfl,fun h=>by cases h⟩
 | true=>
  simp only[if_true,funext (gH s hh cs _),Z];by_cases h6:(6:U)<(cs.length:U)
  ·simp only[h6,decide_true,if_true];exact⟨G,Y,Y,fun h=>by cases h⟩
  ·simp only[h6,decide_false,zC,if_false];have hl:cs.length≤maxLen:=As (by omega)
   have:=BO (fun n i=>∃b,DX cs h n (i:U)=O b∧(b=E→∀j (hj:j<cs.length),i≤j→C3 h cs[j]=E)) hl (fun n=>⟨E,by simp[DX],fun _ j h1 h2=>by omega⟩) (fun n i hi ih=>by
    obtain⟨b,e1,e2⟩:=ih;rw[DX];simp only[Af,hi,decide_true,if_true,Ai hi,Z,So,F3 (Nat.le_of_lt hi),zV,Nat.sub_zero];cases hok:C3 h cs[i] with
    | false=>exact⟨G,rfl,fun h=>by cases h⟩
    | true=>
     simp only[if_true]
     have e:=F0 (L:=F6 cs (i:U) h cs[i] (cs.take i) ((cs.take i).length:U) (DX cs h n)) (cs.take i) (fun x=>x.Ship==cs[i].Ship) (O G) (DX cs h n (zX .i64 ((i:U)+1))) (As (by simp; omega)) (fun m j hj=>by
      rw[F6];simp only[Af,hj,decide_true,if_true,Ai hj,Z]) fun m=>by rw[F6,if_neg (by simp)]
     rw[e,Aw hi hl,e1];split
     ·exact⟨G,Y,fun h=>by cases h⟩
     ·refine⟨b,Y,fun hb j h1 h2=> ?_⟩;by_cases hji:j=i
      ·subst hji; exact hok
      ·exact e2 hb j h1 (by omega)) (zF _)
   obtain⟨b,e1,e2⟩:=this
   exact⟨b,e1,e1,fun hb=>⟨trivial,by omega,fun a ha=>by
    obtain⟨j,hj,rfl⟩:=zH ha;exact e2 hb j hj (zF _)⟩⟩
def BR(x:X2)(a:U):U:=if a=x.A then x.B else if a=x.B then x.A else -1
theorem RE(x:X2)(a:U):JX x a=O (BR x a):=by
 unfold JX BR;by_cases h1:a=x.A
 ·rw[if_pos (by simpa using h1),if_pos h1]
 ·rw[if_neg (by simpa using h1),if_neg h1];by_cases h2:a=x.B
  ·rw[if_pos (by simpa using h2),if_pos h2]
  ·rw[if_neg (by simpa using h2),if_neg h2]
theorem SO(x:X2)(a:U):Nw x a=O (BR x a):=RE x a
theorem UV{c:X1}(hc:AO c=E){x:X2}(hx:x∈c.Segments)(a:U):BR x a= -1∨idx (BR x a) c.Points.length=E:=by
 obtain⟨h1,h2⟩:=(Cc hc).2.2.2 x hx;unfold BR;split
 ·exact Or.inr h2
 ·split
  ·exact Or.inr h1
  ·exact Or.inl Y
theorem RQ{l:Q U}(hl:l.length≤maxLen)(a:U):KI l a=O (l.any fun x=>x==a):=by
 have:=F0 (L:=IH a l) l (fun x=>x==a) (O E) (O G) hl (fun n i h=>by
  rw[IH];simp only[Af,h,decide_true,if_true,Ai h,Z]) fun n=>by simp[IH]
 unfold KI;rw[this];cases l.any fun x=>x==a<;>rfl
def Ea(y:X8):Q W:= [y.i0,y.i1,y.i2,y.i3,y.i4,y.i5,y.i6,y.i7]
theorem YJ(y:X8){n:X}(hn:n<8):Ea (X8.set y n E)=(Ea y).set n E:=by
 have:n=0∨n=1∨n=2∨n=3∨n=4∨n=5∨n=6∨n=7:=by omega
 rcases this with rfl|rfl|rfl|rfl|rfl|rfl|rfl|rfl<;>rfl
def Met(y:X8)(l:Q U):Prop:=∀x:U,0≤x→x<8→ix (Ea y) x=O (l.any fun z=>z==x)
theorem Met.snoc{y:X8}{l:Q U}(H:Met y l){r:U}(h0:0≤r)(h8:r<8):Met (X8.set y r.toNat E) (l++ [r]):=fun x x0 x8=>by
 obtain⟨n,rfl⟩:∃n:X,r=(n:U):=⟨r.toNat,by omega⟩;obtain⟨m,rfl⟩:∃m:X,x=(m:U):=⟨x.toNat,by omega⟩;have hl:(Ea y).length=8:=rfl;have hm:=H m x0 x8;rw[Al] at hm
 rw[Int.toNat_natCast,YJ y (by omega),Al,List.getElem?_set,hm];by_cases e:n=m
 ·subst e;rw[if_pos rfl,if_pos (by omega)];simp
 ·rw[if_neg e];have:((n:U)==(m:U))=G:=beq_eq_false_iff_ne.2 (by omega);simp[this]
structure RtOk (c:X1) (rt l:Q U):Prop where
 len:l.length=rt.length+1
 pt:∀x∈l,idx x c.Points.length=E
 seg:∀i (h:i<rt.length),idx rt[i] c.Segments.length=E
 stp:∀i (h:i<rt.length),∃x,l[i]?=O x∧l[i+1]?=O (BR (Aq c rt[i]) x)∧0≤BR (Aq c rt[i]) x
theorem Ym{c:X1}(hc:AO c=E){rt:Q U}{a:U}(ha:idx a c.Points.length=E)(hl:rt.length≤10000000) :
  ∃l b,GD c a rt=O (l,b)∧Ht c a rt=O (l,b)∧(b=G→l= [])∧(b=E→RtOk c rt l):=by
 obtain⟨hp8,hs10,_,_⟩:=Cc hc;have ha':=IW.1 ha;have fail:∃l b,(O (([]:Q U),G):Option (Q U × W))=O (l,b)∧(O (([]:Q U),G):Option (Q U × W))=O (l,b)∧(b=G→l= [])∧(b=E→RtOk c rt l):=⟨[],G,rfl,rfl,fun _=>rfl,fun h=>by cases h⟩
 have main:=BO (fun n i=>∀v5 v7 l,l.getLast?=O v5→l.length=i+1→Met v7 l→(∀x∈l,idx x c.Points.length=E)→
   (∀j (h:j<rt.length),j<i→idx rt[j] c.Segments.length=E∧∃x,l[j]?=O x∧l[j+1]?=O (BR (Aq c rt[j]) x)∧0≤BR (Aq c rt[j]) x)→
   ∃l' b,E3 rt c n (i:U) l=O (l',b)∧Gc rt c n v5 (i:U) v7 l=O (l',b)∧(b=G→l'= [])∧(b=E→RtOk c rt l')) (len:=rt.length) (As (by omega))
  (fun n v5 v7 l h1 h2 h3 h4 h5=>⟨l,E,by simp[E3],by simp[Gc],(fun h=>by cases h),fun _=>⟨h2,h4,fun j h=>(h5 j h h).1,fun j h=>(h5 j h h).2⟩⟩)
  (fun n i hi ih v5 v7 l h1 h2 h3 h4 h5=>by
   rw[E3,Gc];simp only[Af,hi,decide_true,if_true,Ai hi,Z,E7,CP _ (show c.Segments.length≤1000 by omega)];cases hx:idx rt[i] c.Segments.length with
   | false=>exact fail
   | true=>
    simp only[if_true,(BJ hx).1,Z,J1 (As (by omega)) h1,SO,RE];have he:=UV hc (BJ hx).2 v5;have hr:∃r,BR (Aq c rt[i]) v5=r:=⟨_,rfl⟩;obtain⟨r,hr⟩:=hr;rw[hr] at he ⊢
    by_cases h0:r<0
    ·simp only[h0,decide_true,if_true,Hu,GE];exact fail
    ·have hri:=he.resolve_left (by omega);have hr':=IW.1 hri;have hd:(decide (0≤r)&&decide (r<8))=E:=by simp; omega
     have hm:=h3 r hr'.1 (by omega);unfold Ea at hm
     simp only[h0,decide_false,zC,if_false,hd,if_true,RQ (As (n:=l.length) (by omega)),Z,hm];cases hb:l.any fun z=>z==r with
     | true=>simp only[Hu,GE,if_true]; exact fail
     | false=>
      simp only[Hu,GE,zC,if_false,hd,if_true];rw[if_pos (B3 (by omega) (by simp) (by omega)),if_pos (B3 (by omega) (by simp) (by omega)),Aw hi (As (by omega))];refine ih r _ _ (by simp) (by simp; omega) (h3.snoc hr'.1 (by omega)) (fun x hx=> ?_) fun j h1' h2'=> ?_
      ·rcases List.mem_append.1 hx with hx|hx
       ·exact h4 x hx
       ·simp only[List.mem_singleton] at hx; exact hx▸hri
      ·by_cases hji:j=i
       ·subst hji;refine⟨hx,v5,?_,?_,by rw[hr]; exact hr'.1⟩
        ·rw[zD (by omega),← h1,zK,h2]; rfl
        ·rw[zJ (by omega),h2,hr]; simp
       ·obtain⟨g1,x,g2,g3,g4⟩:=h5 j h1' (by omega);exact⟨g1,x,by rw[zD (by omega)]; exact g2,by rw[zD (by omega)]; exact g3,g4⟩) (zF _)
 have hd:(decide (0≤a)&&decide (a<8))=E:=by simp; omega
 unfold GD Ht;rw[E7,ha,Z];simp only[if_true,hd]
 have m0:Met ⟨G,G,G,G,G,G,G,G⟩ []:=fun x x0 x8=>by
  obtain⟨n,rfl⟩:∃n:X,x=(n:U):=⟨x.toNat,by omega⟩;have:n=0∨n=1∨n=2∨n=3∨n=4∨n=5∨n=6∨n=7:=by omega
  rcases this with rfl|rfl|rfl|rfl|rfl|rfl|rfl|rfl<;>rfl
 exact main a _ [a] rfl Y (m0.snoc ha'.1 (by omega)) (by simpa using ha) fun j _ h=>by omega
theorem YA{c:X1}(hc:AO c=E){rt:Q U}{a:U}(hl:rt.length≤10000000) :
  ∃l b,Ew c a rt=O b∧F9 c a rt=O b∧Fx c a rt=O l∧DY c a rt=O l∧(b=G→l= [])∧(b=E→RtOk c rt l):=by
 have hn:=(Cc hc).2.2.1;have h8:=(Cc hc).1;unfold Fx DY Ew F9;simp only[DQ hn,FM hn,hc,Z,if_true,CP _ (show c.Points.length≤1000 by omega)];cases ha:idx a c.Points.length with
 | false=>
  refine⟨[],G,Y,?_,Y,?_,fun _=>rfl,fun h=>by cases h⟩<;>(unfold Ht; rw[E7,ha]; rfl)
 | true=>
  obtain⟨l,b,e1,e2,e3,e4⟩:=Ym hc ha hl;refine⟨l,b,by simp only[if_true,e1,Z],by simp only[e2,Z],?_,by simp only[e2,Z],e3,e4⟩;simp only[if_true,e1,Z];cases b with
  | false=>rw[e3 rfl]; rfl
  | true=>rfl
theorem oU(l:Q X5)(a:U)(hl:l.length≤100000):∃b,N6 l a=O b∧LN l a=O b∧(b=E→∃w∈l,w.From≤a∧a≤w.To):=by
 have e1:=F0 (L:=Ir a l) l (fun x=>decide (x.From≤a)&&decide (a≤x.To)) (O E) (O G) (As (by omega)) (fun n i h=>by
  rw[Ir];simp only[Af,h,decide_true,if_true,Ai h,Z,BB]) fun n=>by simp[Ir]
 have e2:=F0 (L:=HC a l) l (fun x=>decide (x.From≤a)&&decide (a≤x.To)) (O E) (O G) (As (by omega)) (fun n i h=>by
  rw[HC];simp only[Af,h,decide_true,if_true,Ai h,Z,Dw]) fun n=>by simp[HC]
 unfold N6 LN;rw[e1,e2];split
 ·rename_i h
  obtain⟨w,w1,w2⟩:=zR.1 h;simp only[zE,decide_eq_true_eq] at w2
  exact⟨E,Y,Y,fun _=>⟨w,w1,w2⟩⟩
 ·exact⟨G,Y,Y,fun h=>by cases h⟩
theorem sX(l:Q X5)(a:U)(hl:l.length≤100000)(hW:∀w∈l,w.From≤w.To):∃r,Nc l a=O r∧LV l a=O r∧(r<0∨(a≤r∧∃w∈l,w.From≤r∧r≤w.To)):=by
 have hm:l.length≤maxLen:=As (by omega);unfold Nc LV;rw[YU hm,WN hm,Z,Z];split
 ·exact BO (fun n i=>∃r,Iv a l n (i:U)=O r∧HD a l n (i:U)=O r∧(r<0∨(a≤r∧∃w∈l,w.From≤r∧r≤w.To))) hm (fun n=>⟨-1,by simp[Iv],by simp[HD],Or.inl (by omega)⟩) (fun n i h ih=>by
   rw[Iv,HD];simp only[Af,h,decide_true,if_true,Ai h,Z,Aw h hm];split
   ·rename_i hd
    simp only[decide_eq_true_eq] at hd
    have hw:=hW _ (zB h);exact⟨_,Y,Y,Or.inr ⟨by split<;>omega,l[i],zB h,by split<;>omega,by split<;>omega⟩⟩
   ·exact ih) (zF _)
 ·exact⟨-1,Y,Y,Or.inl (by omega)⟩
def wt(c:X1)(x:U):W:=(c.Points[x.toNat]?.getD ⟨[],G⟩).Wait
structure VoyOk (f:Xd) (c:X1) (s:X4) (rt pts:Q U) (v:Xk):Prop where
 ne:rt≠ []
 r:RtOk c rt pts
 ml:v.minutes.length=rt.length
 ul:v.sure.length=rt.length
 m:∀i (h:i<rt.length),v.minutes[i]?=O (AF (Aq c rt[i]) s)
 w:∀i (h:i<rt.length),∃x,pts[i]?=O x∧v.waits[i]?=O (wt c x)
 u:∀i (h:i<rt.length),∃l,v.sure[i]?=O l∧l.length≤2881∧∀w∈l,0≤w.From∧w.From≤w.To∧w.To+AF (Aq c rt[i]) s≤2880
 st:PP f c s rt=O v.sure
theorem xC{f:Xd}{c:X1}{s:X4}(hf:Dj f=E)(hc:AO c=E)(hs:Cj s=E)(hsn:s.Name.length≤maxLen){rt pts:Q U}{a:U}(hl:rt.length≤10000000)(hr:RtOk c rt pts)(h0:rt≠ [])
  (e1:F9 c a rt=O E) (e2:DY c a rt=O pts):∃v,HV f c s a rt=O (v,E)∧VoyOk f c s rt pts v:=by
 have hn:=(Cc hc).2.2.1;have hz:((rt.length:U)==(0:U))=G:=by cases rt with | nil=>exact absurd rfl h0 | cons=>simp; omega
 have hp:=hr.len;have hlen:(pts.take rt.length).length=rt.length:=by simp; omega
 have hlm:rt.length≤maxLen:=As (by omega)
 have hspec:=BO (fun n i=>∀us,us.length=i→∃vs,GH rt f c s n (i:U) us=O (us++vs)∧∀ws ms,ws.length=i→ms.length=i→
   ∃ws' ms',HX rt f c s (pts.take rt.length) ((pts.take rt.length).length:U) n (i:U) ws ms us=O (⟨ws++ws',ms++ms',us++vs⟩,E)∧ms'.length=rt.length - i∧vs.length=rt.length - i∧
    (∀j (h:j<rt.length),i≤j→ms'[j - i]?=O (AF (Aq c rt[j]) s)∧(∃x,pts[j]?=O x∧ws'[j - i]?=O (wt c x))∧∃l,vs[j - i]?=O l∧l.length≤2881∧∀w∈l,0≤w.From∧w.From≤w.To∧w.To+AF (Aq c rt[j]) s≤2880)) hlm
  (fun n us hu=>⟨[],by simp[GH],fun ws ms hw hm=>⟨[],[],by simp[HX,hlen],by simp,by simp,fun j h h'=>by omega⟩⟩)
  (fun n i h ih us hu=>by
   obtain⟨l,l1,l2,l3,l4⟩:=vR (s:=s) hf hn hsn hc hs (hr.seg i h);have hlt':i<(pts.take rt.length).length:=by omega
   have hpi:i<pts.length:=by omega
   have hpt:=hr.pt pts[i] (zB hpi);have hg:(pts.take rt.length)[i]=pts[i]:=by simp
   obtain⟨vs,v1,v2⟩:=ih (us++ [l]) (by simp; omega);refine⟨l::vs,?_,fun ws ms hw hm=> ?_⟩
   ·rw[GH];simp only[Af,h,decide_true,if_true,Ai h,Z,l1];rw[if_pos (B3 (by omega) (by simp) (by omega)),Aw h hlm,v1];simp
   ·obtain⟨ws',ms',g1,g2,g2',g3⟩:=v2 (ws++ [wt c pts[i]]) (ms++ [AF (Aq c rt[i]) s]) (by simp; omega) (by simp; omega);refine⟨wt c pts[i]::ws',AF (Aq c rt[i]) s::ms',?_,by simp; omega,by simp; omega,fun j hj hij=> ?_⟩
    ·rw[HX];simp only[Af,hlt',decide_true,if_true,Ai hlt',Ai h,hg,Z,(L0 (⟨[],G⟩:X7) hpt).1,(BJ (hr.seg i h)).1,NT,l2];rw[if_pos (B3 (by omega) (by simp) (by omega)),if_pos (B3 (by omega) (by simp) (by omega)),if_pos (B3 (by omega) (by simp) (by omega)),Aw h hlm];refine g1.trans ?_;simp
    ·by_cases hji:j=i
     ·subst hji;simp only[Nat.sub_self,List.getElem?_cons_zero];exact⟨trivial,⟨_,I hpi,Y⟩,l,Y,l3,l4⟩
     ·obtain⟨q,hq⟩:∃q,j - i=q+1:=⟨j - i - 1,by omega⟩;have:=g3 j hj (by omega);rw[show j - (i+1)=q by omega] at this
      rw[hq];simpa using this) (zF _)
 obtain⟨vs,v1,v2⟩:=hspec [] rfl;obtain⟨ws',ms',g1,g2,g3,g4⟩:=v2 [] [] rfl rfl;refine⟨⟨ws',ms',vs⟩,?_,h0,hr,by simpa using g2,by simpa using g3,fun i h=>by simpa using(g4 i h (zF _)).1,fun i h=>by simpa using(g4 i h (zF _)).2.1,fun i h=>by simpa using(g4 i h (zF _)).2.2,show GH rt f c s bigN 0 []=O vs by simpa using v1⟩;unfold HV;simp only[NS,GS hsn,hf,hs,e1,e2,Z,if_true,HW,hz,zC,if_false];rw[F3 (by omega),Z];simp only[zV,Nat.sub_zero];exact g1
structure Sailed (c:X1) (s:X4) (rt:Q U) (st:U) (l:Q U):Prop where
 len:l.length=rt.length
 hd:l[0]?=O st
 sf:∀i (h:i<rt.length),∃y,l[i]?=O y∧0≤y∧y+AF (Aq c rt[i]) s≤2880
 up:∀i (h:i+1<rt.length),∃x y,l[i]?=O x∧l[i+1]?=O y∧zX .i64 (x+AF (Aq c rt[i]) s)≤y
theorem uV{f:Xd}{c:X1}{s:X4}(hc:AO c=E){rt pts:Q U}{v:Xk}(hl:rt.length≤10000000)(H:VoyOk f c s rt pts v)(st:U) :
  ∃l b,KJ c s pts rt v.sure st=O (l,b)∧Mj v st=O (l,b)∧(b=E→Sailed c s rt st l):=by
 have h0:0<rt.length:=zG.2 H.ne;have hlm:rt.length≤maxLen:=As (by omega);obtain⟨l0,u1,u2,u3⟩:=H.u 0 h0;obtain⟨b,b1,b2,b3⟩:=oU l0 st (by omega);have hx:ix v.sure (0:U)=O l0:=by have:=Al v.sure 0; rw[u1] at this; exact this
 unfold KJ Mj;simp only[hx,Z,b1,b2];cases b with
 | false=>exact⟨[],G,rfl,rfl,fun h=>by cases h⟩
 | true=>
  simp only[if_true]
  refine BO (fun n i=>∀l,1≤i→l.length=i→l[0]?=O st→(∀j (h:j<rt.length),j<i→∃y,l[j]?=O y∧0≤y∧y+AF (Aq c rt[j]) s≤2880)→(∀j (h:j+1<rt.length),j+1<i→∃x y,l[j]?=O x∧l[j+1]?=O y∧zX .i64 (x+AF (Aq c rt[j]) s)≤y)→
   ∃l' b,Ey pts rt v.sure c s n (i:U) l=O (l',b)∧Et v n (i:U) l=O (l',b)∧(b=E→Sailed c s rt st l')) hlm
   (fun n l h1 h2 h3 h5 h4=>⟨l,E,by simp[Ey],by simp[Et,H.ul],fun _=>⟨h2,h3,fun j h=>h5 j h h,fun j h=>h4 j h h⟩⟩)
   (fun n i h ih l h1 h2 h3 h5 h4=> ?_) (i:=1) (by omega) [st] (by omega) rfl rfl (fun j hj h=> ?_) (fun j _ h=>by omega)
  case refine_2=>
   obtain rfl:j=0:=by omega
   obtain⟨w,w1,w2,w3⟩:=b3 rfl;have:=u3 w w1;exact⟨st,Y,by omega,by omega⟩
  obtain⟨w,g1,g2,g3⟩:=H.u i h;have hu:i<v.sure.length:=by have:=H.ul; omega
  have ew:zX .i64 ((i:U) - 1)=((i - 1:X):U):=by
   rw[show(i:U) - 1=((i - 1:X):U) by omega];exact Am (by omega) (by omega)
  have hi1:i - 1<rt.length:=by omega
  have hil:i - 1<l.length:=by omega
  obtain⟨x,x1,x2⟩:=H.w i h;have hpt:=H.r.pt x (List.mem_of_getElem? x1);obtain⟨r,r1,r2,r3⟩:=sX w (zX .i64 (l[i - 1]+AF (Aq c rt[i - 1]) s)) (by omega) (fun x hx=>(g3 x hx).2.1);rw[Ey,Et];simp only[Af,h,hu,decide_true,if_true,ew,Ai hil,Ai hi1,Al,H.m _ hi1,(BJ (H.r.seg _ hi1)).1,Z,OD,g1,r1,r2,x1,x2,(L0 (⟨[],G⟩:X7) hpt).1];have fail:∃l' b,(O (([]:Q U),G):Option (Q U × W))=O (l',b)∧(O (([]:Q U),G):Option (Q U × W))=O (l',b)∧(b=E→Sailed c s rt st l'):=⟨[],G,rfl,rfl,fun h=>by cases h⟩;by_cases hr0:r<0
  ·simp only[hr0,decide_true,if_true,IK,HY];exact fail
  ·obtain⟨hge,w',w1,w2,w3⟩:=r3.resolve_left hr0;have hwb:=g3 w' w1
   have hne:(r !=zX .i64 (l[i - 1]+AF (Aq c rt[i - 1]) s))=decide (zX .i64 (l[i - 1]+AF (Aq c rt[i - 1]) s)<r):=by
    rw[Lx];by_cases e:r=zX .i64 (l[i - 1]+AF (Aq c rt[i - 1]) s)
    ·simp[← e]
    ·have:zX .i64 (l[i - 1]+AF (Aq c rt[i - 1]) s)<r:=by omega
     simp[e,this]
   have go:∃l' b,Ey pts rt v.sure c s n (zX .i64 ((i:U)+1)) (l++ [r])=O (l',b)∧Et v n (zX .i64 ((i:U)+1)) (l++ [r])=O (l',b)∧(b=E→Sailed c s rt st l'):=by
    rw[Aw h hlm];refine ih (l++ [r]) (by omega) (by simp; omega) (by rw[zD (by omega)]; exact h3) (fun j hj1 hj2=> ?_) fun j hj1 hj2=> ?_
    ·by_cases hji:j=i
     ·subst hji;exact⟨r,by rw[zJ (by omega),h2]; simp,by omega,by omega⟩
     ·obtain⟨y,q1,q2,q3⟩:=h5 j hj1 (by omega);exact⟨y,by rw[zD (by omega)]; exact q1,q2,q3⟩
    by_cases hji:j+1=i
    ·subst hji;exact⟨l[j],r,by rw[zD (by omega),I],by rw[zJ (by omega),h2]; simp,by simpa using hge⟩
    ·obtain⟨x,y,q1,q2,q3⟩:=h4 j hj1 (by omega);exact⟨x,y,by rw[zD (by omega)]; exact q1,by rw[zD (by omega)]; exact q2,q3⟩
   have hap:A3 l.length [r].length 8=E:=B3 (by omega) (by simp) (by omega);simp only[hr0,decide_false,zC,if_false,hne,IK,HY,hap,if_true];split
   ·change ∃l' b,(if(!wt c x)=E then _ else _)=_∧_
    split
    ·exact fail
    ·exact go
   ·exact go
def OW(c:X1)(s:X4)(sh:U)(rt pts l:Q U)(i:X)(ps:Q X3):Prop:=
 ps.length=i∧∀j (h:j<rt.length),j<i→∃x y,pts[j]?=O x∧l[j]?=O y∧0≤y∧y≤2880∧ps[j]?=O ⟨sh,rt[j],(Aq c rt[j]).A==x,y,zX .i64 (y+AF (Aq c rt[j]) s)⟩
theorem tP{c:X1}{s:X4}(hs:Cj s=E)(hsn:s.Name.length≤maxLen){rt pts l:Q U}{a sh:U}(hl:rt.length≤10000000)(hr:RtOk c rt pts)(hlen:l.length=rt.length)(hS:∀i (h:i<rt.length),∃y,l[i]?=O y∧0≤y∧y≤2880)
  (e1:Ew c a rt=O E) (e2:F9 c a rt=O E) (e3:Fx c a rt=O pts) (e4:DY c a rt=O pts) :
  ∃ps,Nf c sh s a rt l=O ps∧LY c sh s a rt l=O ps∧OW c s sh rt pts l rt.length ps:=by
 have hlm:rt.length≤maxLen:=As (by omega);have hz:((rt.length:U) !=(l.length:U))=G:=by rw[hlen]; simp
 unfold Nf LY;simp only[e1,e2,e3,e4,Lg hsn,GS hsn,hs,Z,if_true,hz,zC,if_false]
 refine BO (fun n i=>∀ps,OW c s sh rt pts l i ps→∃ps',Ix sh l rt c s pts n (i:U) ps=O ps'∧HE sh l rt c s pts n (i:U) ps=O ps'∧OW c s sh rt pts l rt.length ps') hlm
  (fun n ps hp=>⟨ps,by simp[Ix],by simp[HE],hp⟩) (fun n i h ih ps hp=> ?_) (zF _) [] ⟨rfl,fun j _ h=>by omega⟩
 have hi:i<l.length:=by omega
 have hpi:i<pts.length:=by have:=hr.len; omega
 rw[Ix,HE];simp only[Af,h,decide_true,if_true,Ai h,Ai hi,Ai hpi,(BJ (hr.seg i h)).1,Z,BB,GT,OD,NT,BEq.comm (a:=pts[i])];split
 ·rename_i hm
  simp only[zE,decide_eq_true_eq] at hm
  have hp1:=hp.1;rw[if_pos (B3 (by omega) (by simp) (by omega)),if_pos (B3 (by omega) (by simp) (by omega)),Aw h hlm];refine ih _ ⟨by simp; omega,fun j hj1 hj2=> ?_⟩;by_cases hji:j=i
  ·subst hji;exact⟨pts[j],l[j],I _,I _,hm.1,hm.2,by rw[zJ (by omega),hp1]; simp⟩
  ·obtain⟨x,y,q1,q2,q3,q4,q5⟩:=hp.2 j hj1 (by omega);exact⟨x,y,q1,q2,q3,q4,by rw[zD (by omega)]; exact q5⟩
 ·rename_i hm
  obtain⟨y,y1,y2,y3⟩:=hS i h;rw[I hi,zA] at y1
  exact absurd (by simp[y1,y2,y3]) hm
theorem Yz{c:X1}(hc:AO c=E){rt:Q U}(hl:rt.length≤10000000)(hs:∀i (h:i<rt.length),idx rt[i] c.Segments.length=E):∃r,GB c rt=O r∧Gj c rt=O r∧0≤r:=by
 have hlm:rt.length≤maxLen:=As (by omega);have hn:=(Cc hc).2.2.1;have h10:=(Cc hc).2.1;unfold GB Gj;simp only[DQ hn,FM hn,hc,Z,if_true];refine BO (fun n i=>∀v:U,0≤v→v≤240*(i:U)→∃r,IB rt c n v (i:U)=O r∧HG rt c n v (i:U)=O r∧0≤r) hlm (fun n v h1 h2=>⟨v,by simp[IB],by simp[HG],h1⟩) (fun n i h ih v h1 h2=> ?_) (zF _) 0 (by omega) (by omega);obtain⟨_,_,a,b⟩:=(EQ hc).2.2 _ (BJ (hs i h)).2;rw[IB,HG];simp only[Af,h,decide_true,if_true,Ai h,(BJ (hs i h)).1,Z,E7,CP _ (show c.Segments.length≤1000 by omega),hs i h,Aw h hlm];rw[Am (by omega) (by omega)];exact ih _ (by omega) (by omega)
theorem fD{c:X1}{s:X4}(hc:AO c=E)(hs:Cj s=E)(hsn:s.Name.length≤maxLen){rt l:Q U}(hl:rt.length≤10000000)(hsg:∀i (h:i<rt.length),idx rt[i] c.Segments.length=E)(hlen:l.length=rt.length)(h0:rt≠ []) :
  ∃r,MY c s rt l=O r∧LG c s rt l=O r∧∀y,l[rt.length - 1]?=O y→0≤y→y≤2880→∃x,rt[rt.length - 1]?=O x∧r=zX .i64 (y+AF (Aq c x) s):=by
 obtain⟨m,m1,m2,m3⟩:=Yz hc hl hsg;have hp:0<rt.length:=zG.2 h0;have hz:((rt.length:U)==(0:U))=G:=beq_eq_false_iff_ne.2 (by omega);have hq:((rt.length:U) !=(l.length:U))=G:=by rw[hlen]; simp
 have ew:zX .i64 ((rt.length:U) - 1)=((rt.length - 1:X):U):=by
  rw[show(rt.length:U) - 1=((rt.length - 1:X):U) by omega];exact Am (by omega) (by omega)
 have h1:rt.length - 1<rt.length:=by omega
 have h2:rt.length - 1<l.length:=by omega
 unfold MY LG;simp only[m1,m2,Z,show decide (m<0)=G by simp; omega,zC,if_false,Lg hsn,GS hsn,hs,if_true,hq,hz,hlen,ew,Ai h1,Ai h2,BB,GT,(BJ (hsg _ h1)).1,OD,NT,bne_self_eq_false];split
 ·refine⟨_,Y,Y,fun y e _ _=>⟨_,I h1,?_⟩⟩;rw[I h2,zA] at e
  rw[e]
 ·rename_i hm
  refine⟨-1,Y,Y,fun y e a b=>absurd ?_ hm⟩;rw[I h2,zA] at e
  simp only[zE,decide_eq_true_eq,e];exact⟨a,b⟩
structure AtOk (h:X6) (a:Xa) (rt:Q U) (st:U) (o:X0):Prop where
 ha:C3 h a=E
 mo:∃pts l,RtOk h.Chart rt pts∧Sailed h.Chart (AL h.Fleet a.Ship) rt st l∧OW h.Chart (AL h.Fleet a.Ship) a.Ship rt pts l rt.length o.Passages
def AY(c:X1)(s:X4)(rt:Q U):U:=(rt.map fun k=>AF (Aq c k) s).sum
theorem gg{h:X6}{s:X4}{rt:Q U}{v:Xk}{f:Xd}{pts:Q U}(hc:AO h.Chart=E)(hl:rt.length≤10000000)(H:VoyOk f h.Chart s rt pts v)(st r:U)(ps:Q X3){c0:U}(h0:AY h.Chart s rt≤c0)(h1:c0≤100000) :
  GN rt h s st r ps bigN 0 c0=O (⟨st,r,c0 - AY h.Chart s rt,ps⟩,decide (r≤2880))∧Gq v st r ps bigN 0 c0=O (⟨st,r,c0 - AY h.Chart s rt,ps⟩,decide (r≤2880)):=by
 have hlm:rt.length≤maxLen:=As (by omega)
 have pos:∀l:Q U,(∀x∈l,idx x h.Chart.Segments.length=E)→0≤AY h.Chart s l:=by
  intro l
  induction l with
  | nil=>intro _; simp[AY]
  | cons a l ih=>
   intro hx;have h1:=ih fun x hm=>hx x (zN _ hm)
   have h2:=(FQ (s:=s) hc (hx a (zO ..))).1;have e:AY h.Chart s (a::l)=AF (Aq h.Chart a) s+AY h.Chart s l:=by simp[AY]
   omega
 have hsg:∀x∈rt,idx x h.Chart.Segments.length=E:=fun x hx=>by
  obtain⟨i,hi,rfl⟩:=zH hx;exact H.r.seg i hi
 have:=BO (fun n i=>∀c0,AY h.Chart s (rt.drop i)≤c0→c0≤100000→GN rt h s st r ps n (i:U) c0=O (⟨st,r,c0 - AY h.Chart s (rt.drop i),ps⟩,decide (r≤2880))∧Gq v st r ps n (i:U) c0=O (⟨st,r,c0 - AY h.Chart s (rt.drop i),ps⟩,decide (r≤2880))) hlm (fun n c0 _ _=>by
   have e:AY h.Chart s (rt.drop rt.length)=0:=by simp[AY]
   rw[e,Int.sub_zero];exact⟨by simp[GN],by simp[Gq,H.ml]⟩) (fun n i hi ih c0 g0 g1=>by
  have hm:i<v.minutes.length:=by have:=H.ml; omega
  have e:AY h.Chart s (rt.drop i)=AF (Aq h.Chart rt[i]) s+AY h.Chart s (rt.drop (i+1)):=by rw[zI hi]; rfl
  have hp:=pos (rt.drop (i+1)) fun x hx=>hsg x (List.mem_of_mem_drop hx)
  obtain⟨m1,m2⟩:=FQ (s:=s) hc (H.r.seg i hi);rw[GN,Gq];simp only[Af,hi,hm,decide_true,if_true,Ai hi,Al,H.m i hi,(BJ (H.r.seg i hi)).1,Z,OD,Aw hi hlm];rw[Am (n:=c0 - _) (by omega) (by omega)];have:=ih (c0 - AF (Aq h.Chart rt[i]) s) (by omega) (by omega);rw[show c0 - AF (Aq h.Chart rt[i]) s - AY h.Chart s (rt.drop (i+1))=c0 - AY h.Chart s (rt.drop i) by omega] at this
  exact this) (zF _) c0 (by simpa using h0) h1
 simpa using this
theorem Sailed.sum{c:X1}{s:X4}{rt l:Q U}{st:U}(hc:AO c=E)(hsg:∀i (h:i<rt.length),idx rt[i] c.Segments.length=E)(H:Sailed c s rt st l):∀k (hk:k<rt.length),∃y,l[k]?=O y∧st+AY c s (rt.take k)≤y:=by
 intro k
 induction k with
 | zero=>intro hk; exact⟨st,H.hd,by simp[AY]⟩
 | succ k ih=>
  intro hk;obtain⟨y,y1,y2⟩:=ih (by omega);obtain⟨u,v,u1,u2,u3⟩:=H.up k hk;obtain⟨z,z1,z2,z3⟩:=H.sf k (by omega);rw[y1,zA] at u1 z1
  subst u1 z1;have hm:=FQ (s:=s) hc (hsg k (by omega));rw[Am (by omega) (by omega)] at u3
  have e:AY c s (rt.take (k+1))=AY c s (rt.take k)+AF (Aq c rt[k]) s:=by
   rw[zM (by omega)];unfold AY;rw[List.map_append,List.sum_append];simp
  exact⟨v,u2,by omega⟩
theorem tE{h:X6}{a:Xa}(ha:C3 h a=E)(hc:AO h.Chart=E)(hso:Cj (AL h.Fleet a.Ship)=E)(hsn:(AL h.Fleet a.Ship).Name.length≤maxLen){rt pts:Q U}{v:Xk}(hl:rt.length≤10000000)
  (V:VoyOk h.Forecast h.Chart (AL h.Fleet a.Ship) rt pts v) (e1:Ew h.Chart a.From rt=O E) (e2:F9 h.Chart a.From rt=O E) (e3:Fx h.Chart a.From rt=O pts) (e4:DY h.Chart a.From rt=O pts)
  {st:U} (hr:a.Ready≤st) (hd:st≤2880):∃l b,KJ h.Chart (AL h.Fleet a.Ship) pts rt v.sure st=O (l,b)∧(b=G→∃o,HS h a v rt st=O (o,G))∧
   (b=E→∃o,NA h a rt l=O (o,E)∧HS h a v rt st=O (o,E)∧AtOk h a rt st o∧o.Arrival≤2880∧0≤o.Cost∧o.Cost≤2880∧∀y,l[rt.length - 1]?=O y→∃x,rt[rt.length - 1]?=O x∧o.Arrival=zX .i64 (y+AF (Aq h.Chart x) (AL h.Fleet a.Ship))):=by
 obtain⟨l,b,b1,b2,b3⟩:=uV hc hl V st;refine⟨l,b,b1,fun hb=> ?_,fun hb=> ?_⟩
 ·subst hb;exact⟨⟨0,0,0,[]⟩,by simp only[HS,b2,Z,zC,if_false]⟩
 ·subst hb;have S:=b3 rfl;have ha':=ha;simp only[C3,C5,zE,decide_eq_true_eq] at ha'
  obtain⟨q1,_,_,_,⟨q5,_⟩,_⟩:=ha';obtain⟨s1,s2⟩:=ED q1
  have hsS:∀i (h':i<rt.length),∃y,l[i]?=O y∧0≤y∧y≤2880:=fun i h'=>by
   obtain⟨y,y1,y2,y3⟩:=S.sf i h';have:=(FQ (s:=AL h.Fleet a.Ship) hc (V.r.seg i h')).1;exact⟨y,y1,y2,by omega⟩
  obtain⟨ps,p1,p2,p3⟩:=tP (sh:=a.Ship) hso hsn hl V.r S.len hsS e1 e2 e3 e4;obtain⟨r,r1,r2,r3⟩:=fD hc hso hsn hl V.r.seg S.len V.ne;have hp:=zG.2 V.ne;have hlt:rt.length - 1<rt.length:=by omega
  obtain⟨y,y1,y2,y3⟩:=S.sf _ hlt;have hm:=FQ (s:=AL h.Fleet a.Ship) hc (V.r.seg _ hlt);obtain⟨x,x1,x2⟩:=r3 y y1 y2 (by omega);rw[I hlt,zA] at x1
  rw[← x1,Am (by omega) (by omega)] at x2
  obtain⟨z,z1,z2⟩:=S.sum hc V.r.seg _ hlt;rw[y1,zA] at z1
  subst z1
  have es:AY h.Chart (AL h.Fleet a.Ship) rt=AY h.Chart (AL h.Fleet a.Ship) (rt.take (rt.length - 1))+AF (Aq h.Chart rt[rt.length - 1]) (AL h.Fleet a.Ship):=by
   have e:rt=rt.take (rt.length - 1)++ [rt[rt.length - 1]]:=by
    rw[← zM hlt,show rt.length - 1+1=rt.length by omega,List.take_length]
   have:∀u w:Q U,AY h.Chart (AL h.Fleet a.Ship) (u++w)=AY h.Chart (AL h.Fleet a.Ship) u+AY h.Chart (AL h.Fleet a.Ship) w:=fun u w=>by simp[AY]
   rw[congrArg (AY h.Chart (AL h.Fleet a.Ship)) e,this];simp[AY]
  obtain⟨c1,c2⟩:=gg hc hl V st r ps (c0:=r - a.Ready) (by omega) (by omega);have ew:zX .i64 (r - a.Ready)=r - a.Ready:=Am (by omega) (by omega);have hx0:ix l (0:U)=O st:=by have:=Al l 0; rw[S.hd] at this; exact this
  have hpos:0≤AY h.Chart (AL h.Fleet a.Ship) rt:=by
   have:∀w:Q U,(∀x∈w,idx x h.Chart.Segments.length=E)→0≤AY h.Chart (AL h.Fleet a.Ship) w:=by
    intro w
    induction w with
    | nil=>intro _; simp[AY]
    | cons u w ih=>
     intro hx;have h1:=ih fun x hm=>hx x (zN _ hm)
     have h2:=(FQ (s:=AL h.Fleet a.Ship) hc (hx u (zO ..))).1;have e:AY h.Chart (AL h.Fleet a.Ship) (u::w)=AF (Aq h.Chart u) (AL h.Fleet a.Ship)+AY h.Chart (AL h.Fleet a.Ship) w:=by simp[AY]
     omega
   exact this rt fun x hx=>by
    obtain⟨i,hi,rfl⟩:=zH hx;exact V.r.seg i hi
  have hd28:decide (r≤2880)=E:=by simp; omega
  refine⟨⟨st,r,r - a.Ready - AY h.Chart (AL h.Fleet a.Ship) rt,ps⟩,?_,?_,⟨ha,pts,l,V.r,S,p3⟩,by simp only; omega,by simp only; omega,by simp only; omega,fun y' h'=> ?_⟩
  ·simp only[NA,s1,Z,hx0,r1,p1,ew,c1,hd28]
  ·simp only[HS,b2,if_true,s1,Z,r2,p2,ew,c2,hd28]
  ·rw[y1,zA] at h'
   subst h';exact r3 y y1 y2 (by omega)
structure GoodP (c:X1) (fl:Q X4) (l:Q X3):Prop where
 ne:l≠ []
 inn:∀p∈l,C7 c fl p=E
 ship:∃sh,∀p∈l,p.Ship=sh
 link:∀j (h:j+1<l.length),(Cy c l[j+1]).1=(Cy c l[j]).2∧l[j].End≤l[j+1].Start
theorem kv{s:X2}{x:U}(h:0≤BR s x):(if(s.A==x)=E then(s.A,s.B) else(s.B,s.A))=(x,BR s x):=by
 unfold BR at *
 by_cases h1:s.A=x
 ·subst h1; simp
 ·have h1':¬x=s.A:=fun e=>h1 e.symm
  by_cases h2:x=s.B
  ·subst h2; simp[h1,h1']
  ·simp[h1',h2] at h
theorem AtOk.good{h:X6}{a:Xa}{st:U}{o:X0}(hh:B5 h=E)(H:AtOk h a (o.Passages.map fun p=>p.Segment) st o):GoodP h.Chart h.Fleet o.Passages:=by
 obtain⟨ha,pts,l,hr,S,hp⟩:=H;obtain⟨_,hc,hfl,_,_⟩:=EB hh;simp only[C3,zE] at ha
 have hne:o.Passages≠ []:=fun e=>by
  have h1:=S.hd;have h2:=S.len;rw[e] at h2
  cases l with
  | nil=>cases h1
  | cons=>simp at h2
 obtain⟨_,hp⟩:=hp;generalize hps:o.Passages=ps at *
 have hlen:(ps.map fun p=>p.Segment).length=ps.length:=by simp
 have hpos:0<ps.length:=zG.2 hne
 have at_:∀j (hj:j<ps.length),∃x y,pts[j]?=O x∧l[j]?=O y∧0≤y∧y≤2880∧idx ps[j].Segment h.Chart.Segments.length=E∧ps[j]=⟨a.Ship,ps[j].Segment,(Aq h.Chart ps[j].Segment).A==x,y,y+AF (Aq h.Chart ps[j].Segment) (AL h.Fleet a.Ship)⟩:=fun j hj=>by
  obtain⟨x,y,q1,q2,q3,q4,q5⟩:=hp j (by omega) (by omega);have hs:=hr.seg j (by omega);simp only[zS] at hs q5
  obtain⟨m1,m2⟩:=FQ (s:=AL h.Fleet a.Ship) hc hs;rw[Am (by omega) (by omega),I hj,zA] at q5
  exact⟨x,y,q1,q2,q3,q4,hs,q5⟩
 have up:∀j (hj:j+1<ps.length),ps[j].End≤ps[j+1].Start:=fun j hj=>by
  obtain⟨x,y,_,q2,q3,q4,q5,q6⟩:=at_ j (by omega);obtain⟨x',y',_,r2,_,_,_,r6⟩:=at_ (j+1) hj;obtain⟨u,v,s1,s2,s3⟩:=S.up j (by omega);rw[q2,zA] at s1
  rw[r2,zA] at s2
  subst s1 s2;simp only[zS] at s3
  obtain⟨m1,m2⟩:=FQ (s:=AL h.Fleet a.Ship) hc q5;rw[Am (by omega) (by omega)] at s3
  rw[q6,r6];exact s3
 refine⟨hne,fun p hpm=> ?_,⟨a.Ship,fun p hpm=> ?_⟩,fun j hj=>⟨?_,up j hj⟩⟩
 ·obtain⟨j,hj,rfl⟩:=zH hpm;obtain⟨x,y,q1,q2,q3,q4,q5,q6⟩:=at_ j hj;obtain⟨m1,m2⟩:=FQ (s:=AL h.Fleet a.Ship) hc q5
  have hend:y+AF (Aq h.Chart ps[j].Segment) (AL h.Fleet a.Ship)≤2880:=by
   obtain⟨z,z1,_,z3⟩:=S.sf j (by omega);rw[q2,zA] at z1
   subst z1;simpa using z3
  rw[q6];simp only[C7,C5,zE,decide_eq_true_eq];exact⟨ha.1,q5,⟨q3,q4⟩,hend,(Am (by omega) (by omega)).symm⟩
 ·obtain⟨j,hj,rfl⟩:=zH hpm;obtain⟨x,y,q1,q2,q3,q4,q5,q6⟩:=at_ j hj;rw[q6]
 ·have e:∀j (hj:j<ps.length),∃x,pts[j]?=O x∧0≤BR (Aq h.Chart ps[j].Segment) x∧pts[j+1]?=O (BR (Aq h.Chart ps[j].Segment) x)∧Cy h.Chart ps[j]=(x,BR (Aq h.Chart ps[j].Segment) x):=fun j hj=>by
   obtain⟨x,y,q1,q2,q3,q4,q5,q6⟩:=at_ j hj;obtain⟨x',t1,t2,t3⟩:=hr.stp j (by omega);simp only[zS] at t2 t3
   rw[q1,zA] at t1
   subst t1;refine⟨x,q1,t3,t2,?_⟩;rw[← kv t3];have ht:ps[j].Toward=((Aq h.Chart ps[j].Segment).A==x):=by rw[q6]
   unfold Cy;rw[ht]
  obtain⟨x,_,_,g3,g4⟩:=e j (by omega);obtain⟨x',k1,_,_,k4⟩:=e (j+1) hj;rw[g3,zA] at k1
  rw[g4,k4,k1]
def Ed(a b g:U):W:=decide (a - b<g∧b - a<g)
def Ee(p q:X3):W:=decide (p.Start<q.End∧q.Start<p.End)
def DW(c:X1)(r:Xi)(p q:X3):W:=
 decide (p.Segment=q.Segment)&&(if p.Ship=q.Ship then Ee p q else if p.Toward=q.Toward then(Ed p.Start q.Start r.Gap || (Ed p.End q.End r.Gap || decide ((p.Start<q.Start∧q.End<p.End)∨(q.Start<p.Start∧p.End<q.End)))) else Ee p q&&(r.NoMeet || !(Aq c p.Segment).Meet))
theorem UL(c:X1)(r:Xi)(p q:X3):DW c r p q=DW c r q p:=by
 have n:∀a b g,Ed a b g=Ed b a g:=fun a b g=>by unfold Ed; congr 1; exact propext And.comm
 have v:Ee p q=Ee q p:=by unfold Ee; congr 1; exact propext And.comm
 unfold DW;by_cases e:p.Segment=q.Segment
 ·simp only[e,n q.Start,n q.End,← v,eq_comm (a:=q.Ship),eq_comm (a:=q.Toward),or_comm (a:=q.Start<p.Start∧p.End<q.End)]
 ·have e':¬q.Segment=p.Segment:=fun h=>e h.symm
  simp[e,e']
theorem YX{a b g:U}(a0:0≤a)(a1:a≤2880)(b0:0≤b)(b1:b≤2880):KK a b g=O (Ed a b g):=by
 unfold KK Nx Ed;by_cases h:b<a
 ·have h':¬a<b:=by omega
  simp only[h,h',if_true,if_false,show ¬b<0 by omega,decide_false,zC,Am (n:=a - b) (by omega) (by omega),zA,decide_eq_decide];omega
 ·simp only[h,if_false,show ¬a<0 by omega,decide_false,zC,zA,decide_eq_decide];by_cases h':a<b
  ·simp only[h',if_true,Am (n:=b - a) (by omega) (by omega)]; omega
  ·simp only[h',if_false,Am (n:=a - a) (by omega) (by omega)]; omega
theorem WS{a b g:U}(a0:0≤a)(a1:a≤2880)(b0:0≤b)(b1:b≤2880)(g0:0≤g)(g1:g≤60):K6 a b g=O (Ed a b g):=by
 unfold K6 Ed;rw[EU g0 (by omega)];by_cases h:b<a
 ·have h':¬a<b:=by omega
  simp only[h,h',if_true,if_false,EU (n:=a) (by omega) (by omega),EU (n:=b) (by omega) (by omega),EU (n:=a - b) (by omega) (by omega),zA,decide_eq_decide];omega
 ·by_cases h':a<b
  ·simp only[h,h',if_true,if_false,EU (n:=a) (by omega) (by omega),EU (n:=b) (by omega) (by omega),EU (n:=b - a) (by omega) (by omega),zA,decide_eq_decide];omega
  ·simp only[h,h',if_true,if_false,EU (n:=a) (by omega) (by omega),EU (n:=a - a) (by omega) (by omega),zA,decide_eq_decide];omega
theorem tK{p q:X3}(hp:p.Start<p.End)(hq:q.Start<q.End):KD p q=O (Ee p q)∧JV p q=O (Ee p q):=by
 have:decide ((if p.Start<q.Start then q.Start else p.Start)<(if q.End<p.End then q.End else p.End))=Ee p q:=by
  unfold Ee;rw[decide_eq_decide];split<;>split<;>omega
 unfold KD JV;rw[this];exact⟨Y,Y⟩
theorem UM{c:X1}{fl:Q X4}{r:Xi}(hc:AO c=E)(hr:Jc r=E){p q:X3}(hp:C7 c fl p=E)(hq:C7 c fl q=E) :
  (∃n,N2 c r p q=O n∧(n !=0)=DW c r p q)∧∃n,M8 c r p q=O n∧(n !=0)=DW c r p q:=by
 obtain⟨_,p2,p3,p4,p5⟩:=DM hc hp;obtain⟨_,q2,q3,q4,q5⟩:=DM hc hq;have hn:=(Cc hc).2.2.1;have h10:=(Cc hc).2.1;have hr':=hr;simp only[Jc,zE,decide_eq_true_eq] at hr'
 obtain⟨o1,o2⟩:=tK (Ou hc hp) (Ou hc hq);have n1:=YX (a:=p.Start) (b:=q.Start) (g:=r.Gap) (by omega) (by omega) (by omega) (by omega);have n2:=YX (a:=p.End) (b:=q.End) (g:=r.Gap) (by omega) (by omega) (by omega) (by omega);have m1:=WS (a:=p.Start) (b:=q.Start) (g:=r.Gap) (by omega) (by omega) (by omega) (by omega) hr'.1 hr'.2;have m2:=WS (a:=p.End) (b:=q.End) (g:=r.Gap) (by omega) (by omega) (by omega) (by omega) hr'.1 hr'.2;have hreg:IA r=O E:=by simp only[IA,BB,Z]; exact congrArg O hr
 unfold N2 M8 M9 Ma HO Mb DW;simp only[DQ hn,hc,hreg,Z,if_true,CP _ (show c.Segments.length≤1000 by omega),p2,E7,o1,o2,n1,n2,m1,m2,(BJ p2).1,Bool.not_true,zC,if_false];by_cases e1:p.Segment=q.Segment
 ·by_cases e2:p.Ship=q.Ship
  ·cases ho:Ee p q<;>simp[e1,e2]
  ·by_cases e3:p.Toward=q.Toward
   ·cases h1:Ed p.Start q.Start r.Gap<;>cases h2:Ed p.End q.End r.Gap<;>simp[e1,e2,e3];by_cases g1:p.Start<q.Start<;>by_cases g2:q.End<p.End<;>by_cases g3:q.Start<p.Start<;>by_cases g4:p.End<q.End<;>simp[g1,g2,g3,g4]<;>omega
   ·cases ho:Ee p q<;>cases hm:r.NoMeet<;>cases hs:(Aq c p.Segment).Meet<;>simp[e1,e2,e3]<;>simp_all
 ·simp[e1]
def Bt(c:X1)(r:Xi)(a b:Q X3):W:=a.any fun p=>b.any fun q=>DW c r p q
theorem gR(c:X1)(r:Xi)(a b:Q X3):Bt c r a b=Bt c r b a:=by
 rw[Bool.eq_iff_iff];simp only[Bt,zR];constructor
 ·rintro⟨p,hp,q,hq,h⟩
  exact⟨q,hq,p,hp,by rw[UL]; exact h⟩
 ·rintro⟨p,hp,q,hq,h⟩
  exact⟨q,hq,p,hp,by rw[UL]; exact h⟩
theorem UF{c:X1}{fl:Q X4}{r:Xi}(hc:AO c=E)(hr:Jc r=E){a b:Q X3}(ha:∀p∈a,C7 c fl p=E)(hb:∀p∈b,C7 c fl p=E)(la:a.length≤maxLen)(lb:b.length≤maxLen) :
  N1 c r a b=O (Bt c r a b)∧M7 c r a b=O (Bt c r a b):=by
 have fin:∀x:W,(if x=E then O E else O G)=O x:=fun x=>by cases x<;>rfl
 constructor
 ·have:=F0 (L:=Fv b a c r) a (fun p=>b.any fun q=>DW c r p q) (O E) (O G) la (fun n i h=>by
   rw[Fv];simp only[Af,h,decide_true,if_true,Ai h,Z]
   exact F0 (L:=Il b a (i:U) c r a[i] (Fv b a c r n)) b (fun q=>DW c r a[i] q) (O E) (Fv b a c r n (zX .i64 ((i:U)+1))) lb (fun m j hj=>by
    obtain⟨x,x1,x2⟩:=(UM hc hr (ha _ (zB h)) (hb _ (zB hj))).1;rw[Il];simp only[Af,hj,decide_true,if_true,Ai hj,Z,x1,x2]) fun m=>by rw[Il,if_neg (by simp)]) fun n=>by rw[Fv,if_neg (by simp)]
  unfold N1;rw[this,fin];rfl
 ·have:=F0 (L:=Fe b a c r) a (fun p=>b.any fun q=>DW c r p q) (O E) (O G) la (fun n i h=>by
   rw[Fe];simp only[Af,h,decide_true,if_true,Ai h,Z]
   exact F0 (L:=HN b a (i:U) c r a[i] (Fe b a c r n)) b (fun q=>DW c r a[i] q) (O E) (Fe b a c r n (zX .i64 ((i:U)+1))) lb (fun m j hj=>by
    obtain⟨x,x1,x2⟩:=(UM hc hr (ha _ (zB h)) (hb _ (zB hj))).2;rw[HN];simp only[Af,hj,decide_true,if_true,Ai hj,Z,x1,x2]) fun m=>by rw[HN,if_neg (by simp)]) fun n=>by rw[Fe,if_neg (by simp)]
  unfold M7;rw[this,fin];rfl
theorem XI{B C:X→X→W}{N M n m:X}(h:N≤M)(e:∀i j,i<N→j<N→B i j=C i j)(H:Cn B (2 ^ N - 1) n)(K:Cn C (2 ^ M - 1) m):n≤m:=by
 obtain⟨f,f1,f2⟩:=K.1
 have b:∀i,(2 ^ N - 1).testBit i=E→i<N∧(2 ^ M - 1).testBit i=E:=fun i hi=>by
  rw[zP,decide_eq_true_eq] at hi
  exact⟨hi,by rw[zP,decide_eq_true_eq]; omega⟩
 exact H.2 m ⟨f,fun i hi=>f1 i (b i hi).2,fun i j hi hj hne he=>by rw[e i j (b i hi).1 (b j hj).1]; exact f2 i j (b i hi).2 (b j hj).2 hne he⟩
theorem Ux{p:U}{m:Q U}{l k:Q Xb}{i j:X}(hi:i<l.length)(hj:j<l.length):B6 p m l i j=B6 p m (l++k) i j:=by
 unfold B6;rw[zD hi,zD hj]
theorem JG{p:U}{m:Q U}{l:Q Xb}(hm:m.length≤maxLen)(h1:l.length≤12)(h2:∀d∈l,Bl d=E)(h3:C5 p=E)(h4:EK m=E) :
  ∃n:X,Cn (B6 p m l) (2 ^ l.length - 1) n∧(∃w,It p m l=O (w,(n:U),E))∧∀k:U,Gk p m l k=O (decide ((n:U)≤k)):=by
 obtain⟨n,w1,w2,n12,n1,e1,e2⟩:=eO hm (eX h1 h2 h3 h4);refine⟨n,n1,⟨w1,e1⟩,fun k=> ?_⟩;have hn:n≤l.length:=n1.2 _ (Pa (by have:=Nat.pow_pos (n:=l.length) (show 0<2 by omega); omega));unfold Gk;by_cases hk:(l.length:U)≤k
 ·have:(n:U)≤k:=by omega
  simp[hk,this]
 ·simp[hk,e2]
section
variable {c : X1} {fl : Q X4}
def BM(c:X1)(fl:Q X4)(all:Q X3):Q Xb:=all.flatMap fun p=>zW (AL fl p.Ship).Tugs.toNat (CL c p p)
def Ha(l:Q Xb):Q Xb × W:=if l.length≤12 then(l,E) else([],G)
theorem ZC(hn:∀x∈c.Points,x.Name.length≤maxLen)(hf:∀x∈fl,x.Name.length≤maxLen)(hc:AO c=E)(hfl:DH fl=E){all:Q X3}(hl:all.length≤maxLen)(hp:∀p∈all,C7 c fl p=E) :
  PR c fl all=O (Ha (BM c fl all))∧Mi c fl all=O (Ha (BM c fl all)):=by
 refine BO (fun n i=>∀acc:Q Xb,acc.length≤12→FF fl all c n (i:U) acc=O (Ha (acc++BM c fl (all.drop i)))∧Fh fl all c n (i:U) acc=O (Ha (acc++BM c fl (all.drop i)))) hl
  (fun n acc ha=>by simp[FF,Fh,BM,Ha,ha]) (fun n i h ih acc ha=> ?_) (zF _) [] (by simp)
 have hpi:=hp _ (zB h);obtain⟨f1,f2,f3,f4,f5⟩:=DM hc hpi;obtain⟨s1,s2⟩:=ED f1;have hso:=(IU hfl).2 _ s2
 have hT:0≤(AL fl all[i].Ship).Tugs∧(AL fl all[i].Ship).Tugs≤4:=by
  simp only[Cj,zE,decide_eq_true_eq] at hso
  omega
 have hTe:(AL fl all[i].Ship).Tugs=((AL fl all[i].Ship).Tugs.toNat:U):=by omega
 have hd:BM c fl (all.drop i)=zW (AL fl all[i].Ship).Tugs.toNat (CL c all[i] all[i])++BM c fl (all.drop (i+1)):=by
  rw[zI h]; rfl
 rw[FF,Fh,hd];simp only[Af,h,decide_true,if_true,Ai h,Z,YS hn hf hc hfl,pV hn hf hc hfl,hpi,OC f2,s1];generalize (AL fl all[i].Ship).Tugs.toNat=T at *
 have g1:=wi (c:=c) (p:=all[i]) s1 f2 all (i:U) (FF fl all c n) hTe (by omega) T 0 bigN acc (by omega) (by rw[Cb]; omega) (by omega);have g2:=wh (c:=c) (fl:=fl) (p:=all[i]) f2 all (i:U) (Fh fl all c n) hTe (by omega) T 0 bigN acc (by omega) (by rw[Cb]; omega) (by omega);have g1:GM fl (Cy c all[i]) all (i:U) c all[i] (FF fl all c n) bigN 0 acc=_:=g1;have g2:Gr fl all (i:U) (AL fl all[i].Ship) c all[i] (Fh fl all c n) bigN 0 acc=_:=g2;rw[g1,g2,← zQ,Aw h hl];generalize acc++zW T (CL c all[i] all[i])=ac2 at ih ⊢
 by_cases h12:(12:U)<(ac2.length:U)
 ·have:¬ac2.length+(BM c fl (all.drop (i+1))).length≤12:=by omega
  simp[h12,Ha,this]
 ·simp only[h12,decide_false,zC,if_false];exact ih ac2 (by omega)
theorem Te(hc:AO c=E){all:Q X3}(hp:∀p∈all,C7 c fl p=E):∀d∈BM c fl all,Bl d=E:=fun d hd=>by
 obtain⟨p,hpm,hd⟩:=List.mem_flatMap.1 hd;rw[(List.mem_replicate.1 hd).2];have:=DM hc (hp p hpm);exact UT hc this.2.1 this.2.1 this.2.2.1 (Ou hc (hp p hpm)) this.2.2.2.2
def Ez(l:Q X3):X3:=l.head?.getD ⟨0,0,G,0,0⟩
def GW(l:Q X3):X3:=l.getLast?.getD ⟨0,0,G,0,0⟩
def BP(c:X1)(pl:Q X0):Q Xb:=pl.map fun o=>CL c (Ez o.Passages) (GW o.Passages)
theorem RF{l:Q X3}(h:l≠ []):l.head?=O (Ez l)∧l.getLast?=O (GW l):=by
 cases l with
 | nil=>exact absurd rfl h
 | cons a l=>
  refine⟨Y,?_⟩;unfold GW;cases e:(a::l).getLast? with
  | none=>rw[List.getLast?_eq_none_iff] at e; cases e
  | some x=>rfl
theorem GoodP.duty{l:Q X3}(hc:AO c=E)(H:GoodP c fl l):C7 c fl (Ez l)=E∧C7 c fl (GW l)=E∧Bl (CL c (Ez l) (GW l))=E:=by
 obtain⟨e1,e2⟩:=RF H.ne;have i1:=H.inn _ (List.mem_of_head? e1);have i2:=H.inn _ (List.mem_of_getLast? e2);have f1:=DM hc i1;have f2:=DM hc i2;have hpos:=zG.2 H.ne
 have hlt:∀j (h:j<l.length),(l[0]'hpos).Start<l[j].End:=by
  intro j
  induction j with
  | zero=>intro h; exact Ou hc (H.inn _ (zB h))
  | succ j ih=>
   intro h;have g1:=ih (by omega);have g2:=(H.link j h).2;have g3:=Ou hc (H.inn _ (zB h));omega
 have s1:l[0]'hpos=Ez l:=by rw[zL,I hpos] at e1; exact Option.some.inj e1
 have s2:l[l.length - 1]'(by omega)=GW l:=by rw[zK,I (by omega)] at e2; exact Option.some.inj e2
 have:=hlt (l.length - 1) (by omega);rw[s1,s2] at this
 exact⟨i1,i2,UT hc f1.2.1 f2.2.1 f1.2.2.1 this f2.2.2.2.2⟩
theorem tV(hn:∀x∈c.Points,x.Name.length≤maxLen)(hf:∀x∈fl,x.Name.length≤maxLen)(hc:AO c=E)(hfl:DH fl=E){l:Q X3}(hl:l.length≤100000000)(H:GoodP c fl l):Ng c fl l=O (CL c (Ez l) (GW l),E):=by
 have hlm:l.length≤maxLen:=As (by omega);have hpos:=zG.2 H.ne;have h10:=(Cc hc).2.1;obtain⟨e1,e2⟩:=RF H.ne;obtain⟨i1,i2,_⟩:=H.duty hc;have h00:ix l (0:U)=O (Ez l):=by have:=Al l 0; rw[← zL,e1] at this; exact this
 obtain⟨sh,hsh⟩:=H.ship
 have chain:N7 c l=O E:=by
  unfold N7;rw[DQ hn,hc,Z,if_pos rfl];refine BO (fun n i=>Gy l c n (i:U)=O E) hlm (fun n=>by simp[Gy]) (fun n i h ih=> ?_) (zF _);have hs:=(DM hc (H.inn _ (zB h))).2.1;have hq:(l[i].Ship !=(Ez l).Ship)=G:=by rw[hsh _ (zB h),hsh _ (List.mem_of_head? e1)]; simp
  rw[Gy];simp only[Af,h,decide_true,if_true,Ai h,h00,Z,hq,zC,if_false,CP _ (show c.Segments.length≤1000 by omega),hs,Aw h hlm,ih];cases i with
  | zero=>rfl
  | succ i=>
   have hz:(((i+1:X):U)==(0:U))=G:=beq_eq_false_iff_ne.2 (by omega)
   have ew:zX .i64 (((i+1:X):U) - 1)=(i:U):=by
    rw[show((i+1:X):U) - 1=(i:U) by omega];exact Am (by omega) (by omega)
   have hi:i<l.length:=by omega
   have hs':=(DM hc (H.inn _ (zB hi))).2.1;obtain⟨k1,k2⟩:=H.link i h;have hx:¬l[i+1].Start<l[i].End:=by omega
   simp only[hz,zC,if_false,OC hs,ew,Ai hi,Z,OC hs',k1,bne_self_eq_false,hx,decide_false]
 unfold Ng Nh;have hz:((l.length:U)==(0:U))=G:=beq_eq_false_iff_ne.2 (by omega);simp only[hz,zC,if_false,chain,Z,Bool.not_true];refine BO (fun n i=>Iy fl l c n (i:U)=O (CL c (Ez l) (GW l),E)) hlm (fun n=> ?_) (fun n i h ih=> ?_) (zF _)
 ·have s1:=(DM hc i1).2.1;have s2:=(DM hc i2).2.1;rw[Iy,if_neg (by simp),J1 hlm e2,Z,h00,Z,OC s1,Z,OC s2,Z];rfl
 ·rw[Iy];simp only[Af,h,decide_true,if_true,Ai h,Z,YS hn hf hc hfl,H.inn _ (zB h),Aw h hlm,ih]
end
def BF(pl:Q X0):Q X3:=(BC pl).flatten
def FitP(h:X6)(pl:Q X0):Prop:=
 (BM h.Chart h.Fleet (BF pl)).length≤12∧(∃n:X,Cn (B6 0 h.Crew.Moves (BM h.Chart h.Fleet (BF pl))) (2 ^ (BM h.Chart h.Fleet (BF pl)).length - 1) n∧(n:U)≤h.Crew.Tugs)∧
  ∃n:X,Cn (B6 h.Crew.Rest h.Crew.Moves (BP h.Chart pl)) (2 ^ (BP h.Chart pl).length - 1) n∧(n:U)≤h.Crew.Pilots
theorem XJ{B:X→X→W}{S n m:X}(H:Cn B S n)(K:Cn B S m):n=m:=Nat.le_antisymm (H.2 _ K.1) (K.2 _ H.1)
def DT(h:X6)(pl:Q X0):Prop:=∀o∈pl,GoodP h.Chart h.Fleet o.Passages∧o.Passages.length≤1048576
theorem NH{h:X6}{pl:Q X0}(H:DT h pl):∀p∈BF pl,C7 h.Chart h.Fleet p=E:=fun p hp=>by
 obtain⟨l,hl,hp⟩:=List.mem_flatten.1 hp;obtain⟨o,ho,rfl⟩:=zT.1 hl;exact(H o ho).1.inn p hp
theorem SW{h:X6}{pl:Q X0}(hc:AO h.Chart=E)(H:DT h pl):∀d∈BP h.Chart pl,Bl d=E:=fun d hd=>by
 obtain⟨o,ho,rfl⟩:=zT.1 hd;exact((H o ho).1.duty hc).2.2
theorem FitP.app{h:X6}{pl ql:Q X0}(hh:B5 h=E)(s:HSmall h)(H:DT h (pl++ql))(hl:pl.length≤12)(F:FitP h (pl++ql)):FitP h pl:=by
 obtain⟨_,hc,_,_,hw⟩:=EB hh;obtain⟨m1,m2⟩:=Ry hw;have Hp:DT h pl:=fun o ho=>H o (List.mem_append_left _ ho)
 have et:BM h.Chart h.Fleet (BF (pl++ql))=BM h.Chart h.Fleet (BF pl)++BM h.Chart h.Fleet (BF ql):=by simp[BF,BC,BM,List.flatMap_append]
 have ep:BP h.Chart (pl++ql)=BP h.Chart pl++BP h.Chart ql:=by simp[BP]
 obtain⟨f1,⟨n,f2,f3⟩,m,f4,f5⟩:=F;rw[et] at f1 f2
 rw[ep] at f4
 have l1:(BM h.Chart h.Fleet (BF pl)).length≤12:=by rw[List.length_append] at f1; omega
 obtain⟨n',k1,_,_⟩:=JG (p:=0) s.mv l1 (Te hc (NH Hp)) (by decide) m2;obtain⟨m',k2,_,_⟩:=JG (p:=h.Crew.Rest) s.mv (l:=BP h.Chart pl) (by simpa[BP] using hl) (SW hc Hp) m1 m2;have q1:=XI (by simp) (fun i j hi hj=>Ux hi hj) k1 f2;have q2:=XI (by simp) (fun i j hi hj=>Ux hi hj) k2 f4;exact⟨l1,⟨n',k1,by omega⟩,m',k2,by omega⟩
theorem FitP.iff{h:X6}{pl:Q X0}{n m:X}(h12:(BM h.Chart h.Fleet (BF pl)).length≤12)(k1:Cn (B6 0 h.Crew.Moves (BM h.Chart h.Fleet (BF pl))) (2 ^ (BM h.Chart h.Fleet (BF pl)).length - 1) n)(k4:Cn (B6 h.Crew.Rest h.Crew.Moves (BP h.Chart pl)) (2 ^ (BP h.Chart pl).length - 1) m) :
  (n:U)≤h.Crew.Tugs∧(m:U)≤h.Crew.Pilots↔FitP h pl:=by
 constructor
 ·rintro⟨a,b⟩
  exact⟨h12,⟨n,k1,a⟩,m,k4,b⟩
 ·rintro⟨_,⟨n',a1,a2⟩,m',b1,b2⟩
  rw[XJ k1 a1,XJ k4 b1];exact⟨a2,b2⟩
theorem Vf{h:X6}{pl:Q X0}(hl:pl.length≤12)(H:DT h pl):(BF pl).length≤1000000000000:=by
 have:∀(ql:Q X0),(∀o∈ql,o.Passages.length≤1048576)→(BF ql).length≤ql.length*1048576:=by
  intro ql
  induction ql with
  | nil=>intro _; simp[BF,BC]
  | cons o ql ih=>
   intro h;have h1:=ih fun x hx=>h x (zN _ hx)
   have h2:=h o (zO ..);have e:BF (o::ql)=o.Passages++BF ql:=rfl;rw[e,List.length_append,List.length_cons];omega
 have:=this pl fun o ho=>(H o ho).2
 omega
theorem US{h:X6}(s:HSmall h)(hh:B5 h=E){pl:Q X0}(hl:pl.length≤12)(H:DT h pl):∃b,DC h pl=O b∧(b=E↔FitP h pl):=by
 obtain⟨_,hc,hfl,_,hw⟩:=EB hh;obtain⟨m1,m2⟩:=Ry hw;have hlm:pl.length≤maxLen:=As (by omega)
 have key:=BO (fun n i=>∀v2 v3,v2.length≤i*1048576→v3.length=i→Gl pl h n (i:U) v2 v3=(Mi h.Chart h.Fleet (v2++BF (pl.drop i))).bind fun r12=>
   if r12.2 then(Gk 0 h.Crew.Moves r12.1 h.Crew.Tugs).bind fun r14=>if r14 then(Gk h.Crew.Rest h.Crew.Moves (v3++BP h.Chart (pl.drop i)) h.Crew.Pilots).bind fun r16=>O r16 else O G else O G) hlm
  (fun n v2 v3 h1 h2=>by rw[Gl,if_neg (by simp)]; simp[BF,BC,BP]) (fun n i hi ih v2 v3 h1 h2=> ?_) (zF _) [] [] (by simp) rfl
 ·have key:DC h pl=_:=key;rw[key,zV,zU,zU,(ZC s.pn s.fn hc hfl (As (Vf hl H)) (NH H)).2,Z];unfold Ha;by_cases h12:(BM h.Chart h.Fleet (BF pl)).length≤12
  ·obtain⟨n,k1,_,k3⟩:=JG (p:=0) s.mv h12 (Te hc (NH H)) (by decide) m2;obtain⟨m,k4,_,k6⟩:=JG (p:=h.Crew.Rest) s.mv (l:=BP h.Chart pl) (by simpa[BP] using hl) (SW hc H) m1 m2;simp only[h12,if_true,k3,k6,Z];refine⟨decide ((n:U)≤h.Crew.Tugs)&&decide ((m:U)≤h.Crew.Pilots),by by_cases q:(n:U)≤h.Crew.Tugs<;>simp[q],?_⟩;simp only[zE,decide_eq_true_eq];exact FitP.iff h12 k1 k4
  ·simp only[h12,if_false];exact⟨G,Y,⟨(fun h=>by cases h),fun F=>absurd F.1 h12⟩⟩
 ·obtain⟨g1,g2⟩:=H _ (zB hi);obtain⟨e1,e2⟩:=RF g1.ne;obtain⟨i1,i2,_⟩:=g1.duty hc;have hz:(0:U)<(pl[i].Passages.length:U):=by have:=zG.2 g1.ne; omega
  have h00:ix pl[i].Passages (0:U)=O (Ez pl[i].Passages):=by have:=Al pl[i].Passages 0; rw[← zL,e1] at this; exact this
  rw[Gl];simp only[Af,hi,decide_true,if_true,Ai hi,Z,hz,h00,J1 (As (by omega)) e2,WO (DM hc i1).2.1 (DM hc i2).2.1];rw[if_pos (P5 (by omega) (by omega)),if_pos (B3 (by omega) (by simp) (by omega)),Aw hi hlm,ih _ _ (by simp; omega) (by simp; omega)];simp only[zI hi,BF,BC,BP,List.map_cons,List.flatten_cons,zQ,List.singleton_append]
theorem vE{h:X6}(s:HSmall h)(hh:B5 h=E){pl:Q X0}(hl:pl.length≤12)(H:DT h pl):∃b,In h.Crew h.Chart h.Fleet (BC pl)=O b∧(b=E↔FitP h pl):=by
 obtain⟨_,hc,hfl,_,hw⟩:=EB hh;obtain⟨m1,m2⟩:=Ry hw;have hlm:pl.length≤maxLen:=As (by omega);obtain⟨m,k4,⟨w4,k5⟩,_⟩:=JG (p:=h.Crew.Rest) s.mv (l:=BP h.Chart pl) (by simpa[BP] using hl) (SW hc H) m1 m2
 have pil:Ni h.Crew h.Chart h.Fleet (BC pl)=O (m:U):=by
  unfold Ni;rw[T2 s.mv,hw,Z,if_pos rfl];have hcl:(BC pl).length=pl.length:=by simp[BC]
  refine BO (fun n i=>∀v,v.length=i→v++BP h.Chart (pl.drop i)=BP h.Chart pl→GA h.Fleet (BC pl) h.Crew h.Chart n (i:U) v=O (m:U)) hlm (fun n v h1 h2=> ?_) (fun n i hi ih v h1 h2=> ?_) (zF _) [] rfl (by simp)
  ·rw[GA,if_neg (by rw[hcl]; simp)];have:v=BP h.Chart pl:=by simpa[BP] using h2
   rw[this,k5];rfl
  ·obtain⟨g1,g2⟩:=H _ (zB hi);have hi':i<(BC pl).length:=by omega
   have hg:(BC pl)[i]=pl[i].Passages:=by simp[BC]
   have hz:((pl[i].Passages.length:U)==(0:U))=G:=beq_eq_false_iff_ne.2 (by have:=zG.2 g1.ne; omega);rw[GA];simp only[Af,hi',decide_true,if_true,Ai hi',hg,Z,hz,zC,if_false,tV s.pn s.fn hc hfl (by omega) g1];rw[if_pos (B3 (by omega) (by simp) (by omega)),Aw hi hlm];exact ih _ (by simp; omega) (by rw[← h2,zI hi,zQ]; rfl)
 have hT:∃t:U,KF h.Crew h.Chart h.Fleet (BF pl)=O t∧((0≤t∧t≤h.Crew.Tugs)∧(m:U)≤h.Crew.Pilots↔FitP h pl):=by
  unfold KF;rw[(ZC s.pn s.fn hc hfl (As (Vf hl H)) (NH H)).1,Z,T2 s.mv,hw,Z,if_pos rfl];unfold Ha;by_cases h12:(BM h.Chart h.Fleet (BF pl)).length≤12
  ·obtain⟨n,k1,⟨w1,k2⟩,_⟩:=JG (p:=0) s.mv h12 (Te hc (NH H)) (by decide) m2;simp only[h12,if_true,k2,Z];exact⟨n,rfl,by rw[← FitP.iff h12 k1 k4]; constructor<;>(rintro⟨a,b⟩; exact⟨by omega,b⟩)⟩
  ·simp only[h12,if_false];exact⟨-1,Y,⟨(fun h=>by omega),fun F=>absurd F.1 h12⟩⟩
 obtain⟨t,t1,t2⟩:=hT
 have:=(mH (L:=Io h.Fleet (BC pl) h.Crew h.Chart) (BC pl) (O ((decide (0≤t)&&decide (t≤h.Crew.Tugs))&&decide ((m:U)≤h.Crew.Pilots))) (by simp[BC]; omega) (fun x hx=>by
  obtain⟨o,ho,rfl⟩:=zT.1 hx
  exact(H o ho).2) (fun n i acc hi ha=>by
   have:(BC pl)[i].length≤1048576:=by
    obtain⟨o,ho,e⟩:=zT.1 (zB hi);rw[← e]; exact(H o ho).2
   have hcl:(BC pl).length=pl.length:=by simp[BC]
   rw[Io];simp only[Af,hi,decide_true,if_true,Ai hi,Z]
   rw[if_pos (P5 (by omega) (by omega))]) fun n=>by
    rw[Io,if_neg (by simp)];have t1:KF h.Crew h.Chart h.Fleet (BC pl).flatten=O t:=t1;rw[t1,Z,BB,Z,pil,Z,BB];cases decide (0≤t)&&decide (t≤h.Crew.Tugs)<;>simp).1
 refine⟨_,this,?_⟩;rw[← t2];simp only[zE,decide_eq_true_eq]
theorem gT{l:Q X0}(h:l.length≤1000):Er l=O l:=by
 unfold Er Br;rw[if_pos ⟨by omega,by omega,by omega,by omega⟩];simp only[Z,Int.toNat_zero,List.replicate_zero,zU];rw[if_pos (by simp only[A3,List.length_nil,decide_eq_true_eq]; omega)]
def R5(h:X6)(l:Q X0)(o:X0):Prop:=∀x∈l,Bt h.Chart h.Regime x.Passages o.Passages=G
theorem mF{h:X6}(s:HSmall h)(hh:B5 h=E){l:Q X0}{o:X0}(hl:l.length≤11)(H:DT h (l++ [o])):∃b,Md h l o=O b∧(b=E↔R5 h l o∧FitP h (l++ [o])):=by
 obtain⟨_,hc,_,hr,_⟩:=EB hh;obtain⟨b,b1,b2⟩:=US s hh (pl:=l++ [o]) (by simp; omega) H;have Ho:=H o (by simp)
 have e:=F0 (L:=HQ l h o) l (fun x=>Bt h.Chart h.Regime x.Passages o.Passages) (O G) (O b) (As (by omega)) (fun n i hi=>by
  have Hi:=H l[i] (List.mem_append_left _ (zB hi));rw[HQ]
  simp only[Af,hi,decide_true,if_true,Ai hi,Z,(UF hc hr Hi.1.inn Ho.1.inn (As (by omega)) (As (by omega))).2]) fun n=>by
   rw[HQ,if_neg (by simp),gT (by omega),Z,if_pos (B3 (by omega) (by simp) (by omega)),b1];rfl
 have e:Md h l o=_:=e;rw[e];cases ha:l.any fun x=>Bt h.Chart h.Regime x.Passages o.Passages with
 | true=>
  obtain⟨x,x1,x2⟩:=zR.1 ha;exact⟨G,Y,(fun h=>by cases h),fun K=>by rw[K.1 x x1] at x2; cases x2⟩
 | false=>
  refine⟨b,Y,b2.trans ⟨fun F=>⟨fun x hx=> ?_,F⟩,fun K=>K.2⟩⟩;have:=List.any_eq_false.1 ha x hx;simpa using this
theorem FitP.nil{h:X6}(hh:B5 h=E):FitP h []:=by
 have hw:=(EB hh).2.2.2.2;simp only[F4,zE,decide_eq_true_eq] at hw
 exact⟨by simp[BM,BF,BC],⟨0,SC,hw.1.1⟩,0,SC,hw.2.1.1⟩
theorem sI:Br (4:U) (4:U) 8=O 4:=Eb (n:=4) (by omega) (by omega)
theorem eT{h:X6}(hh:B5 h=E){cs:Q Xa}{pl:Q X0}(hl:pl.length≤12)(hlen:pl.length=cs.length)(hcs:∀a∈cs,C3 h a=E) :
  ∃r,IP h cs pl=O r∧HK h cs pl=O r∧r.Waits.length=4∧r.Calls.length=4:=by
 unfold IP HK;simp only[sI,Z];have hlm:pl.length≤maxLen:=As (by omega)
 refine BO (fun n i=>∀v w:Q U,v.length=4→w.length=4→∃r,IQ pl cs h n (i:U) v w=O r∧Ep cs pl h n (i:U) v w=O r∧r.Waits.length=4∧r.Calls.length=4) hlm
  (fun n v w h1 h2=>⟨⟨v,w⟩,by rw[IQ,if_neg (by rw[hlen]; simp)],by rw[Ep,if_neg (by simp)],h1,h2⟩) (fun n i hi ih v w h1 h2=> ?_) (zF _) _ _ (by simp) (by simp)
 have hi':i<cs.length:=by omega
 have ha:=hcs _ (zB hi');simp only[C3,zE] at ha
 obtain⟨s1,s2⟩:=ED ha.1;have hso:=(IU (EB hh).2.2.1).2 _ s2
 have hL:idx (AL h.Fleet cs[i].Ship).Line 4=E:=by
  simp only[Cj,zE,decide_eq_true_eq] at hso
  exact IW.2 (by omega)
 rw[IQ,Ep];simp only[Af,hi,hi',decide_true,if_true,Ai hi,Ai hi',Z,s1,(L0 (l:=v) (0:U) (by rw[h1]; exact hL)).1,(L0 (l:=w) (0:U) (by rw[h2]; exact hL)).1,Aw hi hlm];exact ih _ _ (by simp[h1]) (by simp[h2])
end Go.Vi
