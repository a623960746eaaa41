/-
Plain laws. No condition.
-/
import Derived.Test.YtdgododldkbndaaGreatFP8a
namespace Go.Vi
set_option linter.all false
open Option renaming bind_some → Z, some → O
open List renaming getElem?_eq_getElem → I, getElem_mem → zB, getElem?_append_left → zD, length_pos_iff → zG, getElem_of_mem → zH, drop_eq_getElem_cons → zI, getElem?_append_right → zJ, getLast?_eq_getElem? → zK, head?_eq_getElem? → zL, take_succ_eq_append_getElem → zM, mem_cons_of_mem → zN, mem_cons_self → zO, append_assoc → zQ, any_eq_true → zR, getElem_map → zS, mem_map → zT, nil_append → zU, drop_zero → zV, replicate → zW
open Option.some renaming injEq → zA
open Bool renaming false_eq_true → zC, and_eq_true → zE, true → E, false → G
open Nat renaming zero_le → zF, testBit_two_pow_sub_one → zP
open IntKind renaming wrap → zX
open _root_ renaming List → Q, Int → U, Bool → W, Nat → X, rfl → Y
theorem sn{n:X}(h:0<n):∃q,n=q+1:=⟨n - 1,by omega⟩
theorem Aq{n:X}(h:n≤1000000000000):n≤maxLen:=by rw[Az]; omega
theorem B2{n k b:X}(h:n≤100000000)(hk:k≤1000)(hb:b≤1000):A3 n k b=E:=by
 have:(n+k)*b≤100001000*1000:=Nat.mul_le_mul (by omega) hb;simp only[A3,decide_eq_true_eq];omega
theorem BN(P:X→X→Prop){len:X}(hl:len≤maxLen)(h0:∀n,P (n+1) len)(hs:∀n i,i<len→P n (i+1)→P (n+1) i){i:X}(hi:i≤len):P bigN i:=by
 have key:∀k i n,i+k=len→k<n→P n i:=by
  intro k
  induction k with
  | zero=>
   intro i n h1 h2;obtain⟨q,rfl⟩:=sn (n:=n) (by omega);obtain rfl:i=len:=by omega
   exact h0 q
  | succ k ih=>
   intro i n h1 h2;obtain⟨q,rfl⟩:=sn (n:=n) (by omega);exact hs q i (by omega) (ih _ _ (by omega) (by omega))
 exact key (len - i) i bigN (by omega) (Nat.lt_of_le_of_lt (Nat.sub_le _ _) (Bw hl))
theorem EZ{α R:Type}{L:X→U→Option R}(l:Q α)(p:α→W)(x K:Option R)(hl:l.length≤maxLen)
  (hs:∀(n i:X) (h:i<l.length),L (n+1) (i:U)=if p l[i]=E then x else L n (zX .i64 ((i:U)+1))) (he:∀n,L (n+1) (l.length:U)=K):L bigN 0=if l.any p=E then x else K:=by
 have:=BN (fun n i=>L n (i:U)=if(l.drop i).any p=E then x else K) hl (fun n=>by simpa using he n) (fun n i h ih=>by
  simp only[hs n i h,Av h hl,ih,zI h,List.any_cons];cases p l[i]<;>simp) (zF _)
 simpa using this
theorem J0{α:Type}{l:Q α}{x:α}(hl:l.length≤maxLen)(h:l.getLast?=O x):ix l (zX .i64 ((l.length:U) - 1))=O x:=by
 have h0:0<l.length:=by cases l with | nil=>cases h | cons=>simp
 rw[show(l.length:U) - 1=((l.length - 1:X):U) by omega,Al (by omega) (by rw[Az] at hl; omega),Ak,← zK,h]
theorem IV{i:U}{n:X}:idx i n=E↔0≤i∧i<(n:U):=by simp[idx]
theorem Cb{c:X1}(h:AN c=E):c.Points.length≤8∧c.Segments.length≤10∧(∀x∈c.Points,x.Name.length≤maxLen)∧∀x∈c.Segments,idx x.A c.Points.length=E∧idx x.B c.Points.length=E:=by
 simp only[AN,zE,decide_eq_true_eq,List.all_eq_true,List.mem_range] at h;obtain⟨h1,h2,h3,h4⟩:=h;refine⟨h1,h2,fun x hx=> ?_,fun x hx=> ?_⟩
 ·obtain⟨i,hi,rfl⟩:=zH hx;have:=h3 i hi;simp only[H2,I hi,zE] at this
  exact Aq (by have:=(sV this.1).2; omega)
 ·obtain⟨i,hi,rfl⟩:=zH hx;have:=h4 i hi;simp only[DO,I hi,zE,decide_eq_true_eq] at this
  exact⟨this.1,this.2.1⟩
theorem FP{c:X1}{s:X4}{i:U}(hc:AN c=E)(hi:idx i c.Segments.length=E):1≤AE (Ap c i) s∧AE (Ap c i) s≤480:=by
 obtain⟨_,_,a,b⟩:=(EP hc).2.2 _ (BI hi).2;unfold AE;split
 ·rw[Al (n:=2*_) (by omega) (by omega)]; omega
 ·omega
def BZ(h:X6)(a:Xa):W:=idx a.Ship h.Fleet.length&&(idx a.From h.Chart.Points.length&&(idx a.To h.Chart.Points.length&&(decide (a.From≠a.To)&&(C4 a.Ready&&(decide (a.Ready≤a.Due)&&decide (a.Due≤2880))))))
theorem Sn(h:X6)(a:Xa):JY h a=O (BZ h a):=by
 unfold JY BZ;simp only[E6,Z,GS,Dv,Lw,C4,Qb];cases idx a.Ship h.Fleet.length<;>cases idx a.From h.Chart.Points.length<;>cases idx a.To h.Chart.Points.length<;>simp[bne_iff_ne]
theorem pP{h:X6}(s:HSmall h)(a:Xa):LH h a=O (B4 h&&BZ h a):=by
 unfold LH;rw[WK s,Z,Sn];cases B4 h<;>rfl
theorem EA{h:X6}(hh:B4 h=E):Di h.Forecast=E∧AN h.Chart=E∧DG h.Fleet=E∧Jb h.Regime=E∧F3 h.Crew=E:=by
 simpa only[B4,zE] using hh
theorem YL{h:X6}(s:HSmall h)(a:Xa):Ko h a=O (B4 h&&BZ h a):=by
 unfold Ko;rw[YO s,Z];cases hh:B4 h with
 | false=>simp
 | true=>
  obtain⟨_,hc,hf,_,_⟩:=EA hh;have h1:=(IT hf).1;have h2:=(Cb hc).1;simp only[if_true,CO _ (show h.Fleet.length≤1000 by omega),CO _ (show h.Chart.Points.length≤1000 by omega),Z,BA,BZ,Bool.true_and,Lw,C4,Qb];cases idx a.Ship h.Fleet.length<;>cases idx a.From h.Chart.Points.length<;>cases idx a.To h.Chart.Points.length<;>simp[bne_iff_ne]
theorem gH(a1:Q Xa)(v4:U)(a0:X6)(x6:Xa)(y10:Q Xa)(y11:U)(K:U→Option W):∀n v,Kr a1 v4 a0 x6 y10 y11 K n v=F5 a1 v4 a0 x6 y10 y11 K n v:=by
 intro n
 induction n with
 | zero=>intro v; rfl
 | succ n ih=>intro v; simp only[Kr,F5,ih,BEq.comm (a:=x6.Ship)]
theorem gG{h:X6}(s:HSmall h)(hh:B4 h=E)(cs:Q Xa):∀n v,Kq cs h n v=DW cs h n v:=by
 intro n
 induction n with
 | zero=>intro v; rfl
 | succ n ih=>intro v; simp only[Kq,DW,YL s,Sn,hh,Bool.true_and,gH,funext ih]
theorem gI{h:X6}(s:HSmall h){cs:Q Xa}:∃b,MZ h cs=O b∧LI h cs=O b∧(b=E→B4 h=E∧cs.length≤6∧∀a∈cs,BZ h a=E):=by
 unfold MZ LI;rw[YO s,WK s,Z];cases hh:B4 h with
 | false=>exact⟨G,rfl,rfl,fun h=>by cases h⟩
 | true=>
  simp only[if_true,funext (gG s hh cs _),Z];by_cases h6:(6:U)<(cs.length:U)
  ·simp only[h6,decide_true,if_true];exact⟨G,Y,Y,fun h=>by cases h⟩
  ·simp only[h6,decide_false,zC,if_false];have hl:cs.length≤maxLen:=Aq (by omega)
   have:=BN (fun n i=>∃b,DW cs h n (i:U)=O b∧(b=E→∀j (hj:j<cs.length),i≤j→BZ h cs[j]=E)) hl (fun n=>⟨E,by simp[DW],fun _ j h1 h2=>by omega⟩) (fun n i hi ih=>by
    obtain⟨b,e1,e2⟩:=ih;rw[DW];simp only[Af,hi,decide_true,if_true,Ah hi,Z,Sn,F2 (Nat.le_of_lt hi),zV,Nat.sub_zero];cases hok:BZ h cs[i] with
    | false=>exact⟨G,rfl,fun h=>by cases h⟩
    | true=>
     simp only[if_true]
     have e:=EZ (L:=F5 cs (i:U) h cs[i] (cs.take i) ((cs.take i).length:U) (DW cs h n)) (cs.take i) (fun x=>x.Ship==cs[i].Ship) (O G) (DW cs h n (zX .i64 ((i:U)+1))) (Aq (by simp; omega)) (fun m j hj=>by
      rw[F5];simp only[Af,hj,decide_true,if_true,Ah hj,Z]) fun m=>by rw[F5,if_neg (by simp)]
     rw[e,Av hi hl,e1];split
     ·exact⟨G,Y,fun h=>by cases h⟩
     ·refine⟨b,Y,fun hb j h1 h2=> ?_⟩;by_cases hji:j=i
      ·subst hji; exact hok
      ·exact e2 hb j h1 (by omega)) (zF _)
   obtain⟨b,e1,e2⟩:=this
   exact⟨b,e1,e1,fun hb=>⟨trivial,by omega,fun a ha=>by
    obtain⟨j,hj,rfl⟩:=zH ha;exact e2 hb j hj (zF _)⟩⟩
def BQ(x:X2)(a:U):U:=if a=x.A then x.B else if a=x.B then x.A else -1
theorem RD(x:X2)(a:U):JW x a=O (BQ x a):=by
 unfold JW BQ;by_cases h1:a=x.A
 ·rw[if_pos (by simpa using h1),if_pos h1]
 ·rw[if_neg (by simpa using h1),if_neg h1];by_cases h2:a=x.B
  ·rw[if_pos (by simpa using h2),if_pos h2]
  ·rw[if_neg (by simpa using h2),if_neg h2]
theorem SN(x:X2)(a:U):Nv x a=O (BQ x a):=RD x a
theorem UU{c:X1}(hc:AN c=E){x:X2}(hx:x∈c.Segments)(a:U):BQ x a= -1∨idx (BQ x a) c.Points.length=E:=by
 obtain⟨h1,h2⟩:=(Cb hc).2.2.2 x hx;unfold BQ;split
 ·exact Or.inr h2
 ·split
  ·exact Or.inr h1
  ·exact Or.inl Y
theorem RP{l:Q U}(hl:l.length≤maxLen)(a:U):KH l a=O (l.any fun x=>x==a):=by
 have:=EZ (L:=IG a l) l (fun x=>x==a) (O E) (O G) hl (fun n i h=>by
  rw[IG];simp only[Af,h,decide_true,if_true,Ah h,Z]) fun n=>by simp[IG]
 unfold KH;rw[this];cases l.any fun x=>x==a<;>rfl
def E9(y:X8):Q W:= [y.i0,y.i1,y.i2,y.i3,y.i4,y.i5,y.i6,y.i7]
theorem YI(y:X8){n:X}(hn:n<8):E9 (X8.set y n E)=(E9 y).set n E:=by
 have:n=0∨n=1∨n=2∨n=3∨n=4∨n=5∨n=6∨n=7:=by omega
 rcases this with rfl|rfl|rfl|rfl|rfl|rfl|rfl|rfl<;>rfl
def Met(y:X8)(l:Q U):Prop:=∀x:U,0≤x→x<8→ix (E9 y) x=O (l.any fun z=>z==x)
theorem Met.snoc{y:X8}{l:Q U}(H:Met y l){r:U}(h0:0≤r)(h8:r<8):Met (X8.set y r.toNat E) (l++ [r]):=fun x x0 x8=>by
 obtain⟨n,rfl⟩:∃n:X,r=(n:U):=⟨r.toNat,by omega⟩;obtain⟨m,rfl⟩:∃m:X,x=(m:U):=⟨x.toNat,by omega⟩;have hl:(E9 y).length=8:=rfl;have hm:=H m x0 x8;rw[Ak] at hm
 rw[Int.toNat_natCast,YI y (by omega),Ak,List.getElem?_set,hm];by_cases e:n=m
 ·subst e;rw[if_pos rfl,if_pos (by omega)];simp
 ·rw[if_neg e];have:((n:U)==(m:U))=G:=beq_eq_false_iff_ne.2 (by omega);simp[this]
structure RtOk (c:X1) (rt l:Q U):Prop where
 len:l.length=rt.length+1
 pt:∀x∈l,idx x c.Points.length=E
 seg:∀i (h:i<rt.length),idx rt[i] c.Segments.length=E
 stp:∀i (h:i<rt.length),∃x,l[i]?=O x∧l[i+1]?=O (BQ (Ap c rt[i]) x)∧0≤BQ (Ap c rt[i]) x
theorem Yl{c:X1}(hc:AN c=E){rt:Q U}{a:U}(ha:idx a c.Points.length=E)(hl:rt.length≤10000000) :
  ∃l b,GC c a rt=O (l,b)∧Hr c a rt=O (l,b)∧(b=G→l= [])∧(b=E→RtOk c rt l):=by
 obtain⟨hp8,hs10,_,_⟩:=Cb hc;have ha':=IV.1 ha;have fail:∃l b,(O (([]:Q U),G):Option (Q U × W))=O (l,b)∧(O (([]:Q U),G):Option (Q U × W))=O (l,b)∧(b=G→l= [])∧(b=E→RtOk c rt l):=⟨[],G,rfl,rfl,fun _=>rfl,fun h=>by cases h⟩
 have main:=BN (fun n i=>∀v5 v7 l,l.getLast?=O v5→l.length=i+1→Met v7 l→(∀x∈l,idx x c.Points.length=E)→
   (∀j (h:j<rt.length),j<i→idx rt[j] c.Segments.length=E∧∃x,l[j]?=O x∧l[j+1]?=O (BQ (Ap c rt[j]) x)∧0≤BQ (Ap c rt[j]) x)→
   ∃l' b,E2 rt c n (i:U) l=O (l',b)∧Gb rt c n v5 (i:U) v7 l=O (l',b)∧(b=G→l'= [])∧(b=E→RtOk c rt l')) (len:=rt.length) (Aq (by omega))
  (fun n v5 v7 l h1 h2 h3 h4 h5=>⟨l,E,by simp[E2],by simp[Gb],(fun h=>by cases h),fun _=>⟨h2,h4,fun j h=>(h5 j h h).1,fun j h=>(h5 j h h).2⟩⟩)
  (fun n i hi ih v5 v7 l h1 h2 h3 h4 h5=>by
   rw[E2,Gb];simp only[Af,hi,decide_true,if_true,Ah hi,Z,E6,CO _ (show c.Segments.length≤1000 by omega)];cases hx:idx rt[i] c.Segments.length with
   | false=>exact fail
   | true=>
    simp only[if_true,(BI hx).1,Z,J0 (Aq (by omega)) h1,SN,RD];have he:=UU hc (BI hx).2 v5;have hr:∃r,BQ (Ap c rt[i]) v5=r:=⟨_,rfl⟩;obtain⟨r,hr⟩:=hr;rw[hr] at he ⊢
    by_cases h0:r<0
    ·simp only[h0,decide_true,if_true,Ht,GD];exact fail
    ·have hri:=he.resolve_left (by omega);have hr':=IV.1 hri;have hd:(decide (0≤r)&&decide (r<8))=E:=by simp; omega
     have hm:=h3 r hr'.1 (by omega);unfold E9 at hm
     simp only[h0,decide_false,zC,if_false,hd,if_true,RP (Aq (n:=l.length) (by omega)),Z,hm];cases hb:l.any fun z=>z==r with
     | true=>simp only[Ht,GD,if_true]; exact fail
     | false=>
      simp only[Ht,GD,zC,if_false,hd,if_true];rw[if_pos (B2 (by omega) (by simp) (by omega)),if_pos (B2 (by omega) (by simp) (by omega)),Av hi (Aq (by omega))];refine ih r _ _ (by simp) (by simp; omega) (h3.snoc hr'.1 (by omega)) (fun x hx=> ?_) fun j h1' h2'=> ?_
      ·rcases List.mem_append.1 hx with hx|hx
       ·exact h4 x hx
       ·simp only[List.mem_singleton] at hx; exact hx▸hri
      ·by_cases hji:j=i
       ·subst hji;refine⟨hx,v5,?_,?_,by rw[hr]; exact hr'.1⟩
        ·rw[zD (by omega),← h1,zK,h2]; rfl
        ·rw[zJ (by omega),h2,hr]; simp
       ·obtain⟨g1,x,g2,g3,g4⟩:=h5 j h1' (by omega);exact⟨g1,x,by rw[zD (by omega)]; exact g2,by rw[zD (by omega)]; exact g3,g4⟩) (zF _)
 have hd:(decide (0≤a)&&decide (a<8))=E:=by simp; omega
 unfold GC Hr;rw[E6,ha,Z];simp only[if_true,hd]
 have m0:Met ⟨G,G,G,G,G,G,G,G⟩ []:=fun x x0 x8=>by
  obtain⟨n,rfl⟩:∃n:X,x=(n:U):=⟨x.toNat,by omega⟩;have:n=0∨n=1∨n=2∨n=3∨n=4∨n=5∨n=6∨n=7:=by omega
  rcases this with rfl|rfl|rfl|rfl|rfl|rfl|rfl|rfl<;>rfl
 exact main a _ [a] rfl Y (m0.snoc ha'.1 (by omega)) (by simpa using ha) fun j _ h=>by omega
theorem Yz{c:X1}(hc:AN c=E){rt:Q U}{a:U}(hl:rt.length≤10000000) :
  ∃l b,Eu c a rt=O b∧F8 c a rt=O b∧Fw c a rt=O l∧DX c a rt=O l∧(b=G→l= [])∧(b=E→RtOk c rt l):=by
 have hn:=(Cb hc).2.2.1;have h8:=(Cb hc).1;unfold Fw DX Eu F8;simp only[DP hn,FL hn,hc,Z,if_true,CO _ (show c.Points.length≤1000 by omega)];cases ha:idx a c.Points.length with
 | false=>
  refine⟨[],G,Y,?_,Y,?_,fun _=>rfl,fun h=>by cases h⟩<;>(unfold Hr; rw[E6,ha]; rfl)
 | true=>
  obtain⟨l,b,e1,e2,e3,e4⟩:=Yl hc ha hl;refine⟨l,b,by simp only[if_true,e1,Z],by simp only[e2,Z],?_,by simp only[e2,Z],e3,e4⟩;simp only[if_true,e1,Z];cases b with
  | false=>rw[e3 rfl]; rfl
  | true=>rfl
theorem oT(l:Q X5)(a:U)(hl:l.length≤100000):∃b,N5 l a=O b∧LM l a=O b∧(b=E→∃w∈l,w.From≤a∧a≤w.To):=by
 have e1:=EZ (L:=Iq a l) l (fun x=>decide (x.From≤a)&&decide (a≤x.To)) (O E) (O G) (Aq (by omega)) (fun n i h=>by
  rw[Iq];simp only[Af,h,decide_true,if_true,Ah h,Z,BA]) fun n=>by simp[Iq]
 have e2:=EZ (L:=HB a l) l (fun x=>decide (x.From≤a)&&decide (a≤x.To)) (O E) (O G) (Aq (by omega)) (fun n i h=>by
  rw[HB];simp only[Af,h,decide_true,if_true,Ah h,Z,Dv]) fun n=>by simp[HB]
 unfold N5 LM;rw[e1,e2];split
 ·rename_i h
  obtain⟨w,w1,w2⟩:=zR.1 h;simp only[zE,decide_eq_true_eq] at w2
  exact⟨E,Y,Y,fun _=>⟨w,w1,w2⟩⟩
 ·exact⟨G,Y,Y,fun h=>by cases h⟩
theorem sW(l:Q X5)(a:U)(hl:l.length≤100000)(hW:∀w∈l,w.From≤w.To):∃r,Nb l a=O r∧LU l a=O r∧(r<0∨(a≤r∧∃w∈l,w.From≤r∧r≤w.To)):=by
 have hm:l.length≤maxLen:=Aq (by omega);unfold Nb LU;rw[YT hm,WM hm,Z,Z];split
 ·exact BN (fun n i=>∃r,Iu a l n (i:U)=O r∧HC a l n (i:U)=O r∧(r<0∨(a≤r∧∃w∈l,w.From≤r∧r≤w.To))) hm (fun n=>⟨-1,by simp[Iu],by simp[HC],Or.inl (by omega)⟩) (fun n i h ih=>by
   rw[Iu,HC];simp only[Af,h,decide_true,if_true,Ah h,Z,Av h hm];split
   ·rename_i hd
    simp only[decide_eq_true_eq] at hd
    have hw:=hW _ (zB h);exact⟨_,Y,Y,Or.inr ⟨by split<;>omega,l[i],zB h,by split<;>omega,by split<;>omega⟩⟩
   ·exact ih) (zF _)
 ·exact⟨-1,Y,Y,Or.inl (by omega)⟩
def wt(c:X1)(x:U):W:=(c.Points[x.toNat]?.getD ⟨[],G⟩).Wait
structure VoyOk (f:Xd) (c:X1) (s:X4) (rt pts:Q U) (v:Xk):Prop where
 ne:rt≠ []
 r:RtOk c rt pts
 ml:v.minutes.length=rt.length
 ul:v.sure.length=rt.length
 m:∀i (h:i<rt.length),v.minutes[i]?=O (AE (Ap c rt[i]) s)
 w:∀i (h:i<rt.length),∃x,pts[i]?=O x∧v.waits[i]?=O (wt c x)
 u:∀i (h:i<rt.length),∃l,v.sure[i]?=O l∧l.length≤2881∧∀w∈l,0≤w.From∧w.From≤w.To∧w.To+AE (Ap c rt[i]) s≤2880
 st:PO f c s rt=O v.sure
theorem xB{f:Xd}{c:X1}{s:X4}(hf:Di f=E)(hc:AN c=E)(hs:Ci s=E)(hsn:s.Name.length≤maxLen){rt pts:Q U}{a:U}(hl:rt.length≤10000000)(hr:RtOk c rt pts)(h0:rt≠ [])
  (e1:F8 c a rt=O E) (e2:DX c a rt=O pts):∃v,HU f c s a rt=O (v,E)∧VoyOk f c s rt pts v:=by
 have hn:=(Cb hc).2.2.1;have hz:((rt.length:U)==(0:U))=G:=by cases rt with | nil=>exact absurd rfl h0 | cons=>simp; omega
 have hp:=hr.len;have hlen:(pts.take rt.length).length=rt.length:=by simp; omega
 have hlm:rt.length≤maxLen:=Aq (by omega)
 have hspec:=BN (fun n i=>∀us,us.length=i→∃vs,GG rt f c s n (i:U) us=O (us++vs)∧∀ws ms,ws.length=i→ms.length=i→
   ∃ws' ms',HW rt f c s (pts.take rt.length) ((pts.take rt.length).length:U) n (i:U) ws ms us=O (⟨ws++ws',ms++ms',us++vs⟩,E)∧ms'.length=rt.length - i∧vs.length=rt.length - i∧
    (∀j (h:j<rt.length),i≤j→ms'[j - i]?=O (AE (Ap c rt[j]) s)∧(∃x,pts[j]?=O x∧ws'[j - i]?=O (wt c x))∧∃l,vs[j - i]?=O l∧l.length≤2881∧∀w∈l,0≤w.From∧w.From≤w.To∧w.To+AE (Ap c rt[j]) s≤2880)) hlm
  (fun n us hu=>⟨[],by simp[GG],fun ws ms hw hm=>⟨[],[],by simp[HW,hlen],by simp,by simp,fun j h h'=>by omega⟩⟩)
  (fun n i h ih us hu=>by
   obtain⟨l,l1,l2,l3,l4⟩:=vQ (s:=s) hf hn hsn hc hs (hr.seg i h);have hlt':i<(pts.take rt.length).length:=by omega
   have hpi:i<pts.length:=by omega
   have hpt:=hr.pt pts[i] (zB hpi);have hg:(pts.take rt.length)[i]=pts[i]:=by simp
   obtain⟨vs,v1,v2⟩:=ih (us++ [l]) (by simp; omega);refine⟨l::vs,?_,fun ws ms hw hm=> ?_⟩
   ·rw[GG];simp only[Af,h,decide_true,if_true,Ah h,Z,l1];rw[if_pos (B2 (by omega) (by simp) (by omega)),Av h hlm,v1];simp
   ·obtain⟨ws',ms',g1,g2,g2',g3⟩:=v2 (ws++ [wt c pts[i]]) (ms++ [AE (Ap c rt[i]) s]) (by simp; omega) (by simp; omega);refine⟨wt c pts[i]::ws',AE (Ap c rt[i]) s::ms',?_,by simp; omega,by simp; omega,fun j hj hij=> ?_⟩
    ·rw[HW];simp only[Af,hlt',decide_true,if_true,Ah hlt',Ah h,hg,Z,(KZ (⟨[],G⟩:X7) hpt).1,(BI (hr.seg i h)).1,NS,l2];rw[if_pos (B2 (by omega) (by simp) (by omega)),if_pos (B2 (by omega) (by simp) (by omega)),if_pos (B2 (by omega) (by simp) (by omega)),Av h hlm];refine g1.trans ?_;simp
    ·by_cases hji:j=i
     ·subst hji;simp only[Nat.sub_self,List.getElem?_cons_zero];exact⟨trivial,⟨_,I hpi,Y⟩,l,Y,l3,l4⟩
     ·obtain⟨q,hq⟩:∃q,j - i=q+1:=⟨j - i - 1,by omega⟩;have:=g3 j hj (by omega);rw[show j - (i+1)=q by omega] at this
      rw[hq];simpa using this) (zF _)
 obtain⟨vs,v1,v2⟩:=hspec [] rfl;obtain⟨ws',ms',g1,g2,g3,g4⟩:=v2 [] [] rfl rfl;refine⟨⟨ws',ms',vs⟩,?_,h0,hr,by simpa using g2,by simpa using g3,fun i h=>by simpa using(g4 i h (zF _)).1,fun i h=>by simpa using(g4 i h (zF _)).2.1,fun i h=>by simpa using(g4 i h (zF _)).2.2,show GG rt f c s bigN 0 []=O vs by simpa using v1⟩;unfold HU;simp only[NR,GR hsn,hf,hs,e1,e2,Z,if_true,HV,hz,zC,if_false];rw[F2 (by omega),Z];simp only[zV,Nat.sub_zero];exact g1
structure Sailed (c:X1) (s:X4) (rt:Q U) (st:U) (l:Q U):Prop where
 len:l.length=rt.length
 hd:l[0]?=O st
 sf:∀i (h:i<rt.length),∃y,l[i]?=O y∧0≤y∧y+AE (Ap c rt[i]) s≤2880
 up:∀i (h:i+1<rt.length),∃x y,l[i]?=O x∧l[i+1]?=O y∧zX .i64 (x+AE (Ap c rt[i]) s)≤y
theorem uU{f:Xd}{c:X1}{s:X4}(hc:AN c=E){rt pts:Q U}{v:Xk}(hl:rt.length≤10000000)(H:VoyOk f c s rt pts v)(st:U) :
  ∃l b,KI c s pts rt v.sure st=O (l,b)∧Mi v st=O (l,b)∧(b=E→Sailed c s rt st l):=by
 have h0:0<rt.length:=zG.2 H.ne;have hlm:rt.length≤maxLen:=Aq (by omega);obtain⟨l0,u1,u2,u3⟩:=H.u 0 h0;obtain⟨b,b1,b2,b3⟩:=oT l0 st (by omega);have hx:ix v.sure (0:U)=O l0:=by have:=Ak v.sure 0; rw[u1] at this; exact this
 unfold KI Mi;simp only[hx,Z,b1,b2];cases b with
 | false=>exact⟨[],G,rfl,rfl,fun h=>by cases h⟩
 | true=>
  simp only[if_true]
  refine BN (fun n i=>∀l,1≤i→l.length=i→l[0]?=O st→(∀j (h:j<rt.length),j<i→∃y,l[j]?=O y∧0≤y∧y+AE (Ap c rt[j]) s≤2880)→(∀j (h:j+1<rt.length),j+1<i→∃x y,l[j]?=O x∧l[j+1]?=O y∧zX .i64 (x+AE (Ap c rt[j]) s)≤y)→
   ∃l' b,Ex pts rt v.sure c s n (i:U) l=O (l',b)∧Es v n (i:U) l=O (l',b)∧(b=E→Sailed c s rt st l')) hlm
   (fun n l h1 h2 h3 h5 h4=>⟨l,E,by simp[Ex],by simp[Es,H.ul],fun _=>⟨h2,h3,fun j h=>h5 j h h,fun j h=>h4 j h h⟩⟩)
   (fun n i h ih l h1 h2 h3 h5 h4=> ?_) (i:=1) (by omega) [st] (by omega) rfl rfl (fun j hj h=> ?_) (fun j _ h=>by omega)
  case refine_2=>
   obtain rfl:j=0:=by omega
   obtain⟨w,w1,w2,w3⟩:=b3 rfl;have:=u3 w w1;exact⟨st,Y,by omega,by omega⟩
  obtain⟨w,g1,g2,g3⟩:=H.u i h;have hu:i<v.sure.length:=by have:=H.ul; omega
  have ew:zX .i64 ((i:U) - 1)=((i - 1:X):U):=by
   rw[show(i:U) - 1=((i - 1:X):U) by omega];exact Al (by omega) (by omega)
  have hi1:i - 1<rt.length:=by omega
  have hil:i - 1<l.length:=by omega
  obtain⟨x,x1,x2⟩:=H.w i h;have hpt:=H.r.pt x (List.mem_of_getElem? x1);obtain⟨r,r1,r2,r3⟩:=sW w (zX .i64 (l[i - 1]+AE (Ap c rt[i - 1]) s)) (by omega) (fun x hx=>(g3 x hx).2.1);rw[Ex,Es];simp only[Af,h,hu,decide_true,if_true,ew,Ah hil,Ah hi1,Ak,H.m _ hi1,(BI (H.r.seg _ hi1)).1,Z,OC,g1,r1,r2,x1,x2,(KZ (⟨[],G⟩:X7) hpt).1];have fail:∃l' b,(O (([]:Q U),G):Option (Q U × W))=O (l',b)∧(O (([]:Q U),G):Option (Q U × W))=O (l',b)∧(b=E→Sailed c s rt st l'):=⟨[],G,rfl,rfl,fun h=>by cases h⟩;by_cases hr0:r<0
  ·simp only[hr0,decide_true,if_true,IJ,HX];exact fail
  ·obtain⟨hge,w',w1,w2,w3⟩:=r3.resolve_left hr0;have hwb:=g3 w' w1
   have hne:(r !=zX .i64 (l[i - 1]+AE (Ap c rt[i - 1]) s))=decide (zX .i64 (l[i - 1]+AE (Ap c rt[i - 1]) s)<r):=by
    rw[Lw];by_cases e:r=zX .i64 (l[i - 1]+AE (Ap c rt[i - 1]) s)
    ·simp[← e]
    ·have:zX .i64 (l[i - 1]+AE (Ap c rt[i - 1]) s)<r:=by omega
     simp[e,this]
   have go:∃l' b,Ex pts rt v.sure c s n (zX .i64 ((i:U)+1)) (l++ [r])=O (l',b)∧Es v n (zX .i64 ((i:U)+1)) (l++ [r])=O (l',b)∧(b=E→Sailed c s rt st l'):=by
    rw[Av h hlm];refine ih (l++ [r]) (by omega) (by simp; omega) (by rw[zD (by omega)]; exact h3) (fun j hj1 hj2=> ?_) fun j hj1 hj2=> ?_
    ·by_cases hji:j=i
     ·subst hji;exact⟨r,by rw[zJ (by omega),h2]; simp,by omega,by omega⟩
     ·obtain⟨y,q1,q2,q3⟩:=h5 j hj1 (by omega);exact⟨y,by rw[zD (by omega)]; exact q1,q2,q3⟩
    by_cases hji:j+1=i
    ·subst hji;exact⟨l[j],r,by rw[zD (by omega),I],by rw[zJ (by omega),h2]; simp,by simpa using hge⟩
    ·obtain⟨x,y,q1,q2,q3⟩:=h4 j hj1 (by omega);exact⟨x,y,by rw[zD (by omega)]; exact q1,by rw[zD (by omega)]; exact q2,q3⟩
   have hap:A3 l.length [r].length 8=E:=B2 (by omega) (by simp) (by omega);simp only[hr0,decide_false,zC,if_false,hne,IJ,HX,hap,if_true];split
   ·change ∃l' b,(if(!wt c x)=E then _ else _)=_∧_
    split
    ·exact fail
    ·exact go
   ·exact go
def OV(c:X1)(s:X4)(sh:U)(rt pts l:Q U)(i:X)(ps:Q X3):Prop:=
 ps.length=i∧∀j (h:j<rt.length),j<i→∃x y,pts[j]?=O x∧l[j]?=O y∧0≤y∧y≤2880∧ps[j]?=O ⟨sh,rt[j],(Ap c rt[j]).A==x,y,zX .i64 (y+AE (Ap c rt[j]) s)⟩
theorem tO{c:X1}{s:X4}(hs:Ci s=E)(hsn:s.Name.length≤maxLen){rt pts l:Q U}{a sh:U}(hl:rt.length≤10000000)(hr:RtOk c rt pts)(hlen:l.length=rt.length)(hS:∀i (h:i<rt.length),∃y,l[i]?=O y∧0≤y∧y≤2880)
  (e1:Eu c a rt=O E) (e2:F8 c a rt=O E) (e3:Fw c a rt=O pts) (e4:DX c a rt=O pts) :
  ∃ps,Nd c sh s a rt l=O ps∧LX c sh s a rt l=O ps∧OV c s sh rt pts l rt.length ps:=by
 have hlm:rt.length≤maxLen:=Aq (by omega);have hz:((rt.length:U) !=(l.length:U))=G:=by rw[hlen]; simp
 unfold Nd LX;simp only[e1,e2,e3,e4,Lf hsn,GR hsn,hs,Z,if_true,hz,zC,if_false]
 refine BN (fun n i=>∀ps,OV c s sh rt pts l i ps→∃ps',Iw sh l rt c s pts n (i:U) ps=O ps'∧HD sh l rt c s pts n (i:U) ps=O ps'∧OV c s sh rt pts l rt.length ps') hlm
  (fun n ps hp=>⟨ps,by simp[Iw],by simp[HD],hp⟩) (fun n i h ih ps hp=> ?_) (zF _) [] ⟨rfl,fun j _ h=>by omega⟩
 have hi:i<l.length:=by omega
 have hpi:i<pts.length:=by have:=hr.len; omega
 rw[Iw,HD];simp only[Af,h,decide_true,if_true,Ah h,Ah hi,Ah hpi,(BI (hr.seg i h)).1,Z,BA,GS,OC,NS,BEq.comm (a:=pts[i])];split
 ·rename_i hm
  simp only[zE,decide_eq_true_eq] at hm
  have hp1:=hp.1;rw[if_pos (B2 (by omega) (by simp) (by omega)),if_pos (B2 (by omega) (by simp) (by omega)),Av h hlm];refine ih _ ⟨by simp; omega,fun j hj1 hj2=> ?_⟩;by_cases hji:j=i
  ·subst hji;exact⟨pts[j],l[j],I _,I _,hm.1,hm.2,by rw[zJ (by omega),hp1]; simp⟩
  ·obtain⟨x,y,q1,q2,q3,q4,q5⟩:=hp.2 j hj1 (by omega);exact⟨x,y,q1,q2,q3,q4,by rw[zD (by omega)]; exact q5⟩
 ·rename_i hm
  obtain⟨y,y1,y2,y3⟩:=hS i h;rw[I hi,zA] at y1
  exact absurd (by simp[y1,y2,y3]) hm
theorem Yy{c:X1}(hc:AN c=E){rt:Q U}(hl:rt.length≤10000000)(hs:∀i (h:i<rt.length),idx rt[i] c.Segments.length=E):∃r,GA c rt=O r∧Gi c rt=O r∧0≤r:=by
 have hlm:rt.length≤maxLen:=Aq (by omega);have hn:=(Cb hc).2.2.1;have h10:=(Cb hc).2.1;unfold GA Gi;simp only[DP hn,FL hn,hc,Z,if_true];refine BN (fun n i=>∀v:U,0≤v→v≤240*(i:U)→∃r,IA rt c n v (i:U)=O r∧HF rt c n v (i:U)=O r∧0≤r) hlm (fun n v h1 h2=>⟨v,by simp[IA],by simp[HF],h1⟩) (fun n i h ih v h1 h2=> ?_) (zF _) 0 (by omega) (by omega);obtain⟨_,_,a,b⟩:=(EP hc).2.2 _ (BI (hs i h)).2;rw[IA,HF];simp only[Af,h,decide_true,if_true,Ah h,(BI (hs i h)).1,Z,E6,CO _ (show c.Segments.length≤1000 by omega),hs i h,Av h hlm];rw[Al (by omega) (by omega)];exact ih _ (by omega) (by omega)
theorem fC{c:X1}{s:X4}(hc:AN c=E)(hs:Ci s=E)(hsn:s.Name.length≤maxLen){rt l:Q U}(hl:rt.length≤10000000)(hsg:∀i (h:i<rt.length),idx rt[i] c.Segments.length=E)(hlen:l.length=rt.length)(h0:rt≠ []) :
  ∃r,MX c s rt l=O r∧LF c s rt l=O r∧∀y,l[rt.length - 1]?=O y→0≤y→y≤2880→∃x,rt[rt.length - 1]?=O x∧r=zX .i64 (y+AE (Ap c x) s):=by
 obtain⟨m,m1,m2,m3⟩:=Yy hc hl hsg;have hp:0<rt.length:=zG.2 h0;have hz:((rt.length:U)==(0:U))=G:=beq_eq_false_iff_ne.2 (by omega);have hq:((rt.length:U) !=(l.length:U))=G:=by rw[hlen]; simp
 have ew:zX .i64 ((rt.length:U) - 1)=((rt.length - 1:X):U):=by
  rw[show(rt.length:U) - 1=((rt.length - 1:X):U) by omega];exact Al (by omega) (by omega)
 have h1:rt.length - 1<rt.length:=by omega
 have h2:rt.length - 1<l.length:=by omega
 unfold MX LF;simp only[m1,m2,Z,show decide (m<0)=G by simp; omega,zC,if_false,Lf hsn,GR hsn,hs,if_true,hq,hz,hlen,ew,Ah h1,Ah h2,BA,GS,(BI (hsg _ h1)).1,OC,NS,bne_self_eq_false];split
 ·refine⟨_,Y,Y,fun y e _ _=>⟨_,I h1,?_⟩⟩;rw[I h2,zA] at e
  rw[e]
 ·rename_i hm
  refine⟨-1,Y,Y,fun y e a b=>absurd ?_ hm⟩;rw[I h2,zA] at e
  simp only[zE,decide_eq_true_eq,e];exact⟨a,b⟩
structure AtOk (h:X6) (a:Xa) (rt:Q U) (st:U) (o:X0):Prop where
 ha:BZ h a=E
 mo:∃pts l,RtOk h.Chart rt pts∧Sailed h.Chart (AK h.Fleet a.Ship) rt st l∧OV h.Chart (AK h.Fleet a.Ship) a.Ship rt pts l rt.length o.Passages
def AX(c:X1)(s:X4)(rt:Q U):U:=(rt.map fun k=>AE (Ap c k) s).sum
theorem gf{h:X6}{s:X4}{rt:Q U}{v:Xk}{f:Xd}{pts:Q U}(hc:AN h.Chart=E)(hl:rt.length≤10000000)(H:VoyOk f h.Chart s rt pts v)(st r:U)(ps:Q X3){c0:U}(h0:AX h.Chart s rt≤c0)(h1:c0≤100000) :
  GM rt h s st r ps bigN 0 c0=O (⟨st,r,c0 - AX h.Chart s rt,ps⟩,decide (r≤2880))∧Gp v st r ps bigN 0 c0=O (⟨st,r,c0 - AX h.Chart s rt,ps⟩,decide (r≤2880)):=by
 have hlm:rt.length≤maxLen:=Aq (by omega)
 have pos:∀l:Q U,(∀x∈l,idx x h.Chart.Segments.length=E)→0≤AX h.Chart s l:=by
  intro l
  induction l with
  | nil=>intro _; simp[AX]
  | cons a l ih=>
   intro hx;have h1:=ih fun x hm=>hx x (zN _ hm)
   have h2:=(FP (s:=s) hc (hx a (zO ..))).1;have e:AX h.Chart s (a::l)=AE (Ap h.Chart a) s+AX h.Chart s l:=by simp[AX]
   omega
 have hsg:∀x∈rt,idx x h.Chart.Segments.length=E:=fun x hx=>by
  obtain⟨i,hi,rfl⟩:=zH hx;exact H.r.seg i hi
 have:=BN (fun n i=>∀c0,AX h.Chart s (rt.drop i)≤c0→c0≤100000→GM rt h s st r ps n (i:U) c0=O (⟨st,r,c0 - AX h.Chart s (rt.drop i),ps⟩,decide (r≤2880))∧Gp v st r ps n (i:U) c0=O (⟨st,r,c0 - AX h.Chart s (rt.drop i),ps⟩,decide (r≤2880))) hlm (fun n c0 _ _=>by
   have e:AX h.Chart s (rt.drop rt.length)=0:=by simp[AX]
   rw[e,Int.sub_zero];exact⟨by simp[GM],by simp[Gp,H.ml]⟩) (fun n i hi ih c0 g0 g1=>by
  have hm:i<v.minutes.length:=by have:=H.ml; omega
  have e:AX h.Chart s (rt.drop i)=AE (Ap h.Chart rt[i]) s+AX h.Chart s (rt.drop (i+1)):=by rw[zI hi]; rfl
  have hp:=pos (rt.drop (i+1)) fun x hx=>hsg x (List.mem_of_mem_drop hx)
  obtain⟨m1,m2⟩:=FP (s:=s) hc (H.r.seg i hi);rw[GM,Gp];simp only[Af,hi,hm,decide_true,if_true,Ah hi,Ak,H.m i hi,(BI (H.r.seg i hi)).1,Z,OC,Av hi hlm];rw[Al (n:=c0 - _) (by omega) (by omega)];have:=ih (c0 - AE (Ap h.Chart rt[i]) s) (by omega) (by omega);rw[show c0 - AE (Ap h.Chart rt[i]) s - AX h.Chart s (rt.drop (i+1))=c0 - AX h.Chart s (rt.drop i) by omega] at this
  exact this) (zF _) c0 (by simpa using h0) h1
 simpa using this
theorem Sailed.sum{c:X1}{s:X4}{rt l:Q U}{st:U}(hc:AN c=E)(hsg:∀i (h:i<rt.length),idx rt[i] c.Segments.length=E)(H:Sailed c s rt st l):∀k (hk:k<rt.length),∃y,l[k]?=O y∧st+AX c s (rt.take k)≤y:=by
 intro k
 induction k with
 | zero=>intro hk; exact⟨st,H.hd,by simp[AX]⟩
 | succ k ih=>
  intro hk;obtain⟨y,y1,y2⟩:=ih (by omega);obtain⟨u,v,u1,u2,u3⟩:=H.up k hk;obtain⟨z,z1,z2,z3⟩:=H.sf k (by omega);rw[y1,zA] at u1 z1
  subst u1 z1;have hm:=FP (s:=s) hc (hsg k (by omega));rw[Al (by omega) (by omega)] at u3
  have e:AX c s (rt.take (k+1))=AX c s (rt.take k)+AE (Ap c rt[k]) s:=by
   rw[zM (by omega)];unfold AX;rw[List.map_append,List.sum_append];simp
  exact⟨v,u2,by omega⟩
theorem tD{h:X6}{a:Xa}(ha:BZ h a=E)(hc:AN h.Chart=E)(hso:Ci (AK h.Fleet a.Ship)=E)(hsn:(AK h.Fleet a.Ship).Name.length≤maxLen){rt pts:Q U}{v:Xk}(hl:rt.length≤10000000)
  (V:VoyOk h.Forecast h.Chart (AK h.Fleet a.Ship) rt pts v) (e1:Eu h.Chart a.From rt=O E) (e2:F8 h.Chart a.From rt=O E) (e3:Fw h.Chart a.From rt=O pts) (e4:DX h.Chart a.From rt=O pts)
  {st:U} (hr:a.Ready≤st) (hd:st≤2880):∃l b,KI h.Chart (AK h.Fleet a.Ship) pts rt v.sure st=O (l,b)∧(b=G→∃o,HR h a v rt st=O (o,G))∧
   (b=E→∃o,Nz h a rt l=O (o,E)∧HR h a v rt st=O (o,E)∧AtOk h a rt st o∧o.Arrival≤2880∧0≤o.Cost∧o.Cost≤2880∧∀y,l[rt.length - 1]?=O y→∃x,rt[rt.length - 1]?=O x∧o.Arrival=zX .i64 (y+AE (Ap h.Chart x) (AK h.Fleet a.Ship))):=by
 obtain⟨l,b,b1,b2,b3⟩:=uU hc hl V st;refine⟨l,b,b1,fun hb=> ?_,fun hb=> ?_⟩
 ·subst hb;exact⟨⟨0,0,0,[]⟩,by simp only[HR,b2,Z,zC,if_false]⟩
 ·subst hb;have S:=b3 rfl;have ha':=ha;simp only[BZ,C4,zE,decide_eq_true_eq] at ha'
  obtain⟨q1,_,_,_,⟨q5,_⟩,_⟩:=ha';obtain⟨s1,s2⟩:=EC q1
  have hsS:∀i (h':i<rt.length),∃y,l[i]?=O y∧0≤y∧y≤2880:=fun i h'=>by
   obtain⟨y,y1,y2,y3⟩:=S.sf i h';have:=(FP (s:=AK h.Fleet a.Ship) hc (V.r.seg i h')).1;exact⟨y,y1,y2,by omega⟩
  obtain⟨ps,p1,p2,p3⟩:=tO (sh:=a.Ship) hso hsn hl V.r S.len hsS e1 e2 e3 e4;obtain⟨r,r1,r2,r3⟩:=fC hc hso hsn hl V.r.seg S.len V.ne;have hp:=zG.2 V.ne;have hlt:rt.length - 1<rt.length:=by omega
  obtain⟨y,y1,y2,y3⟩:=S.sf _ hlt;have hm:=FP (s:=AK h.Fleet a.Ship) hc (V.r.seg _ hlt);obtain⟨x,x1,x2⟩:=r3 y y1 y2 (by omega);rw[I hlt,zA] at x1
  rw[← x1,Al (by omega) (by omega)] at x2
  obtain⟨z,z1,z2⟩:=S.sum hc V.r.seg _ hlt;rw[y1,zA] at z1
  subst z1
  have es:AX h.Chart (AK h.Fleet a.Ship) rt=AX h.Chart (AK h.Fleet a.Ship) (rt.take (rt.length - 1))+AE (Ap h.Chart rt[rt.length - 1]) (AK h.Fleet a.Ship):=by
   have e:rt=rt.take (rt.length - 1)++ [rt[rt.length - 1]]:=by
    rw[← zM hlt,show rt.length - 1+1=rt.length by omega,List.take_length]
   have:∀u w:Q U,AX h.Chart (AK h.Fleet a.Ship) (u++w)=AX h.Chart (AK h.Fleet a.Ship) u+AX h.Chart (AK h.Fleet a.Ship) w:=fun u w=>by simp[AX]
   rw[congrArg (AX h.Chart (AK h.Fleet a.Ship)) e,this];simp[AX]
  obtain⟨c1,c2⟩:=gf hc hl V st r ps (c0:=r - a.Ready) (by omega) (by omega);have ew:zX .i64 (r - a.Ready)=r - a.Ready:=Al (by omega) (by omega);have hx0:ix l (0:U)=O st:=by have:=Ak l 0; rw[S.hd] at this; exact this
  have hpos:0≤AX h.Chart (AK h.Fleet a.Ship) rt:=by
   have:∀w:Q U,(∀x∈w,idx x h.Chart.Segments.length=E)→0≤AX h.Chart (AK h.Fleet a.Ship) w:=by
    intro w
    induction w with
    | nil=>intro _; simp[AX]
    | cons u w ih=>
     intro hx;have h1:=ih fun x hm=>hx x (zN _ hm)
     have h2:=(FP (s:=AK h.Fleet a.Ship) hc (hx u (zO ..))).1;have e:AX h.Chart (AK h.Fleet a.Ship) (u::w)=AE (Ap h.Chart u) (AK h.Fleet a.Ship)+AX h.Chart (AK h.Fleet a.Ship) w:=by simp[AX]
     omega
   exact this rt fun x hx=>by
    obtain⟨i,hi,rfl⟩:=zH hx;exact V.r.seg i hi
  have hd28:decide (r≤2880)=E:=by simp; omega
  refine⟨⟨st,r,r - a.Ready - AX h.Chart (AK h.Fleet a.Ship) rt,ps⟩,?_,?_,⟨ha,pts,l,V.r,S,p3⟩,by simp only; omega,by simp only; omega,by simp only; omega,fun y' h'=> ?_⟩
  ·simp only[Nz,s1,Z,hx0,r1,p1,ew,c1,hd28]
  ·simp only[HR,b2,if_true,s1,Z,r2,p2,ew,c2,hd28]
  ·rw[y1,zA] at h'
   subst h';exact r3 y y1 y2 (by omega)
structure GoodP (c:X1) (fl:Q X4) (l:Q X3):Prop where
 ne:l≠ []
 inn:∀p∈l,C6 c fl p=E
 ship:∃sh,∀p∈l,p.Ship=sh
 link:∀j (h:j+1<l.length),(Cw c l[j+1]).1=(Cw c l[j]).2∧l[j].End≤l[j+1].Start
theorem ku{s:X2}{x:U}(h:0≤BQ s x):(if(s.A==x)=E then(s.A,s.B) else(s.B,s.A))=(x,BQ s x):=by
 unfold BQ at *
 by_cases h1:s.A=x
 ·subst h1; simp
 ·have h1':¬x=s.A:=fun e=>h1 e.symm
  by_cases h2:x=s.B
  ·subst h2; simp[h1,h1']
  ·simp[h1',h2] at h
theorem AtOk.good{h:X6}{a:Xa}{st:U}{o:X0}(hh:B4 h=E)(H:AtOk h a (o.Passages.map fun p=>p.Segment) st o):GoodP h.Chart h.Fleet o.Passages:=by
 obtain⟨ha,pts,l,hr,S,hp⟩:=H;obtain⟨_,hc,hfl,_,_⟩:=EA hh;simp only[BZ,zE] at ha
 have hne:o.Passages≠ []:=fun e=>by
  have h1:=S.hd;have h2:=S.len;rw[e] at h2
  cases l with
  | nil=>cases h1
  | cons=>simp at h2
 obtain⟨_,hp⟩:=hp;generalize hps:o.Passages=ps at *
 have hlen:(ps.map fun p=>p.Segment).length=ps.length:=by simp
 have hpos:0<ps.length:=zG.2 hne
 have at_:∀j (hj:j<ps.length),∃x y,pts[j]?=O x∧l[j]?=O y∧0≤y∧y≤2880∧idx ps[j].Segment h.Chart.Segments.length=E∧ps[j]=⟨a.Ship,ps[j].Segment,(Ap h.Chart ps[j].Segment).A==x,y,y+AE (Ap h.Chart ps[j].Segment) (AK h.Fleet a.Ship)⟩:=fun j hj=>by
  obtain⟨x,y,q1,q2,q3,q4,q5⟩:=hp j (by omega) (by omega);have hs:=hr.seg j (by omega);simp only[zS] at hs q5
  obtain⟨m1,m2⟩:=FP (s:=AK h.Fleet a.Ship) hc hs;rw[Al (by omega) (by omega),I hj,zA] at q5
  exact⟨x,y,q1,q2,q3,q4,hs,q5⟩
 have up:∀j (hj:j+1<ps.length),ps[j].End≤ps[j+1].Start:=fun j hj=>by
  obtain⟨x,y,_,q2,q3,q4,q5,q6⟩:=at_ j (by omega);obtain⟨x',y',_,r2,_,_,_,r6⟩:=at_ (j+1) hj;obtain⟨u,v,s1,s2,s3⟩:=S.up j (by omega);rw[q2,zA] at s1
  rw[r2,zA] at s2
  subst s1 s2;simp only[zS] at s3
  obtain⟨m1,m2⟩:=FP (s:=AK h.Fleet a.Ship) hc q5;rw[Al (by omega) (by omega)] at s3
  rw[q6,r6];exact s3
 refine⟨hne,fun p hpm=> ?_,⟨a.Ship,fun p hpm=> ?_⟩,fun j hj=>⟨?_,up j hj⟩⟩
 ·obtain⟨j,hj,rfl⟩:=zH hpm;obtain⟨x,y,q1,q2,q3,q4,q5,q6⟩:=at_ j hj;obtain⟨m1,m2⟩:=FP (s:=AK h.Fleet a.Ship) hc q5
  have hend:y+AE (Ap h.Chart ps[j].Segment) (AK h.Fleet a.Ship)≤2880:=by
   obtain⟨z,z1,_,z3⟩:=S.sf j (by omega);rw[q2,zA] at z1
   subst z1;simpa using z3
  rw[q6];simp only[C6,C4,zE,decide_eq_true_eq];exact⟨ha.1,q5,⟨q3,q4⟩,hend,(Al (by omega) (by omega)).symm⟩
 ·obtain⟨j,hj,rfl⟩:=zH hpm;obtain⟨x,y,q1,q2,q3,q4,q5,q6⟩:=at_ j hj;rw[q6]
 ·have e:∀j (hj:j<ps.length),∃x,pts[j]?=O x∧0≤BQ (Ap h.Chart ps[j].Segment) x∧pts[j+1]?=O (BQ (Ap h.Chart ps[j].Segment) x)∧Cw h.Chart ps[j]=(x,BQ (Ap h.Chart ps[j].Segment) x):=fun j hj=>by
   obtain⟨x,y,q1,q2,q3,q4,q5,q6⟩:=at_ j hj;obtain⟨x',t1,t2,t3⟩:=hr.stp j (by omega);simp only[zS] at t2 t3
   rw[q1,zA] at t1
   subst t1;refine⟨x,q1,t3,t2,?_⟩;rw[← ku t3];have ht:ps[j].Toward=((Ap h.Chart ps[j].Segment).A==x):=by rw[q6]
   unfold Cw;rw[ht]
  obtain⟨x,_,_,g3,g4⟩:=e j (by omega);obtain⟨x',k1,_,_,k4⟩:=e (j+1) hj;rw[g3,zA] at k1
  rw[g4,k4,k1]
def Ec(a b g:U):W:=decide (a - b<g∧b - a<g)
def Ed(p q:X3):W:=decide (p.Start<q.End∧q.Start<p.End)
def DU(c:X1)(r:Xi)(p q:X3):W:=
 decide (p.Segment=q.Segment)&&(if p.Ship=q.Ship then Ed p q else if p.Toward=q.Toward then(Ec p.Start q.Start r.Gap || (Ec p.End q.End r.Gap || decide ((p.Start<q.Start∧q.End<p.End)∨(q.Start<p.Start∧p.End<q.End)))) else Ed p q&&(r.NoMeet || !(Ap c p.Segment).Meet))
theorem UK(c:X1)(r:Xi)(p q:X3):DU c r p q=DU c r q p:=by
 have n:∀a b g,Ec a b g=Ec b a g:=fun a b g=>by unfold Ec; congr 1; exact propext And.comm
 have v:Ed p q=Ed q p:=by unfold Ed; congr 1; exact propext And.comm
 unfold DU;by_cases e:p.Segment=q.Segment
 ·simp only[e,n q.Start,n q.End,← v,eq_comm (a:=q.Ship),eq_comm (a:=q.Toward),or_comm (a:=q.Start<p.Start∧p.End<q.End)]
 ·have e':¬q.Segment=p.Segment:=fun h=>e h.symm
  simp[e,e']
theorem YW{a b g:U}(a0:0≤a)(a1:a≤2880)(b0:0≤b)(b1:b≤2880):KJ a b g=O (Ec a b g):=by
 unfold KJ Nw Ec;by_cases h:b<a
 ·have h':¬a<b:=by omega
  simp only[h,h',if_true,if_false,show ¬b<0 by omega,decide_false,zC,Al (n:=a - b) (by omega) (by omega),zA,decide_eq_decide];omega
 ·simp only[h,if_false,show ¬a<0 by omega,decide_false,zC,zA,decide_eq_decide];by_cases h':a<b
  ·simp only[h',if_true,Al (n:=b - a) (by omega) (by omega)]; omega
  ·simp only[h',if_false,Al (n:=a - a) (by omega) (by omega)]; omega
theorem WR{a b g:U}(a0:0≤a)(a1:a≤2880)(b0:0≤b)(b1:b≤2880)(g0:0≤g)(g1:g≤60):K5 a b g=O (Ec a b g):=by
 unfold K5 Ec;rw[ET g0 (by omega)];by_cases h:b<a
 ·have h':¬a<b:=by omega
  simp only[h,h',if_true,if_false,ET (n:=a) (by omega) (by omega),ET (n:=b) (by omega) (by omega),ET (n:=a - b) (by omega) (by omega),zA,decide_eq_decide];omega
 ·by_cases h':a<b
  ·simp only[h,h',if_true,if_false,ET (n:=a) (by omega) (by omega),ET (n:=b) (by omega) (by omega),ET (n:=b - a) (by omega) (by omega),zA,decide_eq_decide];omega
  ·simp only[h,h',if_true,if_false,ET (n:=a) (by omega) (by omega),ET (n:=a - a) (by omega) (by omega),zA,decide_eq_decide];omega
theorem tJ{p q:X3}(hp:p.Start<p.End)(hq:q.Start<q.End):KC p q=O (Ed p q)∧JU p q=O (Ed p q):=by
 have:decide ((if p.Start<q.Start then q.Start else p.Start)<(if q.End<p.End then q.End else p.End))=Ed p q:=by
  unfold Ed;rw[decide_eq_decide];split<;>split<;>omega
 unfold KC JU;rw[this];exact⟨Y,Y⟩
theorem UL{c:X1}{fl:Q X4}{r:Xi}(hc:AN c=E)(hr:Jb r=E){p q:X3}(hp:C6 c fl p=E)(hq:C6 c fl q=E) :
  (∃n,N1 c r p q=O n∧(n !=0)=DU c r p q)∧∃n,M7 c r p q=O n∧(n !=0)=DU c r p q:=by
 obtain⟨_,p2,p3,p4,p5⟩:=DL hc hp;obtain⟨_,q2,q3,q4,q5⟩:=DL hc hq;have hn:=(Cb hc).2.2.1;have h10:=(Cb hc).2.1;have hr':=hr;simp only[Jb,zE,decide_eq_true_eq] at hr'
 obtain⟨o1,o2⟩:=tJ (Ot hc hp) (Ot hc hq);have n1:=YW (a:=p.Start) (b:=q.Start) (g:=r.Gap) (by omega) (by omega) (by omega) (by omega);have n2:=YW (a:=p.End) (b:=q.End) (g:=r.Gap) (by omega) (by omega) (by omega) (by omega);have m1:=WR (a:=p.Start) (b:=q.Start) (g:=r.Gap) (by omega) (by omega) (by omega) (by omega) hr'.1 hr'.2;have m2:=WR (a:=p.End) (b:=q.End) (g:=r.Gap) (by omega) (by omega) (by omega) (by omega) hr'.1 hr'.2;have hreg:Iz r=O E:=by simp only[Iz,BA,Z]; exact congrArg O hr
 unfold N1 M7 M8 M9 HN Ma DU;simp only[DP hn,hc,hreg,Z,if_true,CO _ (show c.Segments.length≤1000 by omega),p2,E6,o1,o2,n1,n2,m1,m2,(BI p2).1,Bool.not_true,zC,if_false];by_cases e1:p.Segment=q.Segment
 ·by_cases e2:p.Ship=q.Ship
  ·cases ho:Ed p q<;>simp[e1,e2]
  ·by_cases e3:p.Toward=q.Toward
   ·cases h1:Ec p.Start q.Start r.Gap<;>cases h2:Ec p.End q.End r.Gap<;>simp[e1,e2,e3];by_cases g1:p.Start<q.Start<;>by_cases g2:q.End<p.End<;>by_cases g3:q.Start<p.Start<;>by_cases g4:p.End<q.End<;>simp[g1,g2,g3,g4]<;>omega
   ·cases ho:Ed p q<;>cases hm:r.NoMeet<;>cases hs:(Ap c p.Segment).Meet<;>simp[e1,e2,e3]<;>simp_all
 ·simp[e1]
def Bs(c:X1)(r:Xi)(a b:Q X3):W:=a.any fun p=>b.any fun q=>DU c r p q
theorem gQ(c:X1)(r:Xi)(a b:Q X3):Bs c r a b=Bs c r b a:=by
 rw[Bool.eq_iff_iff];simp only[Bs,zR];constructor
 ·rintro⟨p,hp,q,hq,h⟩
  exact⟨q,hq,p,hp,by rw[UK]; exact h⟩
 ·rintro⟨p,hp,q,hq,h⟩
  exact⟨q,hq,p,hp,by rw[UK]; exact h⟩
theorem UE{c:X1}{fl:Q X4}{r:Xi}(hc:AN c=E)(hr:Jb r=E){a b:Q X3}(ha:∀p∈a,C6 c fl p=E)(hb:∀p∈b,C6 c fl p=E)(la:a.length≤maxLen)(lb:b.length≤maxLen) :
  N0 c r a b=O (Bs c r a b)∧M6 c r a b=O (Bs c r a b):=by
 have fin:∀x:W,(if x=E then O E else O G)=O x:=fun x=>by cases x<;>rfl
 constructor
 ·have:=EZ (L:=Fu b a c r) a (fun p=>b.any fun q=>DU c r p q) (O E) (O G) la (fun n i h=>by
   rw[Fu];simp only[Af,h,decide_true,if_true,Ah h,Z]
   exact EZ (L:=Ik b a (i:U) c r a[i] (Fu b a c r n)) b (fun q=>DU c r a[i] q) (O E) (Fu b a c r n (zX .i64 ((i:U)+1))) lb (fun m j hj=>by
    obtain⟨x,x1,x2⟩:=(UL hc hr (ha _ (zB h)) (hb _ (zB hj))).1;rw[Ik];simp only[Af,hj,decide_true,if_true,Ah hj,Z,x1,x2]) fun m=>by rw[Ik,if_neg (by simp)]) fun n=>by rw[Fu,if_neg (by simp)]
  unfold N0;rw[this,fin];rfl
 ·have:=EZ (L:=Fc b a c r) a (fun p=>b.any fun q=>DU c r p q) (O E) (O G) la (fun n i h=>by
   rw[Fc];simp only[Af,h,decide_true,if_true,Ah h,Z]
   exact EZ (L:=HM b a (i:U) c r a[i] (Fc b a c r n)) b (fun q=>DU c r a[i] q) (O E) (Fc b a c r n (zX .i64 ((i:U)+1))) lb (fun m j hj=>by
    obtain⟨x,x1,x2⟩:=(UL hc hr (ha _ (zB h)) (hb _ (zB hj))).2;rw[HM];simp only[Af,hj,decide_true,if_true,Ah hj,Z,x1,x2]) fun m=>by rw[HM,if_neg (by simp)]) fun n=>by rw[Fc,if_neg (by simp)]
  unfold M6;rw[this,fin];rfl
theorem XH{B C:X→X→W}{N M n m:X}(h:N≤M)(e:∀i j,i<N→j<N→B i j=C i j)(H:Cm B (2 ^ N - 1) n)(K:Cm C (2 ^ M - 1) m):n≤m:=by
 obtain⟨f,f1,f2⟩:=K.1
 have b:∀i,(2 ^ N - 1).testBit i=E→i<N∧(2 ^ M - 1).testBit i=E:=fun i hi=>by
  rw[zP,decide_eq_true_eq] at hi
  exact⟨hi,by rw[zP,decide_eq_true_eq]; omega⟩
 exact H.2 m ⟨f,fun i hi=>f1 i (b i hi).2,fun i j hi hj hne he=>by rw[e i j (b i hi).1 (b j hj).1]; exact f2 i j (b i hi).2 (b j hj).2 hne he⟩
theorem Uw{p:U}{m:Q U}{l k:Q Xb}{i j:X}(hi:i<l.length)(hj:j<l.length):B5 p m l i j=B5 p m (l++k) i j:=by
 unfold B5;rw[zD hi,zD hj]
theorem JF{p:U}{m:Q U}{l:Q Xb}(hm:m.length≤maxLen)(h1:l.length≤12)(h2:∀d∈l,Bk d=E)(h3:C4 p=E)(h4:EJ m=E) :
  ∃n:X,Cm (B5 p m l) (2 ^ l.length - 1) n∧(∃w,Ir p m l=O (w,(n:U),E))∧∀k:U,Gj p m l k=O (decide ((n:U)≤k)):=by
 obtain⟨n,w1,w2,n12,n1,e1,e2⟩:=eN hm (eW h1 h2 h3 h4);refine⟨n,n1,⟨w1,e1⟩,fun k=> ?_⟩;have hn:n≤l.length:=n1.2 _ (P9 (by have:=Nat.pow_pos (n:=l.length) (show 0<2 by omega); omega));unfold Gj;by_cases hk:(l.length:U)≤k
 ·have:(n:U)≤k:=by omega
  simp[hk,this]
 ·simp[hk,e2]
section
variable {c : X1} {fl : Q X4}
def BL(c:X1)(fl:Q X4)(all:Q X3):Q Xb:=all.flatMap fun p=>zW (AK fl p.Ship).Tugs.toNat (CK c p p)
def H9(l:Q Xb):Q Xb × W:=if l.length≤12 then(l,E) else([],G)
theorem ZB(hn:∀x∈c.Points,x.Name.length≤maxLen)(hf:∀x∈fl,x.Name.length≤maxLen)(hc:AN c=E)(hfl:DG fl=E){all:Q X3}(hl:all.length≤maxLen)(hp:∀p∈all,C6 c fl p=E) :
  PQ c fl all=O (H9 (BL c fl all))∧Mh c fl all=O (H9 (BL c fl all)):=by
 refine BN (fun n i=>∀acc:Q Xb,acc.length≤12→FE fl all c n (i:U) acc=O (H9 (acc++BL c fl (all.drop i)))∧Fg fl all c n (i:U) acc=O (H9 (acc++BL c fl (all.drop i)))) hl
  (fun n acc ha=>by simp[FE,Fg,BL,H9,ha]) (fun n i h ih acc ha=> ?_) (zF _) [] (by simp)
 have hpi:=hp _ (zB h);obtain⟨f1,f2,f3,f4,f5⟩:=DL hc hpi;obtain⟨s1,s2⟩:=EC f1;have hso:=(IT hfl).2 _ s2
 have hT:0≤(AK fl all[i].Ship).Tugs∧(AK fl all[i].Ship).Tugs≤4:=by
  simp only[Ci,zE,decide_eq_true_eq] at hso
  omega
 have hTe:(AK fl all[i].Ship).Tugs=((AK fl all[i].Ship).Tugs.toNat:U):=by omega
 have hd:BL c fl (all.drop i)=zW (AK fl all[i].Ship).Tugs.toNat (CK c all[i] all[i])++BL c fl (all.drop (i+1)):=by
  rw[zI h]; rfl
 rw[FE,Fg,hd];simp only[Af,h,decide_true,if_true,Ah h,Z,YR hn hf hc hfl,pU hn hf hc hfl,hpi,OB f2,s1];generalize (AK fl all[i].Ship).Tugs.toNat=T at *
 have g1:=wh (c:=c) (p:=all[i]) s1 f2 all (i:U) (FE fl all c n) hTe (by omega) T 0 bigN acc (by omega) (by rw[Ca]; omega) (by omega);have g2:=wg (c:=c) (fl:=fl) (p:=all[i]) f2 all (i:U) (Fg fl all c n) hTe (by omega) T 0 bigN acc (by omega) (by rw[Ca]; omega) (by omega);have g1:GL fl (Cw c all[i]) all (i:U) c all[i] (FE fl all c n) bigN 0 acc=_:=g1;have g2:Gq fl all (i:U) (AK fl all[i].Ship) c all[i] (Fg fl all c n) bigN 0 acc=_:=g2;rw[g1,g2,← zQ,Av h hl];generalize acc++zW T (CK c all[i] all[i])=ac2 at ih ⊢
 by_cases h12:(12:U)<(ac2.length:U)
 ·have:¬ac2.length+(BL c fl (all.drop (i+1))).length≤12:=by omega
  simp[h12,H9,this]
 ·simp only[h12,decide_false,zC,if_false];exact ih ac2 (by omega)
theorem Td(hc:AN c=E){all:Q X3}(hp:∀p∈all,C6 c fl p=E):∀d∈BL c fl all,Bk d=E:=fun d hd=>by
 obtain⟨p,hpm,hd⟩:=List.mem_flatMap.1 hd;rw[(List.mem_replicate.1 hd).2];have:=DL hc (hp p hpm);exact US hc this.2.1 this.2.1 this.2.2.1 (Ot hc (hp p hpm)) this.2.2.2.2
def Ey(l:Q X3):X3:=l.head?.getD ⟨0,0,G,0,0⟩
def GV(l:Q X3):X3:=l.getLast?.getD ⟨0,0,G,0,0⟩
def BO(c:X1)(pl:Q X0):Q Xb:=pl.map fun o=>CK c (Ey o.Passages) (GV o.Passages)
theorem RE{l:Q X3}(h:l≠ []):l.head?=O (Ey l)∧l.getLast?=O (GV l):=by
 cases l with
 | nil=>exact absurd rfl h
 | cons a l=>
  refine⟨Y,?_⟩;unfold GV;cases e:(a::l).getLast? with
  | none=>rw[List.getLast?_eq_none_iff] at e; cases e
  | some x=>rfl
theorem GoodP.duty{l:Q X3}(hc:AN c=E)(H:GoodP c fl l):C6 c fl (Ey l)=E∧C6 c fl (GV l)=E∧Bk (CK c (Ey l) (GV l))=E:=by
 obtain⟨e1,e2⟩:=RE H.ne;have i1:=H.inn _ (List.mem_of_head? e1);have i2:=H.inn _ (List.mem_of_getLast? e2);have f1:=DL hc i1;have f2:=DL hc i2;have hpos:=zG.2 H.ne
 have hlt:∀j (h:j<l.length),(l[0]'hpos).Start<l[j].End:=by
  intro j
  induction j with
  | zero=>intro h; exact Ot hc (H.inn _ (zB h))
  | succ j ih=>
   intro h;have g1:=ih (by omega);have g2:=(H.link j h).2;have g3:=Ot hc (H.inn _ (zB h));omega
 have s1:l[0]'hpos=Ey l:=by rw[zL,I hpos] at e1; exact Option.some.inj e1
 have s2:l[l.length - 1]'(by omega)=GV l:=by rw[zK,I (by omega)] at e2; exact Option.some.inj e2
 have:=hlt (l.length - 1) (by omega);rw[s1,s2] at this
 exact⟨i1,i2,US hc f1.2.1 f2.2.1 f1.2.2.1 this f2.2.2.2.2⟩
theorem tU(hn:∀x∈c.Points,x.Name.length≤maxLen)(hf:∀x∈fl,x.Name.length≤maxLen)(hc:AN c=E)(hfl:DG fl=E){l:Q X3}(hl:l.length≤100000000)(H:GoodP c fl l):Nf c fl l=O (CK c (Ey l) (GV l),E):=by
 have hlm:l.length≤maxLen:=Aq (by omega);have hpos:=zG.2 H.ne;have h10:=(Cb hc).2.1;obtain⟨e1,e2⟩:=RE H.ne;obtain⟨i1,i2,_⟩:=H.duty hc;have h00:ix l (0:U)=O (Ey l):=by have:=Ak l 0; rw[← zL,e1] at this; exact this
 obtain⟨sh,hsh⟩:=H.ship
 have chain:N6 c l=O E:=by
  unfold N6;rw[DP hn,hc,Z,if_pos rfl];refine BN (fun n i=>Gx l c n (i:U)=O E) hlm (fun n=>by simp[Gx]) (fun n i h ih=> ?_) (zF _);have hs:=(DL hc (H.inn _ (zB h))).2.1;have hq:(l[i].Ship !=(Ey l).Ship)=G:=by rw[hsh _ (zB h),hsh _ (List.mem_of_head? e1)]; simp
  rw[Gx];simp only[Af,h,decide_true,if_true,Ah h,h00,Z,hq,zC,if_false,CO _ (show c.Segments.length≤1000 by omega),hs,Av h hlm,ih];cases i with
  | zero=>rfl
  | succ i=>
   have hz:(((i+1:X):U)==(0:U))=G:=beq_eq_false_iff_ne.2 (by omega)
   have ew:zX .i64 (((i+1:X):U) - 1)=(i:U):=by
    rw[show((i+1:X):U) - 1=(i:U) by omega];exact Al (by omega) (by omega)
   have hi:i<l.length:=by omega
   have hs':=(DL hc (H.inn _ (zB hi))).2.1;obtain⟨k1,k2⟩:=H.link i h;have hx:¬l[i+1].Start<l[i].End:=by omega
   simp only[hz,zC,if_false,OB hs,ew,Ah hi,Z,OB hs',k1,bne_self_eq_false,hx,decide_false]
 unfold Nf Ng;have hz:((l.length:U)==(0:U))=G:=beq_eq_false_iff_ne.2 (by omega);simp only[hz,zC,if_false,chain,Z,Bool.not_true];refine BN (fun n i=>Ix fl l c n (i:U)=O (CK c (Ey l) (GV l),E)) hlm (fun n=> ?_) (fun n i h ih=> ?_) (zF _)
 ·have s1:=(DL hc i1).2.1;have s2:=(DL hc i2).2.1;rw[Ix,if_neg (by simp),J0 hlm e2,Z,h00,Z,OB s1,Z,OB s2,Z];rfl
 ·rw[Ix];simp only[Af,h,decide_true,if_true,Ah h,Z,YR hn hf hc hfl,H.inn _ (zB h),Av h hlm,ih]
end
def BE(pl:Q X0):Q X3:=(BB pl).flatten
def FitP(h:X6)(pl:Q X0):Prop:=
 (BL h.Chart h.Fleet (BE pl)).length≤12∧(∃n:X,Cm (B5 0 h.Crew.Moves (BL h.Chart h.Fleet (BE pl))) (2 ^ (BL h.Chart h.Fleet (BE pl)).length - 1) n∧(n:U)≤h.Crew.Tugs)∧
  ∃n:X,Cm (B5 h.Crew.Rest h.Crew.Moves (BO h.Chart pl)) (2 ^ (BO h.Chart pl).length - 1) n∧(n:U)≤h.Crew.Pilots
theorem XI{B:X→X→W}{S n m:X}(H:Cm B S n)(K:Cm B S m):n=m:=Nat.le_antisymm (H.2 _ K.1) (K.2 _ H.1)
def DS(h:X6)(pl:Q X0):Prop:=∀o∈pl,GoodP h.Chart h.Fleet o.Passages∧o.Passages.length≤1048576
theorem NG{h:X6}{pl:Q X0}(H:DS h pl):∀p∈BE pl,C6 h.Chart h.Fleet p=E:=fun p hp=>by
 obtain⟨l,hl,hp⟩:=List.mem_flatten.1 hp;obtain⟨o,ho,rfl⟩:=zT.1 hl;exact(H o ho).1.inn p hp
theorem SV{h:X6}{pl:Q X0}(hc:AN h.Chart=E)(H:DS h pl):∀d∈BO h.Chart pl,Bk d=E:=fun d hd=>by
 obtain⟨o,ho,rfl⟩:=zT.1 hd;exact((H o ho).1.duty hc).2.2
theorem FitP.app{h:X6}{pl ql:Q X0}(hh:B4 h=E)(s:HSmall h)(H:DS h (pl++ql))(hl:pl.length≤12)(F:FitP h (pl++ql)):FitP h pl:=by
 obtain⟨_,hc,_,_,hw⟩:=EA hh;obtain⟨m1,m2⟩:=Rx hw;have Hp:DS h pl:=fun o ho=>H o (List.mem_append_left _ ho)
 have et:BL h.Chart h.Fleet (BE (pl++ql))=BL h.Chart h.Fleet (BE pl)++BL h.Chart h.Fleet (BE ql):=by simp[BE,BB,BL,List.flatMap_append]
 have ep:BO h.Chart (pl++ql)=BO h.Chart pl++BO h.Chart ql:=by simp[BO]
 obtain⟨f1,⟨n,f2,f3⟩,m,f4,f5⟩:=F;rw[et] at f1 f2
 rw[ep] at f4
 have l1:(BL h.Chart h.Fleet (BE pl)).length≤12:=by rw[List.length_append] at f1; omega
 obtain⟨n',k1,_,_⟩:=JF (p:=0) s.mv l1 (Td hc (NG Hp)) (by decide) m2;obtain⟨m',k2,_,_⟩:=JF (p:=h.Crew.Rest) s.mv (l:=BO h.Chart pl) (by simpa[BO] using hl) (SV hc Hp) m1 m2;have q1:=XH (by simp) (fun i j hi hj=>Uw hi hj) k1 f2;have q2:=XH (by simp) (fun i j hi hj=>Uw hi hj) k2 f4;exact⟨l1,⟨n',k1,by omega⟩,m',k2,by omega⟩
theorem FitP.iff{h:X6}{pl:Q X0}{n m:X}(h12:(BL h.Chart h.Fleet (BE pl)).length≤12)(k1:Cm (B5 0 h.Crew.Moves (BL h.Chart h.Fleet (BE pl))) (2 ^ (BL h.Chart h.Fleet (BE pl)).length - 1) n)(k4:Cm (B5 h.Crew.Rest h.Crew.Moves (BO h.Chart pl)) (2 ^ (BO h.Chart pl).length - 1) m) :
  (n:U)≤h.Crew.Tugs∧(m:U)≤h.Crew.Pilots↔FitP h pl:=by
 constructor
 ·rintro⟨a,b⟩
  exact⟨h12,⟨n,k1,a⟩,m,k4,b⟩
 ·rintro⟨_,⟨n',a1,a2⟩,m',b1,b2⟩
  rw[XI k1 a1,XI k4 b1];exact⟨a2,b2⟩
theorem Ve{h:X6}{pl:Q X0}(hl:pl.length≤12)(H:DS h pl):(BE pl).length≤1000000000000:=by
 have:∀(ql:Q X0),(∀o∈ql,o.Passages.length≤1048576)→(BE ql).length≤ql.length*1048576:=by
  intro ql
  induction ql with
  | nil=>intro _; simp[BE,BB]
  | cons o ql ih=>
   intro h;have h1:=ih fun x hx=>h x (zN _ hx)
   have h2:=h o (zO ..);have e:BE (o::ql)=o.Passages++BE ql:=rfl;rw[e,List.length_append,List.length_cons];omega
 have:=this pl fun o ho=>(H o ho).2
 omega
theorem UR{h:X6}(s:HSmall h)(hh:B4 h=E){pl:Q X0}(hl:pl.length≤12)(H:DS h pl):∃b,DB h pl=O b∧(b=E↔FitP h pl):=by
 obtain⟨_,hc,hfl,_,hw⟩:=EA hh;obtain⟨m1,m2⟩:=Rx hw;have hlm:pl.length≤maxLen:=Aq (by omega)
 have key:=BN (fun n i=>∀v2 v3,v2.length≤i*1048576→v3.length=i→Gk pl h n (i:U) v2 v3=(Mh h.Chart h.Fleet (v2++BE (pl.drop i))).bind fun r12=>
   if r12.2 then(Gj 0 h.Crew.Moves r12.1 h.Crew.Tugs).bind fun r14=>if r14 then(Gj h.Crew.Rest h.Crew.Moves (v3++BO h.Chart (pl.drop i)) h.Crew.Pilots).bind fun r16=>O r16 else O G else O G) hlm
  (fun n v2 v3 h1 h2=>by rw[Gk,if_neg (by simp)]; simp[BE,BB,BO]) (fun n i hi ih v2 v3 h1 h2=> ?_) (zF _) [] [] (by simp) rfl
 ·have key:DB h pl=_:=key;rw[key,zV,zU,zU,(ZB s.pn s.fn hc hfl (Aq (Ve hl H)) (NG H)).2,Z];unfold H9;by_cases h12:(BL h.Chart h.Fleet (BE pl)).length≤12
  ·obtain⟨n,k1,_,k3⟩:=JF (p:=0) s.mv h12 (Td hc (NG H)) (by decide) m2;obtain⟨m,k4,_,k6⟩:=JF (p:=h.Crew.Rest) s.mv (l:=BO h.Chart pl) (by simpa[BO] using hl) (SV hc H) m1 m2;simp only[h12,if_true,k3,k6,Z];refine⟨decide ((n:U)≤h.Crew.Tugs)&&decide ((m:U)≤h.Crew.Pilots),by by_cases q:(n:U)≤h.Crew.Tugs<;>simp[q],?_⟩;simp only[zE,decide_eq_true_eq];exact FitP.iff h12 k1 k4
  ·simp only[h12,if_false];exact⟨G,Y,⟨(fun h=>by cases h),fun F=>absurd F.1 h12⟩⟩
 ·obtain⟨g1,g2⟩:=H _ (zB hi);obtain⟨e1,e2⟩:=RE g1.ne;obtain⟨i1,i2,_⟩:=g1.duty hc;have hz:(0:U)<(pl[i].Passages.length:U):=by have:=zG.2 g1.ne; omega
  have h00:ix pl[i].Passages (0:U)=O (Ey pl[i].Passages):=by have:=Ak pl[i].Passages 0; rw[← zL,e1] at this; exact this
  rw[Gk];simp only[Af,hi,decide_true,if_true,Ah hi,Z,hz,h00,J0 (Aq (by omega)) e2,WN (DL hc i1).2.1 (DL hc i2).2.1];rw[if_pos (P4 (by omega) (by omega)),if_pos (B2 (by omega) (by simp) (by omega)),Av hi hlm,ih _ _ (by simp; omega) (by simp; omega)];simp only[zI hi,BE,BB,BO,List.map_cons,List.flatten_cons,zQ,List.singleton_append]
theorem vD{h:X6}(s:HSmall h)(hh:B4 h=E){pl:Q X0}(hl:pl.length≤12)(H:DS h pl):∃b,Im h.Crew h.Chart h.Fleet (BB pl)=O b∧(b=E↔FitP h pl):=by
 obtain⟨_,hc,hfl,_,hw⟩:=EA hh;obtain⟨m1,m2⟩:=Rx hw;have hlm:pl.length≤maxLen:=Aq (by omega);obtain⟨m,k4,⟨w4,k5⟩,_⟩:=JF (p:=h.Crew.Rest) s.mv (l:=BO h.Chart pl) (by simpa[BO] using hl) (SV hc H) m1 m2
 have pil:Nh h.Crew h.Chart h.Fleet (BB pl)=O (m:U):=by
  unfold Nh;rw[T1 s.mv,hw,Z,if_pos rfl];have hcl:(BB pl).length=pl.length:=by simp[BB]
  refine BN (fun n i=>∀v,v.length=i→v++BO h.Chart (pl.drop i)=BO h.Chart pl→Gz h.Fleet (BB pl) h.Crew h.Chart n (i:U) v=O (m:U)) hlm (fun n v h1 h2=> ?_) (fun n i hi ih v h1 h2=> ?_) (zF _) [] rfl (by simp)
  ·rw[Gz,if_neg (by rw[hcl]; simp)];have:v=BO h.Chart pl:=by simpa[BO] using h2
   rw[this,k5];rfl
  ·obtain⟨g1,g2⟩:=H _ (zB hi);have hi':i<(BB pl).length:=by omega
   have hg:(BB pl)[i]=pl[i].Passages:=by simp[BB]
   have hz:((pl[i].Passages.length:U)==(0:U))=G:=beq_eq_false_iff_ne.2 (by have:=zG.2 g1.ne; omega);rw[Gz];simp only[Af,hi',decide_true,if_true,Ah hi',hg,Z,hz,zC,if_false,tU s.pn s.fn hc hfl (by omega) g1];rw[if_pos (B2 (by omega) (by simp) (by omega)),Av hi hlm];exact ih _ (by simp; omega) (by rw[← h2,zI hi,zQ]; rfl)
 have hT:∃t:U,KE h.Crew h.Chart h.Fleet (BE pl)=O t∧((0≤t∧t≤h.Crew.Tugs)∧(m:U)≤h.Crew.Pilots↔FitP h pl):=by
  unfold KE;rw[(ZB s.pn s.fn hc hfl (Aq (Ve hl H)) (NG H)).1,Z,T1 s.mv,hw,Z,if_pos rfl];unfold H9;by_cases h12:(BL h.Chart h.Fleet (BE pl)).length≤12
  ·obtain⟨n,k1,⟨w1,k2⟩,_⟩:=JF (p:=0) s.mv h12 (Td hc (NG H)) (by decide) m2;simp only[h12,if_true,k2,Z];exact⟨n,rfl,by rw[← FitP.iff h12 k1 k4]; constructor<;>(rintro⟨a,b⟩; exact⟨by omega,b⟩)⟩
  ·simp only[h12,if_false];exact⟨-1,Y,⟨(fun h=>by omega),fun F=>absurd F.1 h12⟩⟩
 obtain⟨t,t1,t2⟩:=hT
 have:=(mG (L:=In h.Fleet (BB pl) h.Crew h.Chart) (BB pl) (O ((decide (0≤t)&&decide (t≤h.Crew.Tugs))&&decide ((m:U)≤h.Crew.Pilots))) (by simp[BB]; omega) (fun x hx=>by
  obtain⟨o,ho,rfl⟩:=zT.1 hx
  exact(H o ho).2) (fun n i acc hi ha=>by
   have:(BB pl)[i].length≤1048576:=by
    obtain⟨o,ho,e⟩:=zT.1 (zB hi);rw[← e]; exact(H o ho).2
   have hcl:(BB pl).length=pl.length:=by simp[BB]
   rw[In];simp only[Af,hi,decide_true,if_true,Ah hi,Z]
   rw[if_pos (P4 (by omega) (by omega))]) fun n=>by
    rw[In,if_neg (by simp)];have t1:KE h.Crew h.Chart h.Fleet (BB pl).flatten=O t:=t1;rw[t1,Z,BA,Z,pil,Z,BA];cases decide (0≤t)&&decide (t≤h.Crew.Tugs)<;>simp).1
 refine⟨_,this,?_⟩;rw[← t2];simp only[zE,decide_eq_true_eq]
theorem gS{l:Q X0}(h:l.length≤1000):Ep l=O l:=by
 unfold Ep Bq;rw[if_pos ⟨by omega,by omega,by omega,by omega⟩];simp only[Z,Int.toNat_zero,List.replicate_zero,zU];rw[if_pos (by simp only[A3,List.length_nil,decide_eq_true_eq]; omega)]
def R4(h:X6)(l:Q X0)(o:X0):Prop:=∀x∈l,Bs h.Chart h.Regime x.Passages o.Passages=G
theorem mE{h:X6}(s:HSmall h)(hh:B4 h=E){l:Q X0}{o:X0}(hl:l.length≤11)(H:DS h (l++ [o])):∃b,Mc h l o=O b∧(b=E↔R4 h l o∧FitP h (l++ [o])):=by
 obtain⟨_,hc,_,hr,_⟩:=EA hh;obtain⟨b,b1,b2⟩:=UR s hh (pl:=l++ [o]) (by simp; omega) H;have Ho:=H o (by simp)
 have e:=EZ (L:=HP l h o) l (fun x=>Bs h.Chart h.Regime x.Passages o.Passages) (O G) (O b) (Aq (by omega)) (fun n i hi=>by
  have Hi:=H l[i] (List.mem_append_left _ (zB hi));rw[HP]
  simp only[Af,hi,decide_true,if_true,Ah hi,Z,(UE hc hr Hi.1.inn Ho.1.inn (Aq (by omega)) (Aq (by omega))).2]) fun n=>by
   rw[HP,if_neg (by simp),gS (by omega),Z,if_pos (B2 (by omega) (by simp) (by omega)),b1];rfl
 have e:Mc h l o=_:=e;rw[e];cases ha:l.any fun x=>Bs h.Chart h.Regime x.Passages o.Passages with
 | true=>
  obtain⟨x,x1,x2⟩:=zR.1 ha;exact⟨G,Y,(fun h=>by cases h),fun K=>by rw[K.1 x x1] at x2; cases x2⟩
 | false=>
  refine⟨b,Y,b2.trans ⟨fun F=>⟨fun x hx=> ?_,F⟩,fun K=>K.2⟩⟩;have:=List.any_eq_false.1 ha x hx;simpa using this
theorem FitP.nil{h:X6}(hh:B4 h=E):FitP h []:=by
 have hw:=(EA hh).2.2.2.2;simp only[F3,zE,decide_eq_true_eq] at hw
 exact⟨by simp[BL,BE,BB],⟨0,SB,hw.1.1⟩,0,SB,hw.2.1.1⟩
theorem sH:Bq (4:U) (4:U) 8=O 4:=Ea (n:=4) (by omega) (by omega)
theorem eS{h:X6}(hh:B4 h=E){cs:Q Xa}{pl:Q X0}(hl:pl.length≤12)(hlen:pl.length=cs.length)(hcs:∀a∈cs,BZ h a=E) :
  ∃r,IN h cs pl=O r∧HJ h cs pl=O r∧r.Waits.length=4∧r.Calls.length=4:=by
 unfold IN HJ;simp only[sH,Z];have hlm:pl.length≤maxLen:=Aq (by omega)
 refine BN (fun n i=>∀v w:Q U,v.length=4→w.length=4→∃r,IP pl cs h n (i:U) v w=O r∧Eo cs pl h n (i:U) v w=O r∧r.Waits.length=4∧r.Calls.length=4) hlm
  (fun n v w h1 h2=>⟨⟨v,w⟩,by rw[IP,if_neg (by rw[hlen]; simp)],by rw[Eo,if_neg (by simp)],h1,h2⟩) (fun n i hi ih v w h1 h2=> ?_) (zF _) _ _ (by simp) (by simp)
 have hi':i<cs.length:=by omega
 have ha:=hcs _ (zB hi');simp only[BZ,zE] at ha
 obtain⟨s1,s2⟩:=EC ha.1;have hso:=(IT (EA hh).2.2.1).2 _ s2
 have hL:idx (AK h.Fleet cs[i].Ship).Line 4=E:=by
  simp only[Ci,zE,decide_eq_true_eq] at hso
  exact IV.2 (by omega)
 rw[IP,Eo];simp only[Af,hi,hi',decide_true,if_true,Ah hi,Ah hi',Z,s1,(KZ (l:=v) (0:U) (by rw[h1]; exact hL)).1,(KZ (l:=w) (0:U) (by rw[h2]; exact hL)).1,Av hi hlm];exact ih _ _ (by simp[h1]) (by simp[h2])
end Go.Vi
