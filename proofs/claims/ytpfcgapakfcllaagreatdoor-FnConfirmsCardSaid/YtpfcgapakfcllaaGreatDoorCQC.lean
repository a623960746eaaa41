/-
Plain laws of a drawn number. No condition.
-/
import Derived.Test.YtpfcgapakfcllaaGreatDoorCVi33
import Derived.Test.YtpfcgapakfcllaaGreatDoorCNf
import Derived.KernelRfl
namespace Go.Vi
set_option linter.all false
open Option renaming bind_some → Q, some → E
open List renaming range → U
open Bool renaming and_eq_true → V, false_eq_true → W, true → T, false → F
open IntKind renaming wrap → X
open _root_ renaming List → G, Int → L, Nat → N, UInt8 → O
theorem T3{n:N}(h:n≤1000):n≤maxLen:=by rw[Lv]; omega
theorem sn{n:N}(h:0<n):∃q,n=q+1:=⟨n - 1,by omega⟩
structure CurOk (c:Xn):Prop where
 i0:0≤c.i
 i1:c.i≤(c.b.length:L)
 len:c.b.length≤maxLen
theorem J7(x:L):0≤AH .and .i64 x 255∧AH .and .i64 x 255≤255:=by
 have h:(BitVec.ofInt IntKind.i64.bits x &&& BitVec.ofInt IntKind.i64.bits 255).toNat≤255:=by
  rw[BitVec.toNat_and];exact Nat.le_trans Nat.and_le_right (by decide)
 have e:AH .and .i64 x 255=((BitVec.ofInt IntKind.i64.bits x &&& BitVec.ofInt IntKind.i64.bits 255).toNat:L):=by
  unfold AH;exact E1 (by omega) (by omega)
 rw[e];omega
theorem Mj{c:Xn}(h:CurOk c):∃v c',Ed c=E (v,c')∧CurOk c'∧0≤v∧v≤255:=by
 unfold Ed;have hl:=h.len;rw[Lv] at hl
 by_cases hlt:c.i<(c.b.length:L)
 ·obtain⟨i,hi⟩:∃i:N,c.i=(i:L):=⟨c.i.toNat,by have:=h.i0; omega⟩;have h2:i<c.b.length:=by omega
  simp only[hlt,decide_true,if_true];rw[hi,RZ h2];simp only[Q];refine⟨_,_,rfl,⟨?_,?_,h.len⟩,(J7 _).1,(J7 _).2⟩
  ·show 0≤X .i64 ((i:L)+1)
   rw[E1 (by omega) (by omega)]; omega
  ·show X .i64 ((i:L)+1)≤(c.b.length:L)
   rw[E1 (by omega) (by omega)]; omega
 ·simp only[hlt,decide_false,W,if_false];exact⟨_,_,rfl,⟨h.i0,h.i1,h.len⟩,(J7 _).1,(J7 _).2⟩
theorem iv{a:G L}(ha:a.length≤maxLen):∃c,I6 a=E c∧CurOk c:=by
 unfold I6
 have key:∀(k i n:N) (v:L),i+k=a.length→k<n→∃c,EW a n v (i:L)=E c∧CurOk c:=by
  intro k
  induction k with
  | zero=>
   intro i n v hi hn;obtain⟨m,rfl⟩:=sn (n:=n) (by omega);have:i=a.length:=by omega
   subst this;exact⟨_,by simp[EW,Gi]; rfl,⟨by simp,by simp,ha⟩⟩
  | succ k ih=>
   intro i n v hi hn;obtain⟨m,rfl⟩:=sn (n:=n) (by omega);have hlt:i<a.length:=by omega
   simp only[EW,Q6,hlt,decide_true,if_true,RZ hlt,Q,Ua hlt ha];by_cases h4:(i:L)<4000
   ·simp only[h4,decide_true,if_true];exact ih (i+1) m _ (by omega) (by omega)
   ·simp only[h4,decide_false,W,if_false,Gi];exact⟨_,rfl,⟨by simp,by simp,ha⟩⟩
 exact key a.length 0 bigN _ (by omega) (Sa ha)
theorem lg{k:N}(hk:k≤1000):∀(j i n:N) (c:Xn),i+j=k→j<n→CurOk c→∃c',EX (k:L) n (i:L) c.b c.i c.h=E c'∧CurOk c':=by
 intro j
 induction j with
 | zero=>
  intro i n c hi hn hc;obtain⟨m,rfl⟩:=sn (n:=n) (by omega);have:i=k:=by omega
  subst this;refine⟨c,?_,hc⟩;rw[EX];simp only[Int.lt_irrefl,decide_false,W,if_false]
 | succ j ih=>
  intro i n c hi hn hc;obtain⟨m,rfl⟩:=sn (n:=n) (by omega);have hlt:i<k:=by omega
  obtain⟨v,c',e,h1,_,_⟩:=Mj hc;have e':Ed ⟨c.b,c.i,c.h⟩=E (v,c'):=e;rw[EX];simp only[Q6,hlt,decide_true,if_true,e',Q];rw[Ua hlt (T3 hk)];exact ih (i+1) m c' (by omega) (by omega) h1
theorem lh{a:G L}{k:N}(hk:k≤1000)(ha:a.length≤maxLen):∃c,Gj a (k:L)=E c∧CurOk c:=by
 unfold Gj;obtain⟨c,e,hc⟩:=iv ha;have H:=lg hk k 0 bigN c (by omega) (Sa (T3 hk)) hc;rw[show((0:N):L)=0 from rfl] at H
 rw[e];simpa only[Q] using H
theorem iR{a:G L}(ha:a.length≤maxLen):∃r,I5 a 1=E r∧0≤r∧r≤65535:=by
 obtain⟨c,e,hc⟩:=lh (k:=1) (by omega) ha;obtain⟨v1,c1,e1,h1,p1,q1⟩:=Mj hc;obtain⟨v2,c2,e2,h2,p2,q2⟩:=Mj h1;have e:Gj a 1=E c:=e;refine⟨v1*256+v2,?_,by omega,by omega⟩;unfold I5;simp only[e,e1,e2,Q];rw[E1 (n:=v1*256) (by omega) (by omega),E1 (by omega) (by omega)]
open Go.Lib
def Sn:G L:=List.replicate 64 0
def B7(m:L):Xh:=⟨⟨m,[]⟩,[⟨0,0,0⟩]⟩
def AJ(k:L):X5:=⟨[⟨[97],T⟩,⟨[98],T⟩],[⟨0,1,1000,k,F⟩]⟩
def s1:X8:=⟨[115,49],100,800,0,1,F⟩
def Ao(m k:L):X2:=⟨B7 m,AJ k,[s1],⟨10,F⟩,⟨2,2,30,Sn⟩⟩
def callK:X4:=⟨0,0,1,15,60⟩
def AX(m k:L):X9:=⟨Ao m k,[callK],⟨0,[-1],[F]⟩⟩
def D5(c:X5)(f:G X8):X9:=⟨⟨B7 0,c,f,⟨10,F⟩,⟨2,2,30,Sn⟩⟩,[],⟨0,[],[]⟩⟩
def CY:G O:= [111,107]
theorem iu:JV=E (D5 ⟨[],[]⟩ []):=by kernel_rfl
theorem ly:Bi (D5 ⟨[],[]⟩ []) [112,111,105,110,116,32,97,32,119,97,105,116]=E (D5 ⟨[⟨[97],T⟩],[]⟩ [],CY):=by kernel_rfl
theorem lz:Bi (D5 ⟨[⟨[97],T⟩],[]⟩ []) [112,111,105,110,116,32,98,32,119,97,105,116]=E (D5 ⟨[⟨[97],T⟩,⟨[98],T⟩],[]⟩ [],CY):=by kernel_rfl
def Cw(k:N):G O:=if k<100 then [UInt8.ofNat (48+k / 10),UInt8.ofNat (48+k % 10)] else [49,UInt8.ofNat (48+(k - 100) / 10),UInt8.ofNat (48+k % 10)]
theorem mA:(U 100).all (fun i=>decide (Bi (D5 ⟨[⟨[97],T⟩,⟨[98],T⟩],[]⟩ []) ([99,104,97,110,110,101,108,32,97,32,98,32,49,48,48,48,32]++Cw (i+10))=E (D5 (AJ ((i:L)+10)) [],CY)))=T:=by kernel_rfl
theorem mB:(U 100).all (fun i=>decide (Bi (D5 (AJ ((i:L)+10)) []) [115,104,105,112,32,115,49,32,49,48,48,32,56,48,48,32,48,32,49]=E (D5 (AJ ((i:L)+10)) [s1],CY)))=T:=by kernel_rfl
theorem mC:(U 100).all (fun i=>decide (Bi (D5 (AJ ((i:L)+10)) [s1]) [99,97,108,108,32,115,49,32,97,32,98,32,49,53,32,54,48]=E (AX 0 ((i:L)+10),CY)))=T:=by kernel_rfl
theorem mD:(U 100).all (fun i=>decide (Bi (AX 0 ((i:L)+10)) [109,101,97,110,32,45,49,50,48]=E (AX (-120) ((i:L)+10),CY)))=T:=by kernel_rfl
open Go.Lib
theorem C8{P:N→Bool}(h:(U 100).all P=T){i:N}(hi:i<100):P i=T:=List.all_eq_true.1 h i (List.mem_range.2 hi)
theorem AE{α:Type} [DecidableEq α]{x y:N→α}(h:(U 100).all (fun i=>decide (x i=y i))=T){i:N}(hi:i<100):x i=y i:=of_decide_eq_true (C8 h hi)
abbrev kk(i:N):L:=(i:L)+10
theorem bS:∃q,bigN=q+3:=⟨1208925819614629174706173,by rw[Mf]⟩
theorem hU(m z:L):HE ⟨m,[]⟩ z=E m:=by
 obtain⟨q,e⟩:=bS;unfold HE;rw[e,HF];simp
theorem lv(m z:L):Hj (B7 m) z=E 0:=by
 obtain⟨q,e⟩:=bS;unfold Hj;rw[e,EK];have hw:X .i64 (0+1)=1:=by decide
 simp only[B7,List.length_singleton,show((1:N):L)=1 from rfl,show decide ((0:L)<1)=T from rfl,if_true,ix,List.getElem?_cons_zero,Int.toNat_zero,Q,show(0:L)≤0 from Int.le_refl 0,hw];split<;>(rw[EK]; simp)
theorem S9(m need z:L)(hm:X .i64 (m+0)=m):EM z (B7 m) need=E (decide (need≤m)):=by
 have h1:=hU m z;have h2:=lv m z;unfold EM JK;rw[show(B7 m).Tide=⟨m,[]⟩ from rfl,h1,Q,h2];simp only[Q,B7,ix,List.getElem?_cons_zero,Int.toNat_zero,if_true,show(0:L)≤0 from Int.le_refl 0,hm]
theorem pG:I4 (fun _=>E T)=E [⟨0,2880⟩]:=by kernel_rfl
theorem pH:I4 (fun _=>E F)=E []:=by kernel_rfl
theorem iN:EL (B7 0) (-110)=E [⟨0,2880⟩]:=by
 unfold EL;rw[show Cj (B7 0)=E T by kernel_rfl,Q,if_pos rfl,show(fun z0=>EM z0 (B7 0) (-110))=fun _=>E T from funext fun z=>by rw[S9 0 (-110) z (by decide)]; rfl,pG];rfl
theorem iO:EL (B7 (-120)) (-110)=E []:=by
 unfold EL;rw[show Cj (B7 (-120))=E T by kernel_rfl,Q,if_pos rfl,show(fun z0=>EM z0 (B7 (-120)) (-110))=fun _=>E F from funext fun z=>by rw[S9 (-120) (-110) z (by decide)]; rfl,pH];rfl
theorem Qb:(U 100).all (fun i=>decide (HX (AJ (kk i)) 0 s1=E T))=T:=by kernel_rfl
theorem Qc:(U 100).all (fun i=>decide (JR (AJ (kk i)) 0 s1=E (-110)))=T:=by kernel_rfl
theorem Qd:(U 100).all (fun i=>decide (JU (AJ (kk i)) 0 s1=E (kk i)))=T:=by kernel_rfl
theorem ba:(U 100).all (fun i=>decide (HA [⟨0,2880⟩] (kk i)=E [⟨0,2880 - kk i⟩]))=T:=by kernel_rfl
theorem bb:(U 100).all (fun i=>decide (HA [] (kk i)=E []))=T:=by kernel_rfl
theorem Qe:(U 100).all (fun i=>decide (E8 (AJ (kk i)) 0 [0]=E [0,1]))=T:=by kernel_rfl
theorem bc:(U 100).all (fun i=>decide (Hz (AJ (kk i)) 0 [0]=E T))=T:=by kernel_rfl
theorem NG:(U 100).all (fun i=>decide (FL (Ao 0 (kk i)) callK=E T)&&decide (FL (Ao (-120) (kk i)) callK=E T))=T:=by kernel_rfl
theorem Qf:(U 100).all (fun i=>decide (EI (AJ (kk i)) 0 1=E ([0],T)))=T:=by kernel_rfl
theorem Ee:(U 100).all (fun i=>decide (Ci (Ao 0 (kk i)) [callK]=E T)&&decide (Ci (Ao (-120) (kk i)) [callK]=E T))=T:=by kernel_rfl
open Go.Lib
section
variable {i : N} (hi : i < 100)
include hi
theorem Tz:Dn (B7 0) (AJ (kk i)) 0 s1=E [⟨0,2880 - kk i⟩]:=by
 unfold Dn;rw[show Cj (B7 0)=E T by kernel_rfl,Q,if_pos rfl,AE Qb hi,Q,if_pos rfl,AE Qc hi,Q,iN,Q,AE Qd hi,Q,AE ba hi];rfl
theorem TA:Dn (B7 (-120)) (AJ (kk i)) 0 s1=E []:=by
 unfold Dn;rw[show Cj (B7 (-120))=E T by kernel_rfl,Q,if_pos rfl,AE Qb hi,Q,if_pos rfl,AE Qc hi,Q,iO,Q,AE Qd hi,Q,AE bb hi];rfl
theorem nN{m:L}{ws:G X7}(hf:Cj (B7 m)=E T)(hs:Dn (B7 m) (AJ (kk i)) 0 s1=E ws):Gf (B7 m) (AJ (kk i)) s1 0 [0]=E (⟨[T],[kk i],[ws]⟩,T):=by
 unfold Gf;rw[hf,Q,if_pos rfl,show Cz s1=E T by kernel_rfl,Q,if_pos rfl,AE bc hi,Q,if_pos rfl];unfold ET;rw[if_neg (by decide),AE Qe hi,Q,show bnd (([0,1]:G L).length:L) (([0]:G L).length:L) 0 ([0,1]:G L).length=E (0,1) by decide,Q];show EU [0] (B7 m) (AJ (kk i)) s1 [0] 1 bigN 0 [] [] []=_
 obtain⟨q,e⟩:=bS;rw[e,EU];have e1:ix (AJ (kk i)).Points 0=E ⟨[97],T⟩:=rfl;have e2:ix (AJ (kk i)).Segments 0=E ⟨0,1,1000,kk i,F⟩:=rfl;have e3:E9 s1 ⟨0,1,1000,kk i,F⟩=E (kk i):=rfl;have e4:ix ([0]:G L) 0=E 0:=rfl;rw[if_pos (by decide),e4,Q,e1,Q,if_pos (by rfl),Q,e2,Q,e3,Q,if_pos (by rfl),hs,Q,if_pos (by rfl)];rw[show X .i64 (0+1)=1 by decide,EU,if_neg (by decide)];rfl
theorem Mw{m:L}{ws:G X7}(hf:Cj (B7 m)=E T)(hs:Dn (B7 m) (AJ (kk i)) 0 s1=E ws):G9 (Ao m (kk i)) callK [0]=E (⟨[T],[kk i],[ws]⟩,T):=by
 unfold G9;show(E8 (AJ (kk i)) 0 [0]).bind _=_
 rw[AE Qe hi,Q,if_neg (by decide),show ix ([0,1]:G L) (X .i64 ((([0,1]:G L).length:L) - 1))=E 1 by decide,Q];show Ga [0] (Ao m (kk i)) callK F=_
 unfold Ga;rw[if_neg (by decide)];show(Gf (B7 m) (AJ (kk i)) s1 0 [0]).bind _=_
 rw[nN hi hf hs];rfl
end
def Bc(k s:L):X0:=⟨s,s+k,s - 15,[⟨0,0,T,s,s+k⟩]⟩
def F7(k:L):G X0:= [Bc k 15,Bc k 30,Bc k 45,Bc k 60]
theorem bp:(U 100).all (fun i=>decide (EN ([0],T) (Ao 0 (kk i)) callK (⟨[T],[kk i],[[⟨0,2880 - kk i⟩]]⟩,T) bigN 15 []=E (F7 (kk i))))=T:=by kernel_rfl
theorem bq:(U 100).all (fun i=>decide (EN ([0],T) (Ao (-120) (kk i)) callK (⟨[T],[kk i],[[]]⟩,T) bigN 15 []=E []))=T:=by kernel_rfl
section
variable {i : N} (hi : i < 100)
include hi
theorem Oj:CO (Ao 0 (kk i)) callK=E (F7 (kk i)):=by
 have h8:=C8 NG hi;simp only[V,decide_eq_true_eq] at h8
 unfold CO;rw[h8.1,Q,if_pos rfl];show(EI (AJ (kk i)) 0 1).bind _=_
 rw[AE Qf hi,Q,Mw hi (by kernel_rfl) (Tz hi),Q,if_pos rfl,if_pos rfl];exact AE bp hi
theorem jR:CO (Ao (-120) (kk i)) callK=E []:=by
 have h8:=C8 NG hi;simp only[V,decide_eq_true_eq] at h8
 unfold CO;rw[h8.2,Q,if_pos rfl];show(EI (AJ (kk i)) 0 1).bind _=_
 rw[AE Qf hi,Q,Mw hi (by kernel_rfl) (TA hi),Q,if_pos rfl,if_pos rfl];exact AE bq hi
end
theorem Pw{i:N}{m:L}{l:G X0}(h:CO (Ao m (kk i)) callK=E l):HI (Ao m (kk i)) [callK]=E [l]:=by
 unfold HI;obtain⟨q,e⟩:=bS;rw[e,G8,if_pos (by decide),show ix [callK] 0=E callK from rfl,Q,h,Q,if_pos (by rfl),show X .i64 (0+1)=1 by decide,G8,if_neg (by decide)];rfl
theorem br:(U 100).all (fun i=>decide (HV (Ao 0 (kk i)) [F7 (kk i)] (fun z0=>HJ z0)=E ([0],⟨0,0⟩,T)))=T:=by kernel_rfl
theorem bt:(U 100).all (fun i=>decide (HV (Ao (-120) (kk i)) [[]] (fun z0=>HJ z0)=E ([],⟨0,0⟩,F)))=T:=by kernel_rfl
theorem PN{i:N}(hi:i<100):D6 (Ao 0 (kk i)) [callK]=E ([0],0,T):=by
 have h10:=C8 Ee hi;simp only[V,decide_eq_true_eq] at h10
 unfold D6;rw[h10.1,Q,if_pos rfl,Pw (Oj hi),Q,AE br hi];rfl
theorem PP{i:N}(hi:i<100):D6 (Ao (-120) (kk i)) [callK]=E ([],0,F):=by
 have h10:=C8 Ee hi;simp only[V,decide_eq_true_eq] at h10
 unfold D6;rw[h10.2,Q,if_pos rfl,Pw (jR hi),Q,AE bt hi];rfl
open Go.Lib
theorem DA:X .i64 (0+1)=1:=by decide
theorem bu:(U 100).all (fun i=>decide (HY (Ao 0 (kk i)) callK ⟨[T],[kk i],[[⟨0,2880 - kk i⟩]]⟩ [0] 15=E (Bc (kk i) 15,T)))=T:=by kernel_rfl
theorem bv:(U 100).all (fun i=>decide (K9 (Bc (kk i) 15) (Bc (kk i) 15)=E T))=T:=by kernel_rfl
theorem bw:(U 100).all (fun i=>decide (Gc (Ao 0 (kk i)) [] (Bc (kk i) 15)=E T))=T:=by kernel_rfl
def Co(k:N):G O:= [115,49,32,115,116,97,114,116,32,49,53,32,97,114,114,105,118,101,32]++Cw (k+15)++ [32,119,97,105,116,32,48]
theorem cA:(U 100).all (fun i=>decide (Hu [callK] [Bc (kk i) 15] (Ao 0 (kk i)) bigN 0 []=E [Co (i+10)]))=T:=by kernel_rfl
theorem cB:(U 100).all (fun i=>decide (FO (Ao 0 (kk i)) [Bc (kk i) 15]=E [116,117,103,115,32,49,32,112,105,108,111,116,115,32,49]))=T:=by kernel_rfl
theorem cC:(U 100).all (fun i=>decide (D7 [Co (i+10)] [59]=E (Co (i+10)))&&decide (CA (Co (i+10))=E (Co (i+10))))=T:=by kernel_rfl
theorem Qh:(U 100).all (fun i=>decide (CP (AX 0 (kk i))=E (AX 0 (kk i)))&&decide (CP (AX (-120) (kk i))=E (AX (-120) (kk i))))=T:=by kernel_rfl
theorem jn{i:N}(hi:i<100):FX (Ao 0 (kk i)) [callK] [0]=E ([Bc (kk i) 15],T):=by
 have h10:=C8 Ee hi;simp only[V,decide_eq_true_eq] at h10
 unfold FX;rw[h10.1,Q,if_pos rfl];show FY [callK] [0] (Ao 0 (kk i)) F=_
 unfold FY;rw[if_neg (by decide)];obtain⟨q,e⟩:=bS;rw[e,FZ,if_pos (by decide),show ix [callK] 0=E callK from rfl,Q,Oj hi,Q,show ix ([0]:G L) 0=E 0 from rfl,Q,show B3 0 ((F7 (kk i)).length:L)=E T from rfl,Q,if_pos rfl,show ix (F7 (kk i)) 0=E (Bc (kk i) 15) from rfl,Q,if_pos (by rfl),DA,FZ,if_neg (by decide)];rfl
theorem gI{i:N}(hi:i<100):Hn (Ao 0 (kk i)) callK (Bc (kk i) 15)=E T:=by
 have h8:=C8 NG hi;simp only[V,decide_eq_true_eq] at h8
 unfold Hn;obtain⟨q,e⟩:=bS;rw[e,FS,if_pos (by rfl),show ix (Bc (kk i) 15).Passages 0=E ⟨0,0,T,15,15+kk i⟩ from rfl,Q,if_pos (by rfl),DA,FS,if_neg (by simp[Bc])]
 have ho:FU (Ao 0 (kk i)) callK [0] 15=E (Bc (kk i) 15,T):=by
  unfold FU;rw[h8.1,Q,if_pos rfl,show Bd 15 callK.Ready callK.Due=E T from rfl,Q];unfold Hq;rw[if_neg (by decide),Mw hi (by kernel_rfl) (Tz hi),Q,if_pos rfl,AE bu hi,Q,if_pos rfl]
 show(FU (Ao 0 (kk i)) callK [0] 15).bind _=_
 rw[ho,Q,if_pos rfl,AE bv hi];rfl
theorem jm{i:N}(hi:i<100):EO (Ao 0 (kk i)) [callK] [Bc (kk i) 15]=E [Co (i+10)]:=by
 have h10:=C8 Ee hi;simp only[V,decide_eq_true_eq] at h10
 have hp:Ho (Ao 0 (kk i)) [callK] [Bc (kk i) 15]=E T:=by
  unfold Ho;rw[h10.1,Q,if_pos rfl,if_neg (by simp)];obtain⟨q,e⟩:=bS;rw[e,FT,if_pos (by decide),show ix [callK] 0=E callK from rfl,Q,show ix [Bc (kk i) 15] 0=E (Bc (kk i) 15) from rfl,Q,gI hi,Q,if_pos rfl,show bnd (([Bc (kk i) 15]:G X0).length:L) 0 0 ([Bc (kk i) 15]:G X0).length=E (0,0) from rfl,Q];show(Gc (Ao 0 (kk i)) [] (Bc (kk i) 15)).bind _=_
  rw[AE bw hi,Q,if_pos rfl,DA,FT,if_neg (by decide)]
 unfold EO;rw[hp,Q,if_pos rfl];exact AE cA hi
theorem PO{i:N}(hi:i<100):DI (AX 0 (kk i))=E ([Bc (kk i) 15],T,AX 0 (kk i)):=by
 unfold DI;show(D6 (Ao 0 (kk i)) [callK]).bind _=_
 rw[PN hi,Q,if_pos rfl];show(FX (Ao 0 (kk i)) [callK] [0]).bind _=_
 rw[jn hi];rfl
theorem Y3{i:N}(hi:i<100):DI (AX (-120) (kk i))=E ([],F,AX (-120) (kk i)):=by
 unfold DI;show(D6 (Ao (-120) (kk i)) [callK]).bind _=_
 rw[PP hi];rfl
theorem PF(c:X9):Bi c [112,108,97,110]=(CP c).bind fun r1=>((Cb r1 [112,108,97,110]).bind fun r30=>E (r30.1,r30.2)).bind fun r6=>E (r6.2,r6.1):=by kernel_rfl
theorem WZ(c:X9):Bi c [98,111,117,110,100]=(CP c).bind fun r1=>((Cb r1 [98,111,117,110,100]).bind fun r30=>E (r30.1,r30.2)).bind fun r6=>E (r6.2,r6.1):=by kernel_rfl
theorem Xv(c:X9):Bi c [99,114,101,119]=(CP c).bind fun r1=>((Cb r1 [99,114,101,119]).bind fun r30=>E (r30.1,r30.2)).bind fun r6=>E (r6.2,r6.1):=by kernel_rfl
theorem Xw(c:X9):Bi c [114,101,102,117,115,101]=(CP c).bind fun r1=>((Cb r1 [114,101,102,117,115,101]).bind fun r30=>E (r30.1,r30.2)).bind fun r6=>E (r6.2,r6.1):=by kernel_rfl
theorem Xx(c:X9):Bi c [115,117,114,101,32,115,49]=(CP c).bind fun r1=>((Hd r1 [115,49]).bind fun r30=>E (r30.1,r30.2)).bind fun r6=>E (r6.2,r6.1):=by kernel_rfl
open Go.Lib
def Mv:G O:= [116,117,103,115,32,49,32,112,105,108,111,116,115,32,49]
def IE:G O:= [110,111,110,101]
def Jf:G O:= [99,111,115,116,32,48,32,98,111,117,110,100,32,48,32,103,97,112,32,48]
theorem SE(c:X9):Cb c [112,108,97,110]=(DI c).bind fun r11=>if r11.2.1 then((EO r11.2.2.Harbour r11.2.2.Calls r11.1).bind fun r16=>(D7 r16 ([59]:G O)).bind fun r17=>(CA r17).bind fun r18=>E (r18,r11.2.2)) else E (IE,r11.2.2):=by
 unfold Cb;rw[if_neg (by decide),if_neg (by decide),if_neg (by decide)];congr 1
theorem jk(c:X9):Cb c [99,114,101,119]=(DI c).bind fun r11=>if r11.2.1 then((FO r11.2.2.Harbour r11.1).bind fun r14=>(CA r14).bind fun r15=>E (r15,r11.2.2)) else E (IE,r11.2.2):=by
 unfold Cb;rw[if_neg (by decide),if_neg (by decide),if_neg (by decide)];congr 1
theorem jj(c:X9):Cb c [98,111,117,110,100]=(EJ c.Harbour c.Calls).bind fun r2=>(CA r2).bind fun r3=>E (r3,c):=by
 unfold Cb;rw[if_pos (by decide)]
theorem jl(c:X9):Cb c [114,101,102,117,115,101]=(EP c.Harbour c.Calls).bind fun r2=>(CA r2).bind fun r3=>E (r3,c):=by
 unfold Cb;rw[if_neg (by decide),if_pos (by decide)]
section
variable {i : N} (hi : i < 100)
include hi
theorem Ms:CP (AX 0 (kk i))=E (AX 0 (kk i)):=by
 have h:=C8 Qh hi;simp only[V,decide_eq_true_eq] at h;exact h.1
theorem Mu:CP (AX (-120) (kk i))=E (AX (-120) (kk i)):=by
 have h:=C8 Qh hi;simp only[V,decide_eq_true_eq] at h;exact h.2
theorem iC:Bi (AX 0 (kk i)) [112,108,97,110]=E (AX 0 (kk i),Co (i+10)):=by
 have h:=C8 cC hi;simp only[V,decide_eq_true_eq] at h;rw[PF,Ms hi,Q,SE,PO hi,Q,if_pos rfl];show(((EO (Ao 0 (kk i)) [callK] [Bc (kk i) 15]).bind _).bind _).bind _=_
 rw[jm hi,Q,h.1,Q,h.2];rfl
theorem iE:Bi (AX 0 (kk i)) [99,114,101,119]=E (AX 0 (kk i),Mv):=by
 rw[Xv,Ms hi,Q,jk,PO hi,Q,if_pos rfl];show(((FO (Ao 0 (kk i)) [Bc (kk i) 15]).bind _).bind _).bind _=_
 rw[AE cB hi];rfl
theorem hZ:Bi (AX (-120) (kk i)) [112,108,97,110]=E (AX (-120) (kk i),IE):=by
 rw[PF,Mu hi,Q,SE,Y3 hi];rfl
end
theorem cE:(U 100).all (fun i=>decide (Jx (F7 (kk i))=E 0))=T:=by kernel_rfl
theorem cF:(U 100).all (fun i=>decide (G2 (Ao (-120) (kk i)) [callK] []=E T))=T:=by kernel_rfl
theorem cG:(U 100).all (fun i=>decide (Hv [callK] [0] (Ao (-120) (kk i)) bigN 0 []=E [115,49]))=T:=by kernel_rfl
theorem cH:(U 100).all (fun i=>decide (Cy (AJ (kk i))=E T))=T:=by kernel_rfl
section
variable {i : N} (hi : i < 100)
include hi
theorem cV:Hh (Ao 0 (kk i)) callK=E 0:=by
 unfold Hh;rw[Oj hi,Q,if_neg (by simp[F7]),AE cE hi];rfl
theorem Ym:H5 (Ao 0 (kk i)) [callK] [0]=E (0,T):=by
 have h10:=C8 Ee hi;simp only[V,decide_eq_true_eq] at h10
 unfold H5;rw[h10.1,Q,if_pos rfl,show JS [callK] [0]=E T by kernel_rfl,Q];unfold H6;rw[if_neg (by decide)];obtain⟨q,e⟩:=bS;rw[e,E6,if_pos (by decide),show ix ([0]:G L) 0=E 0 from rfl,Q,if_pos (by decide),show ix [callK] 0=E callK from rfl,Q,cV hi,Q];unfold FJ;rw[if_neg (by decide),DA,E6,if_neg (by decide)];rfl
theorem iV:H3 (Ao 0 (kk i)) [callK]=E ([0],0,T):=by
 have h10:=C8 Ee hi;simp only[V,decide_eq_true_eq] at h10
 obtain⟨q,e⟩:=bS
 have inner:∀n,D8 (DL (Ao 0 (kk i)) [callK] n) (Ao 0 (kk i)) [callK] [0] F 0 [] bigN 0=E ([0],T,0,[0]):=fun n=>by
  rw[e,D8,if_pos (by decide),show ix ([0]:G L) 0=E 0 from rfl,Q,if_pos (by decide),DA,D8,if_neg (by decide)];unfold Ea Kj;rw[if_pos (by decide),Ym hi,Q,if_pos rfl,if_neg (by decide),show B9 [0]=E [0] by kernel_rfl];rfl
 have outer:G7 (Ao 0 (kk i)) [callK] [-1] F 0 []=E ([-1],T,0,[0]):=by
  unfold G7;rw[e,DL,show bigN=q+3 from e,D8,if_pos (by decide),show ix ([-1]:G L) 0=E (-1) from rfl,Q,if_neg (by decide)];unfold Ea;rw[if_neg (by decide),e,Do,if_pos (by decide),show ix ([-1]:G L) 0=E (-1) from rfl,Q,if_pos (by decide),Q,show ix (([-1]:G L).set (Int.toNat 0) 0) 0=E 0 from rfl,Q];show(DL (Ao 0 (kk i)) [callK] (q+2) [0] F 0 []).bind _=_
  rw[DL,inner (q+1),Q];show Do (DL (Ao 0 (kk i)) [callK] (q+2)) 0 (q+2) (X .i64 (0+1)) [-1] T 0 [0]=_
  rw[DA,Do,if_neg (by decide)]
 unfold H3;rw[h10.1,Q,if_pos rfl,show Bx (([callK]:G X4).length:L) (([callK]:G X4).length:L) 8=E 1 by decide,Q,e,FI,if_pos (by decide),show ix (List.replicate 1 (0:L)) 0=E 0 from rfl,Q,DA,FI,if_neg (by decide)];show(G7 (Ao 0 (kk i)) [callK] [-1] F 0 []).bind _=_
 rw[outer];rfl
theorem iD:Bi (AX 0 (kk i)) [98,111,117,110,100]=E (AX 0 (kk i),Jf):=by
 have h10:=C8 Ee hi;simp only[V,decide_eq_true_eq] at h10
 have hb:EJ (Ao 0 (kk i)) [callK]=E Jf:=by
  unfold EJ;rw[h10.1,Q,if_pos rfl,PN hi,Q,if_pos rfl,iV hi,Q];kernel_rfl
 rw[WZ,Ms hi,Q,jj];show(((EJ (Ao 0 (kk i)) [callK]).bind _).bind _).bind _=_
 rw[hb];rfl
theorem iA:Bi (AX (-120) (kk i)) [114,101,102,117,115,101]=E (AX (-120) (kk i),[115,49]):=by
 have h10:=C8 Ee hi;simp only[V,decide_eq_true_eq] at h10
 have hs:G2 (Ao (-120) (kk i)) [callK] [0]=E F:=by
  unfold G2;rw[h10.2,Q,if_pos rfl,show HR [callK] [0]=E T by kernel_rfl,Q,if_pos rfl,show Kb [callK] [0]=E [callK] by kernel_rfl,Q];unfold Jp;rw[PP hi];rfl
 have hr:Hx (Ao (-120) (kk i)) [callK]=E [0]:=by
  unfold Hx;rw[h10.2,Q,if_pos rfl];obtain⟨q,e⟩:=bS;rw[e,G0,if_pos (by decide),show KG (([callK]:G X4).length:L) 0=E [[]] by kernel_rfl,Q,e,EQ,if_pos (by decide),show ix ([[]]:G (G L)) 0=E [] from rfl,Q,AE cF hi,Q,if_pos rfl,DA,EQ,if_neg (by decide),DA,G0,if_pos (by decide),show KG (([callK]:G X4).length:L) 1=E [[0]] by kernel_rfl,Q,e,EQ,if_pos (by decide),show ix ([[0]]:G (G L)) 0=E [0] from rfl,Q,hs,Q,if_neg (by decide)]
 have hl:EP (Ao (-120) (kk i)) [callK]=E [115,49]:=by
  unfold EP;rw[h10.2,Q,if_pos rfl,hr,Q];exact AE cG hi
 rw[Xw,Mu hi,Q,jl];show(((EP (Ao (-120) (kk i)) [callK]).bind _).bind _).bind _=_
 rw[hl];rfl
theorem iB:Bi (AX (-120) (kk i)) [115,117,114,101,32,115,49]=E (AX (-120) (kk i),[97,45,98,32,110,111,110,101]):=by
 have hl:G5 (B7 (-120)) (AJ (kk i)) s1=E [[97,45,98,32,110,111,110,101]]:=by
  unfold G5;rw[show Cj (B7 (-120))=E T by kernel_rfl,Q,if_pos rfl,AE cH hi,Q,if_pos rfl,show Cz s1=E T by kernel_rfl,Q,if_pos rfl];obtain⟨q,e⟩:=bS;rw[e,G6,if_pos (by rfl),show ix (AJ (kk i)).Segments 0=E ⟨0,1,1000,kk i,F⟩ from rfl,Q];show((ix (AJ (kk i)).Points 0).bind _)=_
  rw[show ix (AJ (kk i)).Points 0=E ⟨[97],T⟩ from rfl,Q,if_pos (by rfl)];show((ix (AJ (kk i)).Points 1).bind _)=_
  rw[show ix (AJ (kk i)).Points 1=E ⟨[98],T⟩ from rfl,Q,if_pos (by rfl),TA hi,Q,show JL []=E [110,111,110,101] by kernel_rfl,Q];rw[show EV [(⟨T,(([97]:G O)++([45]:G O))++ [98],0⟩:Xm),(⟨T,[110,111,110,101],0⟩:Xm)]=E [97,45,98,32,110,111,110,101] by kernel_rfl,Q,if_pos (by rfl),DA,G6,if_neg (by simp[AJ])];rfl
 rw[Xx,Mu hi,Q];unfold Hd;rw[show G3 (AX (-120) (kk i)).Harbour.Fleet [115,49]=E 0 by kernel_rfl,Q,if_neg (by decide),show ix (AX (-120) (kk i)).Harbour.Fleet 0=E s1 from rfl,Q];show(((G5 (B7 (-120)) (AJ (kk i)) s1).bind _).bind _).bind _=_
 rw[hl];rfl
end
open Go.Lib
def F4(i:N):G (G O):= [[112,111,105,110,116,32,97,32,119,97,105,116],[112,111,105,110,116,32,98,32,119,97,105,116],[99,104,97,110,110,101,108,32,97,32,98,32,49,48,48,48,32]++Cw (i+10),[115,104,105,112,32,115,49,32,49,48,48,32,56,48,48,32,48,32,49],[99,97,108,108,32,115,49,32,97,32,98,32,49,53,32,54,48],[112,108,97,110],[98,111,117,110,100],[99,114,101,119],[109,101,97,110,32,45,49,50,48],[112,108,97,110],[114,101,102,117,115,101],[115,117,114,101,32,115,49]]
def NN:G O:= [112,111,105,110,116,32,97,32,119,97,105,116,10,112,111,105,110,116,32,98,32,119,97,105,116,10,99,104,97,110,110,101,108,32,97,32,98,32,49,48,48,48,32]
def OC:G O:= [10,115,104,105,112,32,115,49,32,49,48,48,32,56,48,48,32,48,32,49,10,99,97,108,108,32,115,49,32,97,32,98,32,49,53,32,54,48,10,112,108,97,110,10,98,111,117,110,100,10,99,114,101,119,10,109,101,97,110,32,45,49,50,48,10,112,108,97,110,10,114,101,102,117,115,101,10,115,117,114,101,32,115,49]
def Ps:G O:= [97,45,98,32,110,111,110,101]
def Cm(i:N):G (G O):= [CY,CY,CY,CY,CY,Co (i+10),Jf,Mv,CY,IE,[115,49],Ps]
def Lj(l:G (G O)):G O:=l.foldl (fun a o=>a++(o++ [10])) []
theorem cI:(U 100).all (fun i=>decide (BW (kk i)=E (Cw (i+10))))=T:=by kernel_rfl
theorem cJ:(U 100).all (fun i=>decide (G4 ((NN++Cw (i+10))++OC)=E (F4 i)))=T:=by kernel_rfl
theorem cK:(U 100).all (fun i=>decide (G4 (Lj (Cm i))=E (Cm i)))=T:=by kernel_rfl
theorem cL:(U 100).all (fun i=>decide (BW (kk i+15)=E (Cw (i+25))))=T:=by kernel_rfl
open Go.Lib
def rs(r1:G (G O))(n:N)(acc:G O)(j:L)(c:X9):Option (G O × L):=DK r1 n acc j c.Harbour.Forecast.Tide.Mean c.Harbour.Forecast.Tide.Parts c.Harbour.Forecast.Surges c.Harbour.Chart.Points c.Harbour.Chart.Segments c.Harbour.Fleet c.Harbour.Regime.Gap c.Harbour.Regime.NoMeet c.Harbour.Crew.Tugs c.Harbour.Crew.Pilots c.Harbour.Crew.Rest c.Harbour.Crew.Moves c.Calls c.Desk.Now c.Desk.Starts c.Desk.Cleared
theorem lM{r1:G (G O)}{n:N}{acc l o:G O}{j j2:L}{c c':X9}(hj:decide (j<(r1.length:L))=T)(hx:ix r1 j=E l)(hr:Bi c l=E (c',o))(ho:(o==([]:G O))=F)(h1:o.length≤1000)(h2:acc.length≤10000)(hw:X .i64 (j+1)=j2):rs r1 (n+1) acc j c=rs r1 n (acc++(o++ [10])) j2 c':=by
 have e:DK r1 (n+1) acc j c.Harbour.Forecast.Tide.Mean c.Harbour.Forecast.Tide.Parts c.Harbour.Forecast.Surges c.Harbour.Chart.Points c.Harbour.Chart.Segments c.Harbour.Fleet c.Harbour.Regime.Gap c.Harbour.Regime.NoMeet c.Harbour.Crew.Tugs c.Harbour.Crew.Pilots c.Harbour.Crew.Rest c.Harbour.Crew.Moves c.Calls c.Desk.Now c.Desk.Starts c.Desk.Cleared=rs r1 n (acc++(o++ [10])) j2 c':=by
  rw[DK,if_pos hj,hx,Q];show(Bi c l).bind _=_
  have k1:AZ o.length ([10]:G O).length=T:=by unfold AZ; rw[decide_eq_true_eq]; simp; omega
  have k2:AZ acc.length (o++([10]:G O)).length=T:=by unfold AZ; rw[decide_eq_true_eq]; simp; omega
  rw[hr,Q];simp only[ho,k1,k2,hw,W,if_false,if_true];rfl
 exact e
theorem jo(k:N):(Co k).length≤100:=by
 unfold Co Cw;split<;>simp
theorem Fu:∃q,bigN=q+13:=⟨1208925819614629174706163,by rw[Mf]⟩
theorem S0:∀(l:G (G O)) (a:G O),(∀o∈l,o.length≤100)→(l.foldl (fun a o=>a++(o++ [10])) a).length≤a.length+101*l.length
 | [],a,_=>by simp
 | o::l,a,h=>by
  have h1:=h o (by simp);have h2:=S0 l (a++(o++ [10])) fun x hx=>h x (by simp[hx])
  simp only[List.foldl_cons,List.length_append,List.length_cons,List.length_nil] at h2 ⊢
  omega
theorem lY{i:N}(hi:i<100):G1 ((NN++Cw (i+10))++OC)=E (Lj (Cm i),12):=by
 unfold G1;rw[AE cJ hi,Q,if_neg (by simp[F4]),iu,Q];show rs (F4 i) bigN [] 0 (D5 ⟨[],[]⟩ [])=_
 obtain⟨q,e⟩:=Fu;have hp:=jo (i+10)
 have hb:∀o∈Cm i,o.length≤100:=fun o ho=>by
  simp only[Cm,List.mem_cons,List.not_mem_nil,or_false] at ho
  rcases ho with rfl|rfl|rfl|rfl|rfl|rfl|rfl|rfl|rfl|rfl|rfl|rfl<;>first|exact hp|decide
 have ha:∀n,(Lj ((Cm i).take n)).length≤10000:=fun n=>by
  have:=S0 ((Cm i).take n) [] fun o ho=>hb o (List.mem_of_mem_take ho)
  have hl:((Cm i).take n).length≤12:=by rw[List.length_take]; exact Nat.min_le_right _ _
  simp only[List.length_nil] at this
  unfold Lj;omega
 have oi:∀(c c':X9) (n:N) (j j2:L) (l o:G O),decide (j<12)=T→ix (F4 i) j=E l→Bi c l=E (c',o)→(o==([]:G O))=F→o.length≤1000→X .i64 (j+1)=j2→∀acc:G O,acc.length≤10000→rs (F4 i) (n+1) acc j c=rs (F4 i) n (acc++(o++ [10])) j2 c':=
  fun c c' n j j2 l o h1 h2 h3 h4 h5 h6 acc h7=>lM h1 h2 h3 h4 h5 h7 h6
 rw[e];have p0:(Co (i+10)==([]:G O))=F:=by simp[Co]
 refine(oi _ _ _ 0 1 _ _ (by decide) rfl ly (by decide) (by decide) (by decide) _ (ha 0)).trans ?_;refine(oi _ _ _ 1 2 _ _ (by decide) rfl lz (by decide) (by decide) (by decide) _ (ha 1)).trans ?_;refine(oi _ _ _ 2 3 _ _ (by decide) rfl (AE mA hi) (by decide) (by decide) (by decide) _ (ha 2)).trans ?_;refine(oi _ _ _ 3 4 _ _ (by decide) rfl (AE mB hi) (by decide) (by decide) (by decide) _ (ha 3)).trans ?_;refine(oi _ _ _ 4 5 _ _ (by decide) rfl (AE mC hi) (by decide) (by decide) (by decide) _ (ha 4)).trans ?_;refine(oi _ _ _ 5 6 _ _ (by decide) rfl (iC hi) p0 (by omega) (by decide) _ (ha 5)).trans ?_;refine(oi _ _ _ 6 7 _ _ (by decide) rfl (iD hi) (by decide) (by decide) (by decide) _ (ha 6)).trans ?_;refine(oi _ _ _ 7 8 _ _ (by decide) rfl (iE hi) (by decide) (by decide) (by decide) _ (ha 7)).trans ?_;refine(oi _ _ _ 8 9 _ _ (by decide) rfl (AE mD hi) (by decide) (by decide) (by decide) _ (ha 8)).trans ?_;refine(oi _ _ _ 9 10 _ _ (by decide) rfl (hZ hi) (by decide) (by decide) (by decide) _ (ha 9)).trans ?_;refine(oi _ _ _ 10 11 _ _ (by decide) rfl (iA hi) (by decide) (by decide) (by decide) _ (ha 10)).trans ?_;refine(oi _ _ _ 11 12 _ _ (by decide) rfl (iB hi) (by decide) (by decide) (by decide) _ (ha 11)).trans ?_;unfold rs;rw[DK,if_neg (by simp[F4])];rfl
theorem law_FnConfirms(a0:G L)(ok:DsOk [.sc (.sl (List.map r8 a0))]):KR a0=E T:=by
 unfold KR;by_cases hl:(1048576:L)<(a0.length:L)
 ·rw[if_pos (by simpa using hl)]
 ·rw[if_neg (by simpa using hl)];obtain⟨r,e,r0,r1⟩:=iR (a:=a0) (by rw[Lv]; omega);obtain⟨i,hi⟩:∃i:N,r % 100=(i:L):=⟨(r % 100).toNat,by omega⟩;have hi2:i<100:=by omega
  have hk:X .i64 ((10:L)+X .i64 (Int.tmod r 100))=kk i:=by
   rw[Int.tmod_eq_emod_of_nonneg r0,hi,E1 (n:=(i:L)) (by omega) (by omega),E1 (by omega) (by omega)];show(10:L)+i=i+10
   omega
  have hk2:X .i64 ((15:L)+kk i)=kk i+15:=by
   show X .i64 ((15:L)+((i:L)+10))=(i:L)+10+15
   rw[E1 (by omega) (by omega)]; omega
  have hd:(Cw (i+10)).length≤3:=by unfold Cw; split<;>simp
  have hd2:(Cw (i+25)).length≤3:=by unfold Cw; split<;>simp
  rw[e,Q,hk,AE cI hi2,Q,if_pos (by unfold AZ; rw[decide_eq_true_eq]; simp; omega),if_pos (by unfold AZ; rw[decide_eq_true_eq]; simp; omega)];show((G1 ((NN++Cw (i+10))++OC)).bind _)=_
  rw[lY hi2,Q,AE cK hi2,Q,if_pos (by rfl),show ix (Cm i) 5=E (Co (i+10)) from rfl,Q,hk2,AE cL hi2,Q,if_pos (by unfold AZ; rw[decide_eq_true_eq]; simp; omega),if_pos (by unfold AZ; rw[decide_eq_true_eq]; simp; omega),if_pos (by simp[Co]),show ix (Cm i) 6=E Jf from rfl,Q,if_pos (by decide),show ix (Cm i) 7=E Mv from rfl,Q,if_pos (by decide),show ix (Cm i) 9=E IE from rfl,Q,if_pos (by decide),show ix (Cm i) 10=E [115,49] from rfl,Q,if_pos (by decide),show ix (Cm i) 11=E Ps from rfl,Q,if_pos (by decide),show Kf []=E 7 by kernel_rfl];rfl
end Go.Vi
