/-
Plain laws. No condition.
-/
import Derived.Test.YtfoohbeloilepaaGreatRR8c
namespace Go.Vi
open Go.Lib
set_option linter.all false
open Option renaming bind_some → O, some → F
open List renaming getElem?_eq_getElem → P, getElem_mem → U, take_succ_eq_append_getElem → V, range → W, pairwise_iff_getElem → X, take_of_length_le → Z, drop_eq_getElem_cons → A
open Nat renaming zero_le → Q
open Int renaming ofNat_lt → Y
open Bool renaming true → T
open _root_ renaming List → E, Int → G, Nat → N
def DI(cs:E Xb)(k:N):Xb:=cs[k]?.getD ⟨0,0,0,0,0⟩
def BG(cs:E Xb)(l:E N):E Xb:=l.map (DI cs)
theorem UF{cs:E Xb}{k:N}(h:k<cs.length):ix cs (k:G)=F (DI cs k):=by rw[Af h,DI,P h]; rfl
theorem UG{cs:E Xb}{k:N}(h:k<cs.length):DI cs k∈cs:=by rw[DI,P h]; exact U h
section
variable {h : X4} {cs : E Xb}
def OH(cs:E Xb):Prop:=cs.Pairwise fun a b=>(a.Ship==b.Ship)=false
theorem Uk:OH cs↔∀i (hi:i<cs.length),((cs.take i).any fun x=>x.Ship==cs[i].Ship)=false:=by
 unfold OH;rw[X];constructor
 ·intro H i hi;rw[List.any_eq_false];intro x hx;obtain⟨j,hj,rfl⟩:=List.getElem_of_mem hx;simp only[List.length_take] at hj
  rw[List.getElem_take,H j i (by omega) hi (by omega)];simp
 ·intro H i j hi hj hij
  have:=List.any_eq_false.1 (H j hj) cs[i] (by
   rw[List.mem_iff_getElem];exact⟨i,by simp; omega,by rw[List.getElem_take]⟩)
  simpa using this
theorem UI(s:HSmall h)(hh:AO h=T)(h6:cs.length≤6):∃b,Cn h cs=F b∧(b=T↔(∀a∈cs,Bt h a=T)∧OH cs):=by
 unfold Cn;rw[Ss s,hh,O,if_pos rfl,if_neg (by rw[decide_eq_true_eq]; omega)];have hl:cs.length≤maxLen:=Ag (by omega)
 have:=B8 (fun n i=>∃b,CB cs h n (i:G)=F b∧(b=T↔∀j (hj:j<cs.length),i≤j→Bt h cs[j]=T∧((cs.take j).any fun x=>x.Ship==cs[j].Ship)=false)) hl (fun n=>⟨T,by simp[CB],⟨fun _ j h1 h2=>by omega,fun _=>rfl⟩⟩) (fun n i hi ih=>by
  obtain⟨b,e1,e2⟩:=ih;rw[CB];simp only[Aj,hi,decide_true,if_true,Af hi,O,Qg,E8 (Nat.le_of_lt hi),List.drop_zero,Nat.sub_zero];cases hok:Bt h cs[i] with
  | false=>exact⟨false,rfl,(fun h=>by cases h),fun K=>by have:=(K i hi (Nat.le_refl _)).1; rw[hok] at this; cases this⟩
  | true=>
   simp only[if_true]
   have e:=E7 (L:=Dl cs (i:G) h cs[i] (cs.take i) ((cs.take i).length:G) (CB cs h n)) (cs.take i) (fun x=>x.Ship==cs[i].Ship) (F false) (CB cs h n (IntKind.i64.wrap ((i:G)+1))) (Ag (by simp; omega)) (fun m j hj=>by
    rw[Dl];simp only[Aj,hj,decide_true,if_true,Af hj,O]) fun m=>by rw[Dl,if_neg (by simp)]
   rw[e,An hi hl,e1];cases ha:(cs.take i).any fun x=>x.Ship==cs[i].Ship with
   | true=>exact⟨false,rfl,(fun h=>by cases h),fun K=>by have:=(K i hi (Nat.le_refl _)).2; rw[ha] at this; cases this⟩
   | false=>
    refine⟨b,rfl,e2.trans ⟨fun K j h1 h2=> ?_,fun K j h1 h2=>K j h1 (by omega)⟩⟩;by_cases hji:j=i
    ·subst hji; exact⟨hok,ha⟩
    ·exact K j h1 (by omega)) (Q _)
 obtain⟨b,e1,e2⟩:=this;refine⟨b,e1,e2.trans ⟨fun K=>⟨fun a ha=> ?_,Uk.2 fun i hi=>(K i hi (Q _)).2⟩,fun K j hj _=>⟨K.1 _ (U hj),Uk.1 K.2 j hj⟩⟩⟩;obtain⟨j,hj,rfl⟩:=List.getElem_of_mem ha;exact(K j hj (Q _)).1
def EN(n:N)(l:E N):Prop:=l.Pairwise (· < ·)∧(∀k∈l,k<n)∧l.length<7
theorem YJ(s:HSmall h)(hh:AO h=T)(hok:Cn h cs=F T)(h6:cs.length≤6){l:E N}(hl:EN cs.length l):Cn h (BG cs l)=F T∧(BG cs l).length≤6∧∀a∈BG cs l,Bt h a=T:=by
 obtain⟨b,b1,b2⟩:=UI s hh h6;rw[b1,Option.some.injEq] at hok
 obtain⟨c1,c2⟩:=b2.1 hok;obtain⟨l1,l2,l3⟩:=hl;have n6:(BG cs l).length≤6:=by simp[BG]; omega
 have ok:∀a∈BG cs l,Bt h a=T:=fun a ha=>by
  obtain⟨k,hk,rfl⟩:=List.mem_map.1 ha;exact c1 _ (UG (l2 k hk))
 obtain⟨d,d1,d2⟩:=UI s hh n6;refine⟨?_,n6,ok⟩;rw[d1,d2.2 ⟨ok,?_⟩];unfold OH BG;rw[List.pairwise_map];refine List.Pairwise.imp_of_mem (fun{a b} ha hb hab=> ?_) l1;have:=X.1 c2 a b (l2 a ha) (l2 b hb) hab;rw[DI,DI,P (l2 a ha),P (l2 b hb)];exact this
theorem Xz{l:E N}(hl:EN cs.length l):JN cs (iN l)=F T:=by
 obtain⟨l1,l2,l3⟩:=hl;unfold JN;have e:(iN l).length=l.length:=by simp
 refine B8 (fun n i=>G1 cs (iN l) n (i:G)=F T) (Ag (n:=l.length) (by omega)) (fun n=>by rw[G1,if_neg (by simp)]) (fun n i hi ih=> ?_) (Q _);have hi':i<(iN l).length:=by omega
 have ei:(iN l)[i]=(l[i]:G):=by simp
 have hx:idx ((l[i]:N):G) cs.length=T:=Gz.2 (by have:=l2 _ (U hi); omega);rw[G1,if_pos (decide_eq_true (Y.2 hi')),Af hi',O,ei,Du,hx,O,if_pos rfl,An hi (Ag (by omega))];by_cases h0:(0:G)<(i:G)
 ·have ew:IntKind.i64.wrap ((i:G) - 1)=((i - 1:N):G):=by rw[Ap (by omega) (by omega)]; omega
  have hp:i - 1<(iN l).length:=by omega
  have ep:(iN l)[i - 1]=(l[i - 1]:G):=by simp
  have hlt:=X.1 l1 (i - 1) i (by omega) hi (by omega);rw[if_pos (decide_eq_true h0),ew,Af hp,O,ep,if_neg (by simp; omega)];exact ih
 ·rw[if_neg (by simpa using h0)];exact ih
theorem uq{l:E N}(hl:EN cs.length l):LC cs (iN l)=F (BG cs l):=by
 obtain⟨l1,l2,l3⟩:=hl;unfold LC;rw[Xz ⟨l1,l2,l3⟩,O,if_pos rfl];have e:(iN l).length=l.length:=by simp
 refine B8 (fun n i=>Hy cs (iN l) n (i:G) ((BG cs l).take i)=F (BG cs l)) (Ag (n:=l.length) (by omega)) (fun n=>by rw[Hy,if_neg (by simp),Z (by simp[BG])]) (fun n i hi ih=> ?_) (Q _);have hi':i<(iN l).length:=by omega
 have ei:(iN l)[i]=(l[i]:G):=by simp
 have hs:i<(BG cs l).length:=by simpa[BG] using hi
 have es:(BG cs l)[i]=DI cs l[i]:=by simp[BG]
 rw[Hy,if_pos (decide_eq_true (Y.2 hi')),Af hi',O,ei,UF (l2 _ (U hi)),O,if_pos (AN (by simp; omega) (by simp) (by omega)),An hi (Ag (by omega)),← es,← V hs];exact ih
def Cr(h:X4)(cs:E Xb)(l:E N):Bool:=ex h ((BG cs l).map (Bk h)) []
theorem ut(s:HSmall h)(hh:AO h=T)(hok:Cn h cs=F T)(h6:cs.length≤6){l:E N}(hl:EN cs.length l):JG h cs (iN l)=F (Cr h cs l):=by
 obtain⟨a1,a2,a3⟩:=YJ s hh hok h6 hl;unfold JG;rw[hok,O,if_pos rfl,Xz hl,O,if_pos rfl,uq hl,O,gU s a1 hh a2 a3];rfl
theorem uu(s:HSmall h)(hh:AO h=T)(hok:Cn h cs=F T)(h6:cs.length≤6){l:E N}(hl:EN cs.length l):Nm h (cs.map (Bk h)) (iN l)=F (Cr h cs l):=by
 obtain⟨a1,a2,a3⟩:=YJ s hh hok h6 hl;obtain⟨l1,l2,l3⟩:=hl;obtain⟨_,_,o3,o4⟩:=Rj s hh a2 a3;obtain⟨b,c,e⟩:=fq s hh (os:=(BG cs l).map (Bk h)) (by simpa using a2) o3 o4;unfold Nm;have el:(iN l).length=l.length:=by simp
 refine B8 (fun n i=>IG (cs.map (Bk h)) (iN l) h n (i:G) (((BG cs l).map (Bk h)).take i)=F (Cr h cs l)) (Ag (n:=l.length) (by omega)) (fun n=> ?_) (fun n i hi ih=> ?_) (Q _)
 ·rw[IG,if_neg (by simp),Z (by simp[BG]),e];rfl
 ·have hi':i<(iN l).length:=by omega
  have ei:(iN l)[i]=(l[i]:G):=by simp
  have hk:=l2 _ (U hi);have hs:i<((BG cs l).map (Bk h)).length:=by simpa[BG] using hi
  have es:((BG cs l).map (Bk h))[i]=Bk h (DI cs l[i]):=by simp[BG]
  have hm:l[i]<(cs.map (Bk h)).length:=by simpa using hk
  have em:(cs.map (Bk h))[l[i]]=Bk h (DI cs l[i]):=by simp[DI,P hk]
  rw[IG,if_pos (decide_eq_true (Y.2 hi')),Af hi',O,ei,Af hm,em,O,if_pos (AN (by simp; omega) (by simp) (by omega)),An hi (Ag (by omega)),← es,← V hs];exact ih
theorem YL{n:N}(hn:n<7){l:E N}(hl:l∈sets n):EN n l:=tM n hn l hl
theorem Uy{n:N}(hn:n<7){b:N}(hb:b<2 ^ n):EN n (Bv 6 b):=YL hn (by rw[← Yc n hn]; exact List.mem_map_of_mem (Yb n hn b hb))
def H4(h:X4)(cs:E Xb)(b:N):Bool:= !Cr h cs (Bv 6 b)
theorem vV(s:HSmall h)(hh:AO h=T)(hok:Cn h cs=F T)(hsp:I7 h cs=F T)(h6:cs.length≤6)(hcs:∀a∈cs,Bt h a=T):MZ h cs=F (GR ((CO cs.length).find? (H4 h cs))):=by
 have hn:cs.length<7:=by omega
 have h64:=ZF hn;obtain⟨o1,_,_,_⟩:=Rj s hh h6 hcs
 have ht:Nn h cs=F ((W (2 ^ cs.length)).map fun b=>Cr h cs (Bv 6 b)):=by
  unfold Nn;rw[o1,O];refine B8 (fun n i=>IH cs h (cs.map (Bk h)) n (i:G) (((W (2 ^ cs.length)).map fun b=>Cr h cs (Bv 6 b)).take i)=F ((W (2 ^ cs.length)).map fun b=>Cr h cs (Bv 6 b))) (Ag (n:=2 ^ cs.length) (by omega)) (fun n=> ?_) (fun n i hi ih=> ?_) (Q _)
  ·rw[IH,if_neg (by simp),YM _ hn,if_neg (by simp),Z (by simp)]
  ·have hi':i<((W (2 ^ cs.length)).map fun b=>Cr h cs (Bv 6 b)).length:=by simpa using hi
   have ei:((W (2 ^ cs.length)).map fun b=>Cr h cs (Bv 6 b))[i]=Cr h cs (Bv 6 i):=by simp
   rw[IH,if_neg (by simp),YM _ hn,if_pos (decide_eq_true (Y.2 hi)),Ux _ hn i hi,O,uu s hh hok h6 (Uy hn hi),O,if_pos (AN (by simp; omega) (by simp) (by omega)),An hi (Ag (by omega)),← ei,← V hi'];exact ih
 unfold MZ;rw[hsp,O,if_pos rfl,ht,O,tb hn];rfl
theorem uo:∀n:N,n<7→∀i:N,i<7→(GQ n i).length<100:=by decide +kernel
theorem sF{i n:N}{y:G}{K:G→Option (E G)}(L:E (E N))(hL:L.length<100)(hs:∀l∈L,JG h cs (iN l)=F (Cr h cs l)):FX cs y (i:G) (L.map iN) h K bigN 0=match L.find? (fun l=> !Cr h cs l) with | none=>K (IntKind.i64.wrap ((i:G)+1)) | some l=>F (iN l):=by
 have key:=B8 (fun m j=>FX cs y (i:G) (L.map iN) h K m (j:G)=match (L.drop j).find? (fun l=> !Cr h cs l) with | none=>K (IntKind.i64.wrap ((i:G)+1)) | some l=>F (iN l)) (Ag (n:=L.length) (by omega)) (fun m=>by
  rw[FX,if_neg (by simp),List.drop_length]; rfl) (fun m j hj ih=>by
  have hj':j<(L.map iN).length:=by simpa using hj
  have ej:(L.map iN)[j]=iN L[j]:=by simp
  rw[FX,if_pos (decide_eq_true (Y.2 hj')),Af hj',O,ej,hs _ (U hj),O,A hj,List.find?_cons,An hj (Ag (by omega))];cases Cr h cs L[j] with
  | true=>rw[if_pos rfl]; exact ih
  | false=>rw[if_neg (by simp)]; rfl) (Q _)
 exact key
theorem pw(s:HSmall h)(hh:AO h=T)(hok:Cn h cs=F T)(h6:cs.length≤6):Lz h cs=F (GR ((CO cs.length).find? (H4 h cs))):=by
 have hn:cs.length<7:=by omega
 have hfind:GR ((CO cs.length).find? (H4 h cs))=match (sets cs.length).find? (fun l=> !Cr h cs l) with | none=> [] | some l=>iN l:=by
  rw[← Yc _ hn,List.find?_map];show GR ((CO cs.length).find? (H4 h cs))=match ((CO cs.length).find? (H4 h cs)).map (Bv 6) with | none=> [] | some l=>iN l
  cases(CO cs.length).find? (H4 h cs)<;>rfl
 unfold Lz;rw[hok,O,if_pos rfl,hfind,Ap (by omega) (by omega)];have em:(((cs.length+1:N):G))=(cs.length:G)+1:=by omega
 rw[← em]
 have key:=B8 (fun n i=>FW cs h ((cs.length+1:N):G) n (i:G)=F (match (((W (cs.length+1)).drop i).flatMap (GQ cs.length)).find? (fun l=> !Cr h cs l) with | none=> [] | some l=>iN l)) (Ag (n:=cs.length+1) (by omega)) (fun n=>by
  rw[FW,if_neg (by simp),List.drop_of_length_le (by simp)];rfl) (fun n i hi ih=>by
  have hd:(W (cs.length+1)).drop i=i::(W (cs.length+1)).drop (i+1):=by
   rw[A (by simpa using hi)]; simp
  rw[FW,if_pos (decide_eq_true (Y.2 hi)),ur _ hn i (by omega),O,hd,List.flatMap_cons,List.find?_append];have hmem:∀l∈GQ cs.length i,EN cs.length l:=fun l hl=>YL hn (by unfold sets; exact List.mem_flatMap.2 ⟨i,by simpa using hi,hl⟩)
  have e:=sF (cs:=cs) (h:=h) (i:=i) (n:=n) (K:=FW cs h ((cs.length+1:N):G) n) (y:=((cs.length+1:N):G)) (GQ cs.length i) (uo _ hn i (by omega)) fun l hl=>ut s hh hok h6 (hmem l hl)
  rw[e,An hi (Ag (by omega)),ih];cases(GQ cs.length i).find? (fun l=> !Cr h cs l)<;>rfl) (Q _)
 exact key
end
end Go.Vi
