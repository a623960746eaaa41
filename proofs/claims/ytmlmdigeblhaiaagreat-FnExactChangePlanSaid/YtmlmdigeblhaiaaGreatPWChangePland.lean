/-
Walks. No condition.
-/
import Derived.Test.YtmlmdigeblhaiaaGreatPNf
import Derived.Test.YtmlmdigeblhaiaaGreatChecked
import Derived.Test.YtmlmdigeblhaiaaGreatPVi49
import Derived.KernelRfl
import Derived.Test.YtmlmdigeblhaiaaGreatPWChangePlanc
namespace Go.Vi
open Go.Proofs
set_option linter.all false
set_option maxRecDepth 4000
set_option maxHeartbeats 2000000
open Nat renaming reduceBEq → C, reduceMul → E, reduceAdd → F, reduceDiv → G, le_of_ble_eq_true → uf
open Int renaming reduceBEq → I
attribute [local irreducible] go B0 Gz
open List renaming map → Z, all_eq_true → zB, cons_append → zC, nil_append → zD, all_cons → zG, all_nil → zH
open Tryz renaming prog → J
open Xb renaming row → zA
open Xc renaming row → zE
open Int renaming toNat → zF
open Xa renaming row → zI
open Bool renaming true → T, false → L
open Option renaming some → N, none → O
open _root_ renaming List → P, Option → Q, Int → V, Bool → W, Nat → X, rfl → Y
def B6l:P (P X × AItem):= [([],(O,.mv 18 (S 5))),([],(O,.mv 19 (S 5))),([1],(O,.nilc 20 (S 19))),([2],(O,.load 21 (S 20) L 1)),([],(O,.mv 22 (S 3))),([4],(O,.call 23 137 [(S 22)])),([5],(O,.bslice 24 1 [.sl []] 1 [(0,(S 23))])),([3,6,5],(O,.app 25 1 24 (S 21) (S 24))),([0,0,1,2,3,4,5,6,7],(O,.nilc 26 (S 18))),([8,7,7,0,1,2,3,4,5,6,7],(O,.store (S 26) (S 25) 1))]
def B6m:P (P X × AItem):= [([],(O,.load 48 (S 6) T 2)),([],(O,.mv 49 (S 14))),([],(O,.mv 50 (S 2))),([],(O,.mv 51 (S 3))),([3],(O,.call 52 137 [(S 51)])),([],(O,.mv 53 (S 12))),([5],(O,.bslice 54 1 [.int .i64 0] 1 [(0,(S 53))])),([4,6,4],(O,.app 55 1 8 (S 52) (S 54))),([],(O,.load 56 (S 10) T 8)),([],(O,.mv 57 (S 5))),([0,1,2,7,8,9,7],(O,.call 58 200 [(S 48),(S 49),(S 50),(S 55),(S 56),(S 57)]))]
def Sf:Hw:=([(15,[1,2,3,5,6,10,30,31,32],[99999999999,6,10],[90000]),(30,[1,2,3,5,6,10,12,14,30,31,32,47],[99999999999,6,10],[90000])],[])
abbrev I7(a3:P V)(wo3_ wo5_:AV)(c0_ c1_:W)(c2_ c3_:W)(c4_ c5_:W)(c6_ c7_ c8_:W)(bx_:P (X × P AC))(rs_:Rows):St:=⟨[(3,vc (aL (Z rI a3))),(5,vc (.pb 99999999999 0)),(18,bif c0_ then vc (.pb 99999999999 0) else .undef),(19,bif c1_ then vc (.pb 99999999999 0) else .undef),(20,bif c2_ then vc (.pb 99999999999 0) else .undef),(21,bif c3_ then wo3_ else .undef),(22,bif c4_ then vc (aL (Z rI a3)) else .undef),(23,bif c5_ then wo5_ else .undef),(24,bif c6_ then vc (.own 1536) else .undef),(25,bif c7_ then vc (.own 90000) else .undef),(26,bif c8_ then vc (.pb 99999999999 0) else .undef)],bx_,rs_⟩
abbrev W8(a3:P V)(a5:P (P V))(r2:(P V)):St:=(I7 a3 (vc (.undef)) (vc (aL (Z rI r2))) T T T T T T T T T [(99999999999,[.own 90000])] [(90000,1,Z (rL rI) (a5++([r2]:P (P V)))),(1536,1,Z (rL rI) ([r2]:P (P V)))])
def Fs:=fun a3 (a5:P (P V)) r2 (f:X) (c0:W) (c1:W) (c2:W) (c3:W) (c4:W) (c5:W) (c6:W) (c7:W) (c8:W) (c9:W) c10 c11 c12 c13=>Dl J B6l (W8 a3 a5 r2) f [c0,c1,c2,c3,c4,c5,c6,c7,c8,c9] (I7 a3 (vc ((c10))) (vc ((c11))) c0 c1 c2 c3 c4 c5 c6 c7 c8 [(99999999999,[(c12)])] c13)
def PF:=fun(rec_:X4->V->V->(P V)->Xa->(P (P V))->Q (P (P V))) a3 (a5:P (P V)) r2=>(∀(a0:X4) (a1:V) (a2:V) (a3:P V) (a4:Xa) (a5:P (P V)) zr,rec_ a0 a1 a2 a3 a4 a5=N zr->FCz J 200 [.d (.ag (X4.row a0)),.d (.sc (.int .i64 a1)),.d (.sc (.int .i64 a2)),.d (.sc (.sl (Z rI a3))),.d (.ag (zI a4)),.p] [.r 0] [(1,Z (rL rI) a5)] [.r 0] [(1,Z (rL rI) zr)] [])/\(Ee a3=N r2)/\((Ab a5.length ([r2]:P (P V)).length 24)=T)
def B2w{rec_ a3 a5 r2}(H:PF rec_ a3 a5 r2):∀(f:X),Fs a3 a5 r2 f T T T T T T T T T T .undef (aL (Z rI r2)) (.own 90000) [(90000,1,Z (rL rI) (a5++([r2]:P (P V)))),(1536,1,Z (rL rI) ([r2]:P (P V)))]:=by
 obtain⟨h_rec,h2,h3⟩:=id H;unfold Fs I7;intro f
 induction f with
 | zero=>intro h; rfl
 | succ f ih=>
  refine Ae ⟨?_,?_,?_,?_,?_,?_,?_,?_,?_,?_,⟨⟩⟩<;>try first | (intro h; cases h; done)
def B2x{rec_ a3 a5 r2}(H:PF rec_ a3 a5 r2):∀(f:X) (b0 b1:W) (b2 b8:W),Fs a3 a5 r2 f b0 b1 b2 T T T T T b8 L .undef (aL (Z rI r2)) .undef [(90000,1,Z (rL rI) (a5++([r2]:P (P V)))),(1536,1,Z (rL rI) ([r2]:P (P V)))]:=by
 obtain⟨h_rec,hr2,hg3⟩:=id H;unfold Fs I7;intro f
 induction f with
 | zero=>intros; intro h; simp at h
 | succ f ih=>
  intros;refine Ae ⟨?_,?_,?_,?_,?_,?_,?_,?_,?_,?_,⟨⟩⟩<;>try exact gi
  .intro h0 hw;obtain rfl:=hq hw 0 rfl rfl;obtain rfl:=hq hw 1 rfl rfl;obtain rfl:=hq hw 2 rfl rfl;obtain rfl:=hq hw 8 rfl rfl;refine np ?_;try simp only[A7,A8,A4,C,E,F,G,I,U]
   exact B2w H ..
def B2y{rec_ a3 a5 r2}(H:PF rec_ a3 a5 r2):∀(f:X) (b0 b1:W) (b2 b3:W),Fs a3 a5 r2 f b0 b1 b2 b3 T T T L L L (.own 90000) (aL (Z rI r2)) (.own 90000) [(90000,1,Z (rL rI) a5),(1536,1,Z (rL rI) ([r2]:P (P V)))]:=by
 obtain⟨h_rec,hr2,hg3⟩:=id H;unfold Fs I7;intro f
 induction f with
 | zero=>intros; intro h; simp at h
 | succ f ih=>
  intros;refine Ae ⟨?_,?_,?_,?_,?_,?_,?_,?_,?_,?_,⟨⟩⟩<;>try exact gi
  .intro h0 hw;obtain rfl:=hq hw 3 rfl rfl;refine np ?_;try simp only[hg3,A7,A8,A4,C,E,F,G,I,U]
   exact B2x H ..
def B2z{rec_ a3 a5 r2}(H:PF rec_ a3 a5 r2):∀(f:X) (b0 b1:W) (b2 b3:W),Fs a3 a5 r2 f b0 b1 b2 b3 T T L L L L (.own 90000) (.own 1472) (.own 90000) [(90000,1,Z (rL rI) a5),(1472,1,Z rI r2)]:=by
 obtain⟨h_rec,hr2,hg3⟩:=id H;unfold Fs I7;intro f
 induction f with
 | zero=>intros; intro h; simp at h
 | succ f ih=>
  intros;refine Ae ⟨?_,?_,?_,?_,?_,?_,?_,?_,?_,?_,⟨⟩⟩<;>try exact gi
  .intro h0 hw;refine⟨[(O,.frz 1472)],[],Y,Y,?_⟩;try simp only[A7,A8,zD,zC,A4,C,E,F,G,I,U]
   refine Gn ?_;try simp only[A4,C,E,F,G,I,U]
   refine As (Z (rL rI) ([r2]:P (P V))) ?_;try simp only[A4,C,E,F,G,I,U]
   exact B2y H ..
def B20{rec_ a3 a5 r2}(H:PF rec_ a3 a5 r2):∀(f:X) (b0 b1:W) (b2 b3 b4:W),Fs a3 a5 r2 f b0 b1 b2 b3 b4 L L L L L (.own 90000) (.own 1472) (.own 90000) [(90000,1,Z (rL rI) a5)]:=by
 obtain⟨h_rec,hr2,hg3⟩:=id H;unfold Fs I7;intro f
 induction f with
 | zero=>intros; intro h; simp at h
 | succ f ih=>
  intros;refine Ae ⟨?_,?_,?_,?_,?_,?_,?_,?_,?_,?_,⟨⟩⟩<;>try exact gi
  .intro h0 hw;obtain rfl:=hq hw 4 rfl rfl;refine np ?_;try simp only[A7,A8,A4,C,E,F,G,I,U]
   refine K9 (Ag Ta hr2) Y (by simp only[St.fresh,zG,zH,Cu]; simp[AV.cells,V1.cells,AC.uses]) (uf Y) ?_;try simp only[A4,C,E,F,G,I,U]
   exact B2z H ..
abbrev GM(a1 a2:V)(a3:P V)(v6 r11:V)(a0:X4)(y7:Xa)(wo4_ wo7_:AV)(c0_ c1_:W)(c2_ c3_:W)(c4_ c5_:W)(c6_ c7_:W)(c8_ c9_ c10_:W)(bx_:P (X × P AC))(rs_:Rows):St:=⟨[(1,vc (aI a1)),(2,vc (aI a2)),(3,vc (aL (Z rI a3))),(5,vc (.pb 99999999999 0)),(6,vc (.pb 6 0)),(10,vc (.pb 10 0)),(12,vc (aI v6)),(14,vc (aI r11)),(30,vc (aL (Z X2.row a0.Segments))),(31,vc (aI (a0.Segments.length:V))),(32,vc (aI v6)),(48,bif c0_ then va [aL (Z X7.row a0.Points),aL (Z X2.row a0.Segments)] else .undef),(49,bif c1_ then vc (aI r11) else .undef),(50,bif c2_ then vc (aI a2) else .undef),(51,bif c3_ then vc (aL (Z rI a3)) else .undef),(52,bif c4_ then wo4_ else .undef),(53,bif c5_ then vc (aI v6) else .undef),(54,bif c6_ then vc (.own 3456) else .undef),(55,bif c7_ then wo7_ else .undef),(56,bif c8_ then va [aB y7.i0,aB y7.i1,aB y7.i2,aB y7.i3,aB y7.i4,aB y7.i5,aB y7.i6,aB y7.i7] else .undef),(57,bif c9_ then vc (.pb 99999999999 0) else .undef),(58,bif c10_ then .tup [] else .undef)],bx_,rs_⟩
abbrev W9(a1 a2:V)(a3:P V)(v6 r11:V)(a0:X4)(y7:Xa)(r18:(P V))(r20:(P (P V))):St:=(GM a1 a2 a3 v6 r11 a0 y7 (vc (.undef)) (vc (aL (Z rI (r18++([v6]:P V))))) T T T T T T T T T T T [(99999999999,[.own 90000]),(6,[aL (Z X7.row a0.Points),aL (Z X2.row a0.Segments)]),(10,[aB y7.i0,aB y7.i1,aB y7.i2,aB y7.i3,aB y7.i4,aB y7.i5,aB y7.i6,aB y7.i7])] [(90000,1,Z (rL rI) r20),(3456,1,Z rI ([v6]:P V))])
def E8:=fun(a1:V) a2 a3 v6 r11 a0 y7 r18 r20 (f:X) (c0:W) (c1:W) (c2:W) (c3:W) (c4:W) (c5:W) (c6:W) (c7:W) (c8:W) (c9:W) (c10:W) c11 c12 c13=>Dl J B6m (W9 a1 a2 a3 v6 r11 a0 y7 r18 r20) f [c0,c1,c2,c3,c4,c5,c6,c7,c8,c9,c10] (GM a1 a2 a3 v6 r11 a0 y7 (vc ((c11))) (vc ((c12))) c0 c1 c2 c3 c4 c5 c6 c7 c8 c9 c10 [(99999999999,[.own 90000]),(6,[aL (Z X7.row a0.Points),aL (Z X2.row a0.Segments)]),(10,[aB y7.i0,aB y7.i1,aB y7.i2,aB y7.i3,aB y7.i4,aB y7.i5,aB y7.i6,aB y7.i7])] c13)
def Mf:=fun(rec_:X4->V->V->(P V)->Xa->(P (P V))->Q (P (P V))) (a1:V) a2 a3 v6 r11 a0 y7 v8 r18 r20=>(∀(a0:X4) (a1:V) (a2:V) (a3:P V) (a4:Xa) (a5:P (P V)) zr,rec_ a0 a1 a2 a3 a4 a5=N zr->FCz J 200 [.d (.ag (X4.row a0)),.d (.sc (.int .i64 a1)),.d (.sc (.int .i64 a2)),.d (.sc (.sl (Z rI a3))),.d (.ag (zI a4)),.p] [.r 0] [(1,Z (rL rI) a5)] [.r 0] [(1,Z (rL rI) zr)] [])/\(Ee a3=N r18)/\((Ab r18.length ([v6]:P V).length 8)=T)/\(rec_ a0 r11 a2 (r18++([v6]:P V)) y7 v8=N r20)
def B21{rec_ a1 a2 a3 v6 r11 a0 y7 v8 r18 r20}(H:Mf rec_ a1 a2 a3 v6 r11 a0 y7 v8 r18 r20):∀(f:X),E8 a1 a2 a3 v6 r11 a0 y7 r18 r20 f T T T T T T T T T T T .undef (aL (Z rI (r18++([v6]:P V)))) [(90000,1,Z (rL rI) r20),(3456,1,Z rI ([v6]:P V))]:=by
 obtain⟨h_rec,h18,h19,h20⟩:=id H;unfold E8 GM;intro f
 induction f with
 | zero=>intro h; rfl
 | succ f ih=>
  refine Ae ⟨?_,?_,?_,?_,?_,?_,?_,?_,?_,?_,?_,⟨⟩⟩<;>try first | (intro h; cases h; done)
def B22{rec_ a1 a2 a3 v6 r11 a0 y7 v8 r18 r20}(H:Mf rec_ a1 a2 a3 v6 r11 a0 y7 v8 r18 r20):∀(f:X) (b0 b1:W) (b2 b8 b9:W),E8 a1 a2 a3 v6 r11 a0 y7 r18 r20 f b0 b1 b2 T T T T T b8 b9 L .undef (.own 3328) [(90000,1,Z (rL rI) v8),(3328,1,Z rI (r18++([v6]:P V))),(3456,1,Z rI ([v6]:P V))]:=by
 obtain⟨h_rec,hr18,hg19,hr20⟩:=id H;unfold E8 GM;intro f
 induction f with
 | zero=>intros; intro h; simp at h
 | succ f ih=>
  intros;refine Ae ⟨?_,?_,?_,?_,?_,?_,?_,?_,?_,?_,?_,⟨⟩⟩<;>try exact gi
  .intro h0 hw;obtain rfl:=hq hw 0 rfl rfl;obtain rfl:=hq hw 1 rfl rfl;obtain rfl:=hq hw 2 rfl rfl;obtain rfl:=hq hw 8 rfl rfl;obtain rfl:=hq hw 9 rfl rfl;refine⟨[(O,.frz 3328)],[],Y,Y,?_⟩;try simp only[A7,A8,zD,zC,A4,C,E,F,G,I,U]
   refine Gn ?_;try simp only[A4,C,E,F,G,I,U]
   refine HO (h_rec _ _ _ _ _ _ _ hr20) 99999999999 [90000] rfl Y Y Y d4 Y Y Y ?_;try simp only[A4,C,E,F,G,I,U]
   exact B21 H ..
def ge{rec_ a1 a2 a3 v6 r11 a0 y7 v8 r18 r20}(H:Mf rec_ a1 a2 a3 v6 r11 a0 y7 v8 r18 r20):∀(f:X) (b0 b1:W) (b2 b8 b9:W),E8 a1 a2 a3 v6 r11 a0 y7 r18 r20 f b0 b1 b2 T T T T L b8 b9 L (.own 3328) (.own 3328) [(90000,1,Z (rL rI) v8),(3328,1,Z rI r18),(3456,1,Z rI ([v6]:P V))]:=by
 obtain⟨h_rec,hr18,hg19,hr20⟩:=id H;unfold E8 GM;intro f
 induction f with
 | zero=>intros; intro h; simp at h
 | succ f ih=>
  intros;refine Ae ⟨?_,?_,?_,?_,?_,?_,?_,?_,?_,?_,?_,⟨⟩⟩<;>try exact gi
  .intro h0 hw;refine np ?_;try simp only[hg19,A7,A8,A4,C,E,F,G,I,U]
   exact B22 H ..
def B23{rec_ a1 a2 a3 v6 r11 a0 y7 v8 r18 r20}(H:Mf rec_ a1 a2 a3 v6 r11 a0 y7 v8 r18 r20):∀(f:X) (b0 b1:W) (b2 b5:W) (b8 b9:W),E8 a1 a2 a3 v6 r11 a0 y7 r18 r20 f b0 b1 b2 T T b5 L L b8 b9 L (.own 3328) (.own 3328) [(90000,1,Z (rL rI) v8),(3328,1,Z rI r18)]:=by
 obtain⟨h_rec,hr18,hg19,hr20⟩:=id H;unfold E8 GM;intro f
 induction f with
 | zero=>intros; intro h; simp at h
 | succ f ih=>
  intros;refine Ae ⟨?_,?_,?_,?_,?_,?_,?_,?_,?_,?_,?_,⟨⟩⟩<;>try exact gi
  .intro h0 hw;obtain rfl:=hq hw 5 rfl rfl;refine np ?_;try simp only[A7,A8,A4,C,E,F,G,I,U]
   refine As (Z rI ([v6]:P V)) ?_;try simp only[A4,C,E,F,G,I,U]
   exact ge H ..
def B24{rec_ a1 a2 a3 v6 r11 a0 y7 v8 r18 r20}(H:Mf rec_ a1 a2 a3 v6 r11 a0 y7 v8 r18 r20):∀(f:X) (b0 b1:W) (b2 b3:W) (b8 b9:W),E8 a1 a2 a3 v6 r11 a0 y7 r18 r20 f b0 b1 b2 b3 L T T L b8 b9 L (.own 3328) (.own 3328) [(90000,1,Z (rL rI) v8),(3456,1,Z rI ([v6]:P V))]:=by
 obtain⟨h_rec,hr18,hg19,hr20⟩:=id H;unfold E8 GM;intro f
 induction f with
 | zero=>intros; intro h; simp at h
 | succ f ih=>
  intros;refine Ae ⟨?_,?_,?_,?_,?_,?_,?_,?_,?_,?_,?_,⟨⟩⟩<;>try exact gi
  .intro h0 hw;obtain rfl:=hq hw 3 rfl rfl;refine kp [1,2,3,5,6,10,12,14,30,31,32,48,49,50,51,52,53,54,55,56,57,58] [99999999999,6,10] [90000,3328,3456] ?_;try simp only[A7,A8,zD,zC,A4,C,E,F,G,I,U]
   refine K9 (Ag Ta hr18) Y (by simp only[St.fresh,zG,zH,Cu]; simp[AV.cells,V1.cells,AC.uses]) (uf Y) ?_;try simp only[A4,C,E,F,G,I,U]
   exact ge H ..
def B25{rec_ a1 a2 a3 v6 r11 a0 y7 v8 r18 r20}(H:Mf rec_ a1 a2 a3 v6 r11 a0 y7 v8 r18 r20):∀(f:X) (b0 b1:W) (b2 b3:W) (b5 b8 b9:W),E8 a1 a2 a3 v6 r11 a0 y7 r18 r20 f b0 b1 b2 b3 L b5 L L b8 b9 L (.own 3328) (.own 3328) [(90000,1,Z (rL rI) v8)]:=by
 obtain⟨h_rec,hr18,hg19,hr20⟩:=id H;unfold E8 GM;intro f
 induction f with
 | zero=>intros; intro h; simp at h
 | succ f ih=>
  intros;refine Ae ⟨?_,?_,?_,?_,?_,?_,?_,?_,?_,?_,?_,⟨⟩⟩<;>try exact gi
  .intro h0 hw;obtain rfl:=hq hw 3 rfl rfl;refine np ?_;try simp only[A7,A8,A4,C,E,F,G,I,U]
   refine K9 (Ag Ta hr18) Y (by simp only[St.fresh,zG,zH,Cu]; simp[AV.cells,V1.cells,AC.uses]) (uf Y) ?_;try simp only[A4,C,E,F,G,I,U]
   exact B23 H ..
  .intro h0 hw;obtain rfl:=hq hw 5 rfl rfl;refine np ?_;try simp only[A7,A8,A4,C,E,F,G,I,U]
   refine As (Z rI ([v6]:P V)) ?_;try simp only[A4,C,E,F,G,I,U]
   exact B24 H ..
def ii:=fun a1 a2 a3 v6 r11 (a0:X4) (y7:Xa) v8 (k_:W->Q (P (P V)))=>∀{v16} {zr},k_ v16=N zr->Kh J 200 Sf 30 [1,2,3,5,6,10,12,14,30,31,32,47] [99999999999,6,10] [90000] ⟨[pI 1 a1,pI 2 a2,pL 3 rI a3,(5,vc (.pb 99999999999 0)),pB 6,pB 10,pI 12 v6,pI 14 r11,pL 30 X2.row a0.Segments,pI 31 (a0.Segments.length:V),pI 32 v6,(47,vc (aB v16))],[(99999999999,[.own 90000]),(6,[aM X7.row a0.Points,aM X2.row a0.Segments]),(10,[aB y7.i0,aB y7.i1,aB y7.i2,aB y7.i3,aB y7.i4,aB y7.i5,aB y7.i6,aB y7.i7])],[(90000,1,Z (rL rI) v8)]⟩ (Dk [] [] [.r 0] [(1,Z (rL rI) zr)])
def WX:=fun a1 a2 a3 (a0:X4) (y7:Xa) (k_:V->(P (P V))->Q (P (P V)))=>∀{v6 v8} {zr},k_ v6 v8=N zr->Kh J 200 Sf 15 [1,2,3,5,6,10,30,31,32] [99999999999,6,10] [90000] ⟨[pI 1 a1,pI 2 a2,pL 3 rI a3,(5,vc (.pb 99999999999 0)),pB 6,pB 10,pL 30 X2.row a0.Segments,pI 31 (a0.Segments.length:V),pI 32 v6],[(99999999999,[.own 90000]),(6,[aM X7.row a0.Points,aM X2.row a0.Segments]),(10,[aB y7.i0,aB y7.i1,aB y7.i2,aB y7.i3,aB y7.i4,aB y7.i5,aB y7.i6,aB y7.i7])],[(90000,1,Z (rL rI) v8)]⟩ (Dk [] [] [.r 0] [(1,Z (rL rI) zr)])
def gf{rec_:X4->V->V->(P V)->Xa->(P (P V))->Q (P (P V))}(h_rec:∀(a0:X4) (a1 a2:V) (a3:P V) (a4:Xa) (a5:P (P V)) zr,rec_ a0 a1 a2 a3 a4 a5=N zr->FCz J 200 [.d (.ag (X4.row a0)),.d (.sc (.int .i64 a1)),.d (.sc (.int .i64 a2)),.d (.sc (.sl (Z rI a3))),.d (.ag (zI a4)),.p] [.r 0] [(1,Z (rL rI) a5)] [.r 0] [(1,Z (rL rI) zr)] []){a1 a2 a3 v6 r11 a0 y7 v8}{PP}(bD:WX a1 a2 a3 a0 y7 PP):ii a1 a2 a3 v6 r11 a0 y7 v8 (IB rec_ a1 a2 a3 v6 r11 a0 y7 v8 PP):=by
 intro v16 r h M hσ S hS;refine ev hS ?_;refine Av ?_;unfold IB at h;obtain⟨h17,h⟩|⟨h17,h⟩:=ic h
 .refine sg ?_;obtain⟨r18,h18,h⟩:=ob h;obtain⟨h19,h⟩:=AR h;obtain⟨r20,h20,h⟩:=ob h;refine DL (ks:= [1,2,3,5,6,10,12,14,30,31,32]) (bs:= [99999999999,6,10]) (rs:= [90000]) (τ:=(W9 a1 a2 a3 v6 r11 a0 y7 r18 r20)) Y (B25 ⟨h_rec,h18,h19,h20⟩ _ L L L L L L L) ?_;simp only[W9,GM,A7];refine sg ?_;exact bD h sq kr
 .refine sg ?_;exact bD h sq kr
def B26{rec_:X4->V->V->(P V)->Xa->(P (P V))->Q (P (P V))}(h_rec:∀(a0:X4) (a1 a2:V) (a3:P V) (a4:Xa) (a5:P (P V)) zr,rec_ a0 a1 a2 a3 a4 a5=N zr->FCz J 200 [.d (.ag (X4.row a0)),.d (.sc (.int .i64 a1)),.d (.sc (.int .i64 a2)),.d (.sc (.sl (Z rI a3))),.d (.ag (zI a4)),.p] [.r 0] [(1,Z (rL rI) a5)] [.r 0] [(1,Z (rL rI) zr)] []){a1 a2 a3 a0 y7}{n:X}:WX a1 a2 a3 a0 y7 (H0 rec_ a1 a2 a3 a0 y7 n):=by
 induction n with
 | zero=>intro _ _ r h; cases h
 | succ n ih=>
  intro v6 v8 r h M hσ S hS;refine ev hS ?_;rw[H0] at h;refine AA (Av ?_);obtain⟨h9,h⟩|⟨h9,h⟩:=ic h
  .obtain⟨x10,h10,h⟩:=ob h;obtain⟨r11,h11,h⟩:=ob h;refine sg ?_;refine AD (Ag fh h11) ?_;obtain⟨h12,h⟩|⟨h12,h⟩:=ic h
   .obtain⟨h13,h⟩:=AR h;refine sg ?_;refine Pu Y Y h13 ?_;obtain⟨x14,h14,h⟩:=ob h;have h14n:=Ah h14;have hA15:([aB y7.i0,aB y7.i1,aB y7.i2,aB y7.i3,aB y7.i4,aB y7.i5,aB y7.i6,aB y7.i7]:P AC)[zF r11]?=N (aB x14):=Ye h14n;refine sg ?_;exact gf h_rec ih h sq kr
   .refine sg ?_;exact gf h_rec ih h sq kr
  .refine sg ?_;cases h;exact⟨trivial,[90000],d4,d4,Y,Y⟩
def rl:AF J 200=N ((By J 200 Sf).strip,[],60):=by kernel_rfl
def A7m(rec_:X4->V->V->(P V)->Xa->(P (P V))->Q (P (P V)))(a0:X4)(a1 a2:V)(a3:P V)(a4:Xa)(a5:P (P V))(r:(P (P V)))(h_rec:∀(a0:X4) (a1 a2:V) (a3:P V) (a4:Xa) (a5:P (P V)) zr,rec_ a0 a1 a2 a3 a4 a5=N zr->FCz J 200 [.d (.ag (X4.row a0)),.d (.sc (.int .i64 a1)),.d (.sc (.int .i64 a2)),.d (.sc (.sl (Z rI a3))),.d (.ag (zI a4)),.p] [.r 0] [(1,Z (rL rI) a5)] [.r 0] [(1,Z (rL rI) zr)] [])(h:Rg rec_ a0 a1 a2 a3 a4 a5=N r):FCz J 200 [.d (.ag (X4.row a0)),.d (.sc (.int .i64 a1)),.d (.sc (.int .i64 a2)),.d (.sc (.sl (Z rI a3))),.d (.ag (zI a4)),.p] [.r 0] [(1,Z (rL rI) a5)] [.r 0] [(1,Z (rL rI) r)] []:=by
 unfold Rg at h;refine QO (M:=⟨[(0,va [aL (Z X7.row a0.Points),aL (Z X2.row a0.Segments)]),(1,vc (aI a1)),(2,vc (aI a2)),(3,vc (aL (Z rI a3))),(4,va [aB a4.i0,aB a4.i1,aB a4.i2,aB a4.i3,aB a4.i4,aB a4.i5,aB a4.i6,aB a4.i7]),(5,vc (.pb 99999999999 0))],[(99999999999,[.own 90000])],[(90000,1,Z (rL rI) a5)]⟩) A2 rl Y Y Y Y ?_;refine BC Sf ?_;intro S hS;refine ev hS ?_;refine sg ?_;obtain⟨h1,h⟩|⟨h1,h⟩:=ic h
 .refine sg ?_;obtain⟨r2,h2,h⟩:=ob h;obtain⟨h3,h⟩:=AR h;refine DL (ks:= [3,5]) (bs:= [99999999999]) (rs:= [90000]) (τ:=(W8 a3 a5 r2)) Y (B20 ⟨h_rec,h2,h3⟩ _ L L L L L) ?_;simp only[W8,I7,A7];refine sg ?_;cases h;exact⟨trivial,[90000],d4,d4,Y,Y⟩
 .obtain⟨h4,h⟩:=AR h;refine sg ?_;refine Pu Y Y h4 ?_;have hA5:BS [aB a4.i0,aB a4.i1,aB a4.i2,aB a4.i3,aB a4.i4,aB a4.i5,aB a4.i6,aB a4.i7] (zF a1) [aB T]= [aB ((Xa.set a4 (zF a1) T)).i0,aB ((Xa.set a4 (zF a1) T)).i1,aB ((Xa.set a4 (zF a1) T)).i2,aB ((Xa.set a4 (zF a1) T)).i3,aB ((Xa.set a4 (zF a1) T)).i4,aB ((Xa.set a4 (zF a1) T)).i5,aB ((Xa.set a4 (zF a1) T)).i6,aB ((Xa.set a4 (zF a1) T)).i7]:=Xa.set_eq a4 (FD h4);have hA5g:Cd [aB a4.i0,aB a4.i1,aB a4.i2,aB a4.i3,aB a4.i4,aB a4.i5,aB a4.i6,aB a4.i7] (zF a1+1)=T:=TH (FD h4);have hA5h:Cd [aB a4.i1,aB a4.i2,aB a4.i3,aB a4.i4,aB a4.i5,aB a4.i6,aB a4.i7] (zF a1)=T:=TI (c:=aB a4.i0) (FD h4);refine sg ?_;exact B26 h_rec h sq kr
def A7n:∀(n:X) (a0:X4) (a1:V) (a2:V) (a3:P V) (a4:Xa) (a5:P (P V)) (r:(P (P V))),H1 n a0 a1 a2 a3 a4 a5=N r->FCz J 200 [.d (.ag (X4.row a0)),.d (.sc (.int .i64 a1)),.d (.sc (.int .i64 a2)),.d (.sc (.sl (Z rI a3))),.d (.ag (zI a4)),.p] [.r 0] [(1,Z (rL rI) a5)] [.r 0] [(1,Z (rL rI) r)] []:=by
 intro n
 induction n with
 | zero=>intro _ _ _ _ _ _ r h; cases h
 | succ n ih=>intro a0 a1 a2 a3 a4 a5 r h; rw[H1] at h; exact A7m (H1 n) a0 a1 a2 a3 a4 a5 r ih h
def A7l{a0}{a1}{a2}{a3}{a4}{a5}{r}(h:U9 a0 a1 a2 a3 a4 a5=N r):FCz J 200 [.d (.ag (X4.row a0)),.d (.sc (.int .i64 a1)),.d (.sc (.int .i64 a2)),.d (.sc (.sl (Z rI a3))),.d (.ag (zI a4)),.p] [.r 0] [(1,Z (rL rI) a5)] [.r 0] [(1,Z (rL rI) r)] []:=A7n bigN a0 a1 a2 a3 a4 a5 r h
instance A7q:Ct 177 (∀{a0} {a1} {a2} {r},Nv a0 a1 a2=N r->FC J 177 [.ag (X4.row a0),.sc (.int .i64 a1),.sc (.int .i64 a2)] [.sc (.o 1 (Z (rL rI) r))]):=by
 refine⟨fun{a0} {a1} {a2} {r} h=> ?_⟩;unfold Nv at h;refine A3 A2 h0 [6] 34 ?_;intro S hS;refine ev hS ?_;obtain⟨r1,hr1,h⟩:=ob h;refine sg ?_;refine AD (Ag A7k hr1) ?_;obtain⟨hb2,h⟩|⟨hb2,h⟩:=ic h
 .obtain⟨r3,hr3,h⟩:=ob h;refine sg ?_;refine AD (Ag Tb hr3) ?_;obtain⟨hb4,h⟩|⟨hb4,h⟩:=ic h
  .obtain⟨r5,hr5,h⟩:=ob h;refine sg ?_;refine AD (Ag Tb hr5) ?_;obtain⟨hb6,h⟩|⟨hb6,h⟩:=ic h
   .refine sg ?_;refine AU (es:=Z (rL rI) ([]:P (P V))) ?_;refine sg ?_;refine S8 ?_;obtain⟨r7,hr7,h⟩:=ob h;refine sg ?_;refine HO (A7l hr7) 7 [1728] rfl Y Y Y d4 Y Y Y ?_;refine sg ?_;cases h;exact t0
   .refine sg ?_;cases h;exact t0
  .refine sg ?_;cases h;exact t0
 .refine sg ?_;cases h;exact t0
def ZV:Hw:=([(18,[3,9,22,23,24],[3],[960])],[])
def iX:=fun r1 (a0:X4) (k_:(P V)->V->Q ((P V) × W))=>∀{v4 v5} {zr},k_ v4 v5=N zr->Kh J 132 ZV 18 [3,9,22,23,24] [3] [960] ⟨[pB 3,pL 9 rI v4,pW 22 960,pI 23 (r1.length:V),pI 24 v5],[(3,[aM X7.row a0.Points,aM X2.row a0.Segments])],[(960,1,Z (rL rI) r1)]⟩ (A5 [6,7] [.sc (.v (.sl (Z rI zr.1))),.sc (.v (.bool zr.2))])
def B28{r1 a0}{n:X}:iX r1 a0 (FI r1 a0 n):=by
 induction n with
 | zero=>intro _ _ r h; cases h
 | succ n ih=>
  intro v4 v5 r h M hσ S hS;refine ev hS ?_;rw[FI] at h;refine AA (Av ?_);obtain⟨h6,h⟩|⟨h6,h⟩:=ic h
  .obtain⟨x7,h7,h⟩:=ob h;have h7n:=Ah h7;obtain⟨r9,h9,h⟩:=ob h;refine sg ?_;refine CO (Ag fe h9) ?_;obtain⟨r10,h10,h⟩:=ob h;refine sg ?_;refine AD (Ag fe h10) ?_;refine sg ?_;obtain⟨h11,h⟩|⟨h11,h⟩:=ic h
   .refine sg ?_;exact ih h sq kr
   .refine sg ?_;exact ih h sq kr
  .refine sg ?_;cases h;trivial
instance A7h:Ct 132 (∀{a0} {a1} {a2} {r},N9 a0 a1 a2=N r->FC J 132 [.ag (X4.row a0),.sc (.int .i64 a1),.sc (.int .i64 a2)] [.sc (.v (.sl (Z rI r.1))),.sc (.v (.bool r.2))]):=by
 refine⟨fun{a0} {a1} {a2} {r} h=> ?_⟩;unfold N9 at h;refine A3 A2 ZV [6,7] 38 ?_;intro S hS;refine ev hS ?_;obtain⟨r1,h1,h⟩:=ob h;refine sg ?_;refine AD (Ag A7q h1) ?_;obtain⟨h2,h⟩|⟨h2,h⟩:=ic h
 .refine sg ?_;cases h;trivial
 .obtain⟨x3,h3,h⟩:=ob h;have h3n:=Ah h3;refine sg ?_;exact B28 h sq kr
def UD:Hw:=([(28,[2,3,5,7,9,10],[2,3,7],[1984,1985,1986,2560]),(44,[2,3,5,7,9,10],[2,3,7],[1984,1985,1986,2560])],[(42,2,(O,.frz 3843))])
def jA:=fun(r3:(P V) × W) v7 (a0:X3) (a1:X8) (r4:Xk × W) (k_:(P X0)->Q (P X0))=>∀{v14} {zr},k_ v14=N zr->Kh J 86 UD 44 [2,3,5,7,9,10] [2,3,7] [1984,1985,1986,2560] ⟨[pB 2,pB 3,pL 5 rI r3.1,pB 7,pW 9 2560,pI 10 v7],[(2,([aI a0.Forecast.Tide.Mean,aM zE a0.Forecast.Tide.Parts,aM X9.row a0.Forecast.Surges,aM X7.row a0.Chart.Points,aM X2.row a0.Chart.Segments,aM X5.row a0.Fleet,aI a0.Regime.Gap,aB a0.Regime.NoMeet]++dm a0.Crew.row)),(3,(dm a1.row)),(7,[.own 1984,.own 1985,.own 1986])],[(1984,1,Z rB r4.1.waits),(1985,1,Z rI r4.1.minutes),(1986,1,Z (rL X6.row) r4.1.sure),(2560,4,Z X0.row v14)]⟩ (A5 [4] [.sc (.o 4 (Z X0.row zr))])
def WY:=fun(r3:(P V) × W) (a0:X3) (a1:X8) (r4:Xk × W) (k_:V->(P X0)->Q (P X0))=>∀{v7 v8} {zr},k_ v7 v8=N zr->Kh J 86 UD 28 [2,3,5,7,9,10] [2,3,7] [1984,1985,1986,2560] ⟨[pB 2,pB 3,pL 5 rI r3.1,pB 7,pW 9 2560,pI 10 v7],[(2,([aI a0.Forecast.Tide.Mean,aM zE a0.Forecast.Tide.Parts,aM X9.row a0.Forecast.Surges,aM X7.row a0.Chart.Points,aM X2.row a0.Chart.Segments,aM X5.row a0.Fleet,aI a0.Regime.Gap,aB a0.Regime.NoMeet]++dm a0.Crew.row)),(3,(dm a1.row)),(7,[.own 1984,.own 1985,.own 1986])],[(1984,1,Z rB r4.1.waits),(1985,1,Z rI r4.1.minutes),(1986,1,Z (rL X6.row) r4.1.sure),(2560,4,Z X0.row v8)]⟩ (A5 [4] [.sc (.o 4 (Z X0.row zr))])
def gg{r3 v7 a0 a1 r4}{Sz}(wC:WY r3 a0 a1 r4 Sz):jA r3 v7 a0 a1 r4 (H5 r3 v7 a0 a1 r4 Sz):=by
 intro v14 r h M hσ;unfold H5 at h;have k0:= @wC;exact gc
def B29{r3 a0 a1 r4}{n:X}:WY r3 a0 a1 r4 (EM r3 a0 a1 r4 n):=by
 induction n with
 | zero=>intro _ _ r h; cases h
 | succ n ih=>
  intro v7 v8 r h M hσ S hS;refine ev hS ?_;rw[EM] at h;refine AA (Av ?_);obtain⟨h9,h⟩|⟨h9,h⟩:=ic h
  .obtain⟨h10,h⟩|⟨h10,h⟩:=ic h
   .obtain⟨r11,h11,h⟩:=ob h;refine sg ?_;refine B8 (Ag fo h11) Y (BL Y ⟨Y,Y,Y,AQ,Y,⟨⟩⟩) Y (uf Y) ?_;refine sg ?_;obtain⟨h12,h⟩|⟨h12,h⟩:=ic h
    .refine sg ?_;refine AU (es:=Z X0.row ([r11.1]:P X0)) ?_;obtain⟨h13,h⟩:=AR h;refine sg ?_;exact gg ih h sq kr
    .refine sg ?_;exact gg ih h sq kr
   .refine sg ?_;cases h;exact t0
  .refine sg ?_;cases h;exact t0
instance B78:Ct 86 (∀{a0} {a1} {r},IL a0 a1=N r->FC J 86 [.ag (X3.row a0),.ag (X8.row a1)] [.sc (.o 4 (Z X0.row r))]):=by
 refine⟨fun h=> ?_⟩;unfold IL at h;refine A3 A2 UD [4] 69 ?_;have s0:= @Aq (Z X0.row ([]:P X0));have k0:= @B29;exact gc
def UE:Hw:=([(18,[3,4,5,7],[3,4,5],[896]),(22,[5,7,26,27,28],[5],[896,1664])],[(16,3,(O,.frz 1347))])
def ik:=fun r9 (a2:X0) (k_:V->(P X0)->Q (P X0))=>∀{v10 v11} {zr},k_ v10 v11=N zr->Kh J 38 UE 22 [5,7,26,27,28] [5] [896,1664] ⟨[pB 5,pW 7 896,pW 26 1664,pI 27 (r9.length:V),pI 28 v10],[(5,[aI a2.Start,aI a2.Arrival,aI a2.Cost,aM X1.row a2.Passages])],[(896,4,Z X0.row v11),(1664,4,Z X0.row r9)]⟩ (A5 [6] [.sc (.o 4 (Z X0.row zr))])
def ij:=fun(a0:X3) (a1:X8) (a2:X0) (k_:(P X0)->Q (P X0))=>∀{v7} {zr},k_ v7=N zr->Kh J 38 UE 18 [3,4,5,7] [3,4,5] [896] ⟨[pB 3,pB 4,pB 5,pW 7 896],[(3,([aI a0.Forecast.Tide.Mean,aM zE a0.Forecast.Tide.Parts,aM X9.row a0.Forecast.Surges,aM X7.row a0.Chart.Points,aM X2.row a0.Chart.Segments,aM X5.row a0.Fleet,aI a0.Regime.Gap,aB a0.Regime.NoMeet]++dm a0.Crew.row)),(4,(dm a1.row)),(5,[aI a2.Start,aI a2.Arrival,aI a2.Cost,aM X1.row a2.Passages])],[(896,4,Z X0.row v7)]⟩ (A5 [6] [.sc (.o 4 (Z X0.row zr))])
def B3a{r9 a2}{n:X}:ik r9 a2 (Dp r9 a2 n):=by
 induction n with
 | zero=>intro _ _ r h; cases h
 | succ n ih=>
  intro v10 v11 r h M hσ S hS;refine ev hS ?_;rw[Dp] at h;refine AA (Av ?_);obtain⟨h12,h⟩|⟨h12,h⟩:=ic h
  .obtain⟨x13,h13,h⟩:=ob h;have h13n:=Ah h13;obtain⟨r14,h14,h⟩:=ob h;refine sg ?_;refine AD (Ag fg h14) ?_;obtain⟨h15,h⟩|⟨h15,h⟩:=ic h
   .refine sg ?_;exact ih h sq kr
   .refine sg ?_;refine AU (es:=Z X0.row ([x13]:P X0)) ?_;obtain⟨h16,h⟩:=AR h;refine sg ?_;exact ih h sq kr
  .refine sg ?_;cases h;exact t0
def gh{a0 a1 a2}:ij a0 a1 a2 (IC a0 a1 a2):=by
 intro v7 r h M hσ;unfold IC at h;have k0:= @B3a;exact gc
instance B7t:Ct 38 (∀{a0} {a1} {a2} {r},EL a0 a1 a2=N r->FC J 38 [.ag (X3.row a0),.ag (X8.row a1),.ag (X0.row a2)] [.sc (.o 4 (Z X0.row r))]):=by
 refine⟨fun{a0} {a1} {a2} {r} h=> ?_⟩;unfold EL at h;refine A3 A2 UE [6] 42 ?_;intro S hS;refine ev hS ?_;obtain⟨r1,h1,h⟩:=ob h;refine sg ?_;refine AD (Ag Wr h1) ?_;obtain⟨h2,h⟩|⟨h2,h⟩:=ic h
 .refine sg ?_;refine AU (es:=Z X0.row ([]:P X0)) ?_;obtain⟨r3,h3,h⟩:=ob h;refine sg ?_;refine AD (Ag fb h3) ?_;obtain⟨h4,h⟩|⟨h4,h⟩:=ic h
  .obtain⟨r5,h5,h⟩:=ob h;refine sg ?_;refine AD (Ag fk h5) ?_;refine sg ?_;refine AU (es:=Z X0.row ([r5]:P X0)) ?_;obtain⟨h6,h⟩:=AR h;refine sg ?_;exact gh h sq kr
  .refine sg ?_;exact gh h sq kr
 .refine sg ?_;cases h;exact t0
instance A76:Ct 136 (∀{a0} {a1} {r},NS a0 a1=N r->FC J 136 [.ag (Xj.row a0),.ag (Xj.row a1)] [.sc (.v (.bool r))]):=by
 refine⟨fun h=> ?_⟩;unfold NS at h;refine A3 A2 h0 [4] 24 ?_;exact gc
instance B79:Ct 230 (∀{a0} {a1} {r},Lc a0 a1=N r->FC J 230 [.ag (X1.row a0),.ag (X1.row a1)] [.sc (.v (.bool r))]):=by
 refine⟨fun h=> ?_⟩;unfold Lc at h;refine A3 A2 h0 [4] 16 ?_;exact gc
instance B82:Ct 231 (∀{a0} {a1} {a2} {r},Lr a0 a1 a2=N r->FC J 231 [.sc (.int .i64 a0),.sc (.int .i64 a1),.sc (.int .i64 a2)] [.sc (.v (.bool r))]):=by
 refine⟨fun h=> ?_⟩;unfold Lr at h;refine A3 A2 h0 [6] 19 ?_;exact gc
def PC:Hw:=([(6,[4,5,6,7,9],[4,5,6,7],[]),(12,[4,5,6,7,24],[4,5,6,7],[]),(24,[5,6,7,41],[5,6,7],[]),(36,[6,7,72],[6,7],[])],[])
def jQ:=fun(a2:X1) (a3:X1) (k_:W->Q V)=>∀{v22} {zr},k_ v22=N zr->Kh J 207 PC 36 [6,7,72] [6,7] [] ⟨[pB 6,pB 7,(72,vc (aB v22))],[(6,(dm a2.row)),(7,(dm a3.row))],[]⟩ (A5 [8] [.sc (.v (.int .i64 zr))])
def jP:=fun(a1:Xi) (a2:X1) (a3:X1) (k_:W->W->Q V)=>∀{v15 v16} {zr},k_ v15 v16=N zr->Kh J 207 PC 24 [5,6,7,41] [5,6,7] [] ⟨[pB 5,pB 6,pB 7,(41,vc (aB v15))],[(5,[aI a1.Gap,aB v16]),(6,(dm a2.row)),(7,(dm a3.row))],[]⟩ (A5 [8] [.sc (.v (.int .i64 zr))])
def jO:=fun(a0:X4) (a1:Xi) (a2:X1) (a3:X1) (k_:W->Q V)=>∀{v7} {zr},k_ v7=N zr->Kh J 207 PC 12 [4,5,6,7,24] [4,5,6,7] [] ⟨[pB 4,pB 5,pB 6,pB 7,(24,vc (aB v7))],[(4,[aM X7.row a0.Points,aM X2.row a0.Segments]),(5,(dm a1.row)),(6,(dm a2.row)),(7,(dm a3.row))],[]⟩ (A5 [8] [.sc (.v (.int .i64 zr))])
def jN:=fun(a0:X4) (a1:Xi) (a2:X1) (a3:X1) (k_:W->Q V)=>∀{v3} {zr},k_ v3=N zr->Kh J 207 PC 6 [4,5,6,7,9] [4,5,6,7] [] ⟨[pB 4,pB 5,pB 6,pB 7,(9,vc (aB v3))],[(4,[aM X7.row a0.Points,aM X2.row a0.Segments]),(5,(dm a1.row)),(6,(dm a2.row)),(7,(dm a3.row))],[]⟩ (A5 [8] [.sc (.v (.int .i64 zr))])
def B3d{a2 a3}:jQ a2 a3 (NH a2 a3):=by
 intro v22 r h M hσ;unfold NH at h;exact gc
def B3e{a1 a2 a3}:jP a1 a2 a3 (IV a1 a2 a3):=by
 intro v15 v16 r h M hσ;unfold IV at h;have k0:= @B3d;exact gc
def B3f{a0 a1 a2 a3}:jO a0 a1 a2 a3 (NG a0 a1 a2 a3):=by
 intro v7 r h M hσ;unfold NG at h;have k0:= @B3e;exact gc
def B3g{a0 a1 a2 a3}:jN a0 a1 a2 a3 (NF a0 a1 a2 a3):=by
 intro v3 r h M hσ;unfold NF at h;have k0:= @B3f;exact gc
instance B8x:Ct 207 (∀{a0} {a1} {a2} {a3} {r},NE a0 a1 a2 a3=N r->FC J 207 [.ag (X4.row a0),.ag (Xi.row a1),.ag (X1.row a2),.ag (X1.row a3)] [.sc (.v (.int .i64 r))]):=by
 refine⟨fun h=> ?_⟩;unfold NE at h;refine A3 A2 PC [8] 116 ?_;have k0:= @B3g;exact gc
def UF:Hw:=([(6,[3,4,5,13,14,15],[4,5],[]),(20,[3,4,5,10,13,14,15,19,20,21],[4,5,10],[])],[])
def jM:=fun a3 a2 v1 (a0:X4) (a1:Xi) (x3:X1) (k_:V->Q W)=>∀{v4} {zr},k_ v4=N zr->Kh J 184 UF 20 [3,4,5,10,13,14,15,19,20,21] [4,5,10] [] ⟨[pL 3 X1.row a3,pB 4,pB 5,pB 10,pL 13 X1.row a2,pI 14 (a2.length:V),pI 15 v1,pL 19 X1.row a3,pI 20 (a3.length:V),pI 21 v4],[(4,[aM X7.row a0.Points,aM X2.row a0.Segments]),(5,(dm a1.row)),(10,(dm x3.row))],[]⟩ (A5 [8] [.sc (.v (.bool zr))])
def WZ:=fun a3 a2 (a0:X4) (a1:Xi) (k_:V->Q W)=>∀{v1} {zr},k_ v1=N zr->Kh J 184 UF 6 [3,4,5,13,14,15] [4,5] [] ⟨[pL 3 X1.row a3,pB 4,pB 5,pL 13 X1.row a2,pI 14 (a2.length:V),pI 15 v1],[(4,[aM X7.row a0.Points,aM X2.row a0.Segments]),(5,(dm a1.row))],[]⟩ (A5 [8] [.sc (.v (.bool zr))])
def B3h{a3 a2 v1 a0 a1 x3}{PQ}(wD:WZ a3 a2 a0 a1 PQ){n:X}:jM a3 a2 v1 a0 a1 x3 (IU a3 a2 v1 a0 a1 x3 PQ n):=by
 induction n with
 | zero=>intro _ r h; cases h
 | succ n ih=>
  intro v4 r h M hσ;rw[IU] at h;have k0:= @wD;exact gc
def B3i{a3 a2 a0 a1}{n:X}:WZ a3 a2 a0 a1 (Fsz a3 a2 a0 a1 n):=by
 induction n with
 | zero=>intro _ r h; cases h
 | succ n ih=>
  intro v1 r h M hσ;rw[Fsz] at h;have k0:= @B3h;exact gc
instance A7t:Ct 184 (∀{a0} {a1} {a2} {a3} {r},NC a0 a1 a2 a3=N r->FC J 184 [.ag (X4.row a0),.ag (Xi.row a1),.sc (.sl (Z X1.row a2)),.sc (.sl (Z X1.row a3))] [.sc (.v (.bool r))]):=by
 refine⟨fun h=> ?_⟩;unfold NC at h;refine A3 A2 UF [8] 33 ?_;have k0:= @B3i;exact gc
instance fj:Ct 186 (∀{a0} {r},Lk a0=N r->FC J 186 [.sc (.sl (Z X0.row a0))] [.sc (.o 4 (Z X0.row r))]):=by
 refine⟨fun h=> ?_⟩;unfold Lk at h;refine A3 A2 h0 [2] 8 ?_;have s0:= @DR _ X0.row (⟨(0:V),(0:V),(0:V),([]:P X1)⟩:X0);exact gc
instance B8c:Ct 232 (∀{a0} {a1} {r},Ld a0 a1=N r->FC J 232 [.ag (X1.row a0),.ag (X4.row a1)] [.sc (.v (.int .i64 r.1)),.sc (.v (.int .i64 r.2))]):=by
 refine⟨fun h=> ?_⟩;unfold Ld at h;refine A3 A2 h0 [4,5] 23 ?_;exact gc
instance B8z:Ct 208 (∀{a0} {a1} {a2} {r},Ln a0 a1 a2=N r->FC J 208 [.ag (X4.row a0),.ag (X1.row a1),.ag (X1.row a2)] [.ag [.v (.int .i64 r.From),.v (.int .i64 r.To),.v (.int .i64 r.A),.v (.int .i64 r.B)]]):=by
 refine⟨fun h=> ?_⟩;unfold Ln at h;refine A3 A2 h0 [.c 6 T 4] 30 ?_;exact gc
instance B84:Ct 245 (∀{a0} {a1} {a2} {r},NO a0 a1 a2=N r->FC J 245 [.ag (X4.row a0),.sc (.sl (Z X5.row a1)),.ag (X1.row a2)] [.sc (.v (.bool r))]):=by
 refine⟨fun h=> ?_⟩;unfold NO at h;refine A3 A2 h0 [6] 51 ?_;exact gc
instance B8b:Ct 233 (∀{a0} {a1} {a2} {r},Nr a0 a1 a2=N r->FC J 233 [.ag (X4.row a0),.sc (.sl (Z X5.row a1)),.ag (X1.row a2)] [.sc (.v (.bool r))]):=by
 refine⟨fun h=> ?_⟩;unfold Nr at h;refine A3 A2 h0 [6] 19 ?_;exact gc
def UG:Hw:=([(8,[1,3,8,12,13,14],[3],[704]),(31,[1,3,8,10,12,13,14,28,29],[3,10],[704])],[])
def jc:=fun a1 a2 v1 (x7:X5) (a0:X4) (x4:X1) (k_:V->(P Xb)->Q ((P Xb) × W))=>∀{v8 v9} {zr},k_ v8 v9=N zr->Kh J 209 UG 31 [1,3,8,10,12,13,14,28,29] [3,10] [704] ⟨[pL 1 X5.row a1,pB 3,pW 8 704,pB 10,pL 12 X1.row a2,pI 13 (a2.length:V),pI 14 v1,pI 28 x7.Tugs,pI 29 v8],[(3,[aM X7.row a0.Points,aM X2.row a0.Segments]),(10,(dm x4.row))],[(704,4,Z zA v9)]⟩ (A5 [6,7] [.sc (.o 4 (Z zA zr.1)),.sc (.v (.bool zr.2))])
def Xv:=fun a1 a2 (a0:X4) (k_:V->(P Xb)->Q ((P Xb) × W))=>∀{v1 v2} {zr},k_ v1 v2=N zr->Kh J 209 UG 8 [1,3,8,12,13,14] [3] [704] ⟨[pL 1 X5.row a1,pB 3,pW 8 704,pL 12 X1.row a2,pI 13 (a2.length:V),pI 14 v1],[(3,[aM X7.row a0.Points,aM X2.row a0.Segments])],[(704,4,Z zA v2)]⟩ (A5 [6,7] [.sc (.o 4 (Z zA zr.1)),.sc (.v (.bool zr.2))])
def B3j{a1 a2 v1 x7 a0 x4}{PS}(wG:Xv a1 a2 a0 PS){n:X}:jc a1 a2 v1 x7 a0 x4 (Hd a1 a2 v1 x7 a0 x4 PS n):=by
 induction n with
 | zero=>intro _ _ r h; cases h
 | succ n ih=>
  intro v8 v9 r h M hσ;rw[Hd] at h;have s0:=fun(r11:Xb)=> @Aq (Z zA ([r11]:P Xb))
  have k0:= @wG;exact gc
def B3k{a1 a2 a0}{n:X}:Xv a1 a2 a0 (FV a1 a2 a0 n):=by
 induction n with
 | zero=>intro _ _ r h; cases h
 | succ n ih=>
  intro v1 v2 r h M hσ;rw[FV] at h;have k0:= @B3j;exact gc
instance B85:Ct 209 (∀{a0} {a1} {a2} {r},NQ a0 a1 a2=N r->FC J 209 [.ag (X4.row a0),.sc (.sl (Z X5.row a1)),.sc (.sl (Z X1.row a2))] [.sc (.o 4 (Z zA r.1)),.sc (.v (.bool r.2))]):=by
 refine⟨fun h=> ?_⟩;unfold NQ at h;refine A3 A2 UG [6,7] 44 ?_;have s0:= @Aq (Z zA ([]:P Xb));have k0:= @B3k;exact gc
def ZW:Hw:=([(14,[8,9,10],[],[])],[])
def il:=fun a0 (k_:V->Q W)=>∀{v2} {zr},k_ v2=N zr->Kh J 256 ZW 14 [8,9,10] [] [] ⟨[pL 8 zA a0,pI 9 (a0.length:V),pI 10 v2],[],[]⟩ (A5 [2] [.sc (.v (.bool zr))])
def B3m{a0}{n:X}:il a0 (IE a0 n):=by
 induction n with
 | zero=>intro _ r h; cases h
 | succ n ih=>
  intro v2 r h M hσ;rw[IE] at h;exact gc
instance B7v:Ct 256 (∀{a0} {r},ID a0=N r->FC J 256 [.sc (.sl (Z zA a0))] [.sc (.v (.bool r))]):=by
 refine⟨fun h=> ?_⟩;unfold ID at h;refine A3 A2 ZW [2] 42 ?_;have k0:= @B3m;exact gc
instance A7u:Ct 246 (∀{a0} {a1} {a2} {r},Ro a0 a1 a2=N r->FC J 246 [.sc (.int .i64 a0),.sc (.sl (Z rI a1)),.sc (.sl (Z zA a2))] [.sc (.v (.bool r))]):=by
 refine⟨fun h=> ?_⟩;unfold Ro at h;refine A3 A2 h0 [6] 17 ?_;exact gc
def ZX:Hw:=([(5,[0,1,6,7,29],[6,7],[])],[])
def iq:=fun a0 a1 (a2:Xb) (a3:Xb) (k_:W->Q (V × W))=>∀{v8} {zr},k_ v8=N zr->Kh J 260 ZX 5 [0,1,6,7,29] [6,7] [] ⟨[pI 0 a0,pL 1 rI a1,pB 6,pB 7,(29,vc (aB v8))],[(6,(dm a2.row)),(7,(dm a3.row))],[]⟩ (A5 [8,9] [.sc (.v (.int .i64 zr.1)),.sc (.v (.bool zr.2))])
def B3n{a0 a1 a2 a3}:iq a0 a1 a2 a3 (IG a0 a1 a2 a3):=by
 intro v8 r h M hσ;unfold IG at h;exact gc
instance B7z:Ct 260 (∀{a0} {a1} {a2} {a3} {r},Rh a0 a1 a2 a3=N r->FC J 260 [.sc (.int .i64 a0),.sc (.sl (Z rI a1)),.ag (zA a2),.ag (zA a3)] [.sc (.v (.int .i64 r.1)),.sc (.v (.bool r.2))]):=by
 refine⟨fun h=> ?_⟩;unfold Rh at h;refine A3 A2 ZX [8,9] 41 ?_;have k0:= @B3n;exact gc
instance fZ:Ct 257 (∀{a0} {a1} {a2} {a3} {r},L6 a0 a1 a2 a3=N r->FC J 257 [.sc (.int .i64 a0),.sc (.sl (Z rI a1)),.ag (zA a2),.ag (zA a3)] [.sc (.v (.bool r))]):=by
 refine⟨fun{a0} {a1} {a2} {a3} {r} h=> ?_⟩;unfold L6 at h;refine A3 A2 h0 [8] 39 ?_;have s0:= @Aq (Z zA ([a2]:P Xb));have s1:= @Aq (Z zA ([a3]:P Xb));exact gc
def Si:Hw:=([(8,[0,1,2,7,15,16,17],[],[896]),(22,[0,1,2,7,8,9,15,16,17,22,23,24],[9],[896]),(35,[0,1,2,7,8,9,10,15,16,17,22,23,24,45],[9],[896])],[])
def jZ:=fun a0 a1 a2 v2 v6 (x5:Xb) v7 (k_:W->Q (P V))=>∀{v14} {zr},k_ v14=N zr->Kh J 247 Si 35 [0,1,2,7,8,9,10,15,16,17,22,23,24,45] [9] [896] ⟨[pI 0 a0,pL 1 rI a1,pL 2 zA a2,pW 7 896,pI 8 v2,pB 9,pI 10 v6,pL 15 zA a2,pI 16 (a2.length:V),pI 17 v2,pL 22 zA a2,pI 23 (a2.length:V),pI 24 v6,(45,vc (aB v14))],[(9,(dm x5.row))],[(896,1,Z rU v7)]⟩ (A5 [6] [.sc (.o 1 (Z rU zr))])
def Xu:=fun a0 a1 a2 v2 (x5:Xb) (k_:V->(P V)->Q (P V))=>∀{v6 v7} {zr},k_ v6 v7=N zr->Kh J 247 Si 22 [0,1,2,7,8,9,15,16,17,22,23,24] [9] [896] ⟨[pI 0 a0,pL 1 rI a1,pL 2 zA a2,pW 7 896,pI 8 v2,pB 9,pL 15 zA a2,pI 16 (a2.length:V),pI 17 v2,pL 22 zA a2,pI 23 (a2.length:V),pI 24 v6],[(9,(dm x5.row))],[(896,1,Z rU v7)]⟩ (A5 [6] [.sc (.o 1 (Z rU zr))])
def Xt:=fun a0 a1 a2 (k_:V->(P V)->Q (P V))=>∀{v2 v3} {zr},k_ v2 v3=N zr->Kh J 247 Si 8 [0,1,2,7,15,16,17] [] [896] ⟨[pI 0 a0,pL 1 rI a1,pL 2 zA a2,pW 7 896,pL 15 zA a2,pI 16 (a2.length:V),pI 17 v2],[],[(896,1,Z rU v3)]⟩ (A5 [6] [.sc (.o 1 (Z rU zr))])
def WG{a0 a1 a2 v2 v6 x5 v7}{PR}(bF:Xu a0 a1 a2 v2 x5 PR):jZ a0 a1 a2 v2 v6 x5 v7 (IZ a0 a1 a2 v2 v6 x5 v7 PR):=by
 intro v14 r h M hσ S hS;refine ev hS ?_;refine Av ?_;unfold IZ at h;obtain⟨h15,h⟩|⟨h15,h⟩:=ic h
 .obtain⟨x16,h16,h⟩:=ob h;have h16n:=Ah h16;obtain⟨h17,h⟩:=Kn h;refine sg ?_;refine AM (row:=rU) (y:=(Bl .or .u64 x16 (Bt .u64 (1:V) v6))) Y Y h16n Y Y (by rfl) ?_;refine sg ?_;exact bF h sq kr
 .refine sg ?_;exact bF h sq kr
def B3o{a0 a1 a2 v2 x5}{Kf}(wF:Xt a0 a1 a2 Kf){n:X}:Xu a0 a1 a2 v2 x5 (Eg a0 a1 a2 v2 x5 Kf n):=by
 induction n with
 | zero=>intro _ _ r h; cases h
 | succ n ih=>
  intro v6 v7 r h M hσ S hS;refine ev hS ?_;rw[Eg] at h;refine AA (Av ?_);obtain⟨h8,h⟩|⟨h8,h⟩:=ic h
  .obtain⟨x9,h9,h⟩:=ob h;refine sg ?_;obtain⟨h10,h⟩|⟨h10,h⟩:=ic h
   .obtain⟨r11,h11,h⟩:=ob h;refine sg ?_;refine AD (Ag fZ h11) ?_;obtain⟨h12,h⟩|⟨h12,h⟩:=ic h
    .refine sg ?_;exact WG ih h sq kr
    .obtain⟨r13,h13,h⟩:=ob h;refine sg ?_;refine AD (Ag fZ h13) ?_;refine sg ?_;exact WG ih h sq kr
   .refine sg ?_;exact WG ih h sq kr
  .refine sg ?_;exact wF h sq kr
def B3p{a0 a1 a2}{n:X}:Xt a0 a1 a2 (FU a0 a1 a2 n):=by
 induction n with
 | zero=>intro _ _ r h; cases h
 | succ n ih=>
  intro v2 v3 r h M hσ;rw[FU] at h;have k0:= @B3o;exact gc
instance A72:Ct 247 (∀{a0} {a1} {a2} {r},NN a0 a1 a2=N r->FC J 247 [.sc (.int .i64 a0),.sc (.sl (Z rI a1)),.sc (.sl (Z zA a2))] [.sc (.o 1 (Z rU r))]):=by
 refine⟨fun h=> ?_⟩;unfold NN at h;refine A3 A2 Si [6] 57 ?_;have s0:= @DR _ rU (0:V);have k0:= @B3p;exact gc
def Sj:Hw:=([(10,[0,2],[],[]),(18,[0,2],[],[]),(26,[0,2],[],[])],[])
def lA:=fun(k_:V->V->Q V)=>∀{v8 v9} {zr},k_ v8 v9=N zr->Kh J 262 Sj 26 [0,2] [] [] ⟨[(0,vc (.dat (.int .u64 v8))),pI 2 v9],[],[]⟩ (A5 [2] [.sc (.v (.int .i64 zr))])
def kz:=fun(k_:V->V->Q V)=>∀{v5 v6} {zr},k_ v5 v6=N zr->Kh J 262 Sj 18 [0,2] [] [] ⟨[(0,vc (.dat (.int .u64 v5))),pI 2 v6],[],[]⟩ (A5 [2] [.sc (.v (.int .i64 zr))])
def ky:=fun(k_:V->V->Q V)=>∀{v2 v3} {zr},k_ v2 v3=N zr->Kh J 262 Sj 10 [0,2] [] [] ⟨[(0,vc (.dat (.int .u64 v2))),pI 2 v3],[],[]⟩ (A5 [2] [.sc (.v (.int .i64 zr))])
def B3q:lA LJ:=by
 intro v8 v9 r h M hσ;unfold LJ at h;exact gc
def B3r:kz OD:=by
 intro v5 v6 r h M hσ;unfold OD at h;have k0:= @B3q;exact gc
def B3s:ky OC:=by
 intro v2 v3 r h M hσ;unfold OC at h;have k0:= @B3r;exact gc
instance C0r:Ct 262 (∀{a0} {r},RJ a0=N r->FC J 262 [.sc (.int .u64 a0)] [.sc (.v (.int .i64 r))]):=by
 refine⟨fun h=> ?_⟩;unfold RJ at h;refine A3 A2 Sj [2] 25 ?_;have k0:= @B3s;exact gc
instance A8s:Ct 258 (∀{a0} {r},LI a0=N r->FC J 258 [.sc (.int .u64 a0)] [.sc (.v (.int .i64 r))]):=by
 refine⟨fun h=> ?_⟩;unfold LI at h;refine A3 A2 h0 [2] 8 ?_;exact gc
def PD:Hw:=([(14,[0,3,4,5,6],[],[896,1024]),(29,[0,3,4,5,6,7,8],[],[896,1024]),(34,[0,3,4,5,6,7,8,9],[],[896,1024]),(43,[0,3,4,5,6,7,8,9],[],[896,1024])],[])
def jW:=fun a0 y5 v6 v17 v18 v21 v19 (k_:(P V)->Q V)=>∀{v28} {zr},k_ v28=N zr->Kh J 248 PD 43 [0,3,4,5,6,7,8,9] [] [896,1024] ⟨[pL 0 rU a0,pI 3 y5,pW 4 896,pW 5 1024,pI 6 v6,pI 7 v17,pI 8 v18,pI 9 v21],[],[(896,1,Z rB v19),(1024,1,Z rI v28)]⟩ (A5 [2] [.sc (.v (.int .i64 zr))])
def Xs:=fun a0 y5 v6 v17 v18 v19 (k_:V->(P V)->Q V)=>∀{v21 v22} {zr},k_ v21 v22=N zr->Kh J 248 PD 34 [0,3,4,5,6,7,8,9] [] [896,1024] ⟨[pL 0 rU a0,pI 3 y5,pW 4 896,pW 5 1024,pI 6 v6,pI 7 v17,pI 8 v18,pI 9 v21],[],[(896,1,Z rB v19),(1024,1,Z rI v22)]⟩ (A5 [2] [.sc (.v (.int .i64 zr))])
def jV:=fun a0 y5 v6 v8 (k_:V->V->(P W)->Q V)=>∀{v17 v18 v19} {zr},k_ v17 v18 v19=N zr->Kh J 248 PD 29 [0,3,4,5,6,7,8] [] [896,1024] ⟨[pL 0 rU a0,pI 3 y5,pW 4 896,pW 5 1024,pI 6 v6,pI 7 v17,pI 8 v18],[],[(896,1,Z rB v19),(1024,1,Z rI v8)]⟩ (A5 [2] [.sc (.v (.int .i64 zr))])
def QP:=fun a0 y5 (k_:V->(P W)->(P V)->Q V)=>∀{v6 v7 v8} {zr},k_ v6 v7 v8=N zr->Kh J 248 PD 14 [0,3,4,5,6] [] [896,1024] ⟨[pL 0 rU a0,pI 3 y5,pW 4 896,pW 5 1024,pI 6 v6],[],[(896,1,Z rB v7),(1024,1,Z rI v8)]⟩ (A5 [2] [.sc (.v (.int .i64 zr))])
def gl{a0 y5 v6 v17 v18 v21 v19}{CD}(PI:QP a0 y5 CD){SA}(wE:Xs a0 y5 v6 v17 v18 v19 SA):jW a0 y5 v6 v17 v18 v21 v19 (Lq a0 y5 v6 v17 v18 v21 v19 CD SA):=by
 intro v28 r h M hσ;unfold Lq at h;have k0:= @PI; have k1:= @wE;exact gc
def B3t{a0 y5 v6 v17 v18 v19}{CD}(PI:QP a0 y5 CD){n:X}:Xs a0 y5 v6 v17 v18 v19 (Ha a0 y5 v6 v17 v18 v19 CD n):=by
 induction n with
 | zero=>intro _ _ r h; cases h
 | succ n ih=>
  intro v21 v22 r h M hσ S hS;refine ev hS ?_;rw[Ha] at h;refine AA (Av ?_);obtain⟨h23,h⟩:=Kn h;obtain⟨x24,h24,h⟩:=ob h;have h24n:=Ah h24;obtain⟨h25,h⟩|⟨h25,h⟩:=ic h
  .obtain⟨x26,h26,h⟩:=ob h;have h26n:=Ah h26;obtain⟨x27,h27,h⟩:=ob h;have h27n:=Ah h27;refine sg ?_;refine AM (row:=rI) (y:=(if(IntKind.i64.wrap ((1:V)+x27))<x26 then(IntKind.i64.wrap ((1:V)+x27)) else x26)) Y Y h26n Y Y (by rfl) ?_;refine sg ?_;exact gl PI ih h sq kr
  .refine sg ?_;exact gl PI ih h sq kr
def gm{a0 y5 v6 v8}{CD}(PI:QP a0 y5 CD):jV a0 y5 v6 v8 (Lp a0 y5 v6 v8 CD):=by
 intro v17 v18 v19 r h M hσ;unfold Lp at h;have s0:= @EA _ rI ((a0.length:V));have k0:= @B3t;exact gc
def B3u{a0 y5}{n:X}:QP a0 y5 (EP a0 y5 n):=by
 induction n with
 | zero=>intro _ _ _ r h; cases h
 | succ n ih=>
  intro v6 v7 v8 r h M hσ S hS;refine ev hS ?_;rw[EP] at h;refine AA (Av ?_);obtain⟨h9,h⟩|⟨h9,h⟩:=ic h
  .obtain⟨r10,h10,h⟩:=ob h;refine sg ?_;refine AD (Ag A8s h10) ?_;obtain⟨h11,h⟩:=Kn h;obtain⟨x12,h12,h⟩:=ob h;have h12n:=Ah h12;obtain⟨h13,h⟩|⟨h13,h⟩:=ic h
   .obtain⟨x14,h14,h⟩:=ob h;obtain⟨x15,h15,h⟩:=ob h;have h15n:=Ah h15;refine sg ?_;refine AM (row:=rB) (y:=((Bl .andNot .u64 (IntKind.u64.wrap (Bl .andNot .i64 v6 (Bt .i64 (1:V) (IntKind.i64.wrap (r10 - (1:V)))))) x14)==(0:V))) Y Y h15n Y Y (by rfl) ?_;refine sg ?_;exact gm ih h sq kr
   .obtain⟨x16,h16,h⟩:=ob h;have h16n:=Ah h16;refine sg ?_;refine AM (row:=rB) (y:=false) Y Y h16n Y Y (by rfl) ?_;refine sg ?_;exact gm ih h sq kr
  .obtain⟨x30,h30,h⟩:=ob h;have h30n:=Ah h30;refine sg ?_;cases h;exact t0
instance A70:Ct 248 (∀{a0} {r},NL a0=N r->FC J 248 [.sc (.sl (Z rU a0))] [.sc (.v (.int .i64 r))]):=by
 refine⟨fun{a0} {r} h=> ?_⟩;unfold NL at h;refine A3 A2 PD [2] 88 ?_;intro S hS;refine ev hS ?_;obtain⟨h1,h⟩:=Kn h;obtain⟨n2,hn2,h⟩:=ob h;refine sg ?_;refine Sa (es:=Z rB (List.replicate n2 L)) Y Y hn2 Y (Qn Y) Y ?_;obtain⟨n3,hn3,h⟩:=ob h;refine sg ?_;refine Sa (es:=Z rI (List.replicate n3 (0:V))) Y Y hn3 Y (Qn Y) Y ?_;obtain⟨x4,h4,h⟩:=ob h;have h4n:=Ah h4;refine sg ?_;refine AM (row:=rB) (y:=true) Y Y h4n Y Y (by rfl) ?_;refine sg ?_;exact B3u h sq kr
def PE:Hw:=([(16,[0,3,4],[99999999999],[90000,90001]),(31,[0,3,4],[99999999999],[90000,90001]),(51,[0,3,4],[99999999999],[90000,90001])],[(48,7,(O,.cut 95)),(55,7,(O,.cut 123))])
def jS:=fun(a0:Xg) v2 (k_:(P V)->V->(P V)->(P V)->Q (W × Xg))=>∀{v22 v23 v24 v25} {zr},k_ v22 v23 v24 v25=N zr->Kh J 249 PE 51 [0,3,4] [99999999999] [90000,90001] ⟨[(0,vc (.pb 99999999999 0)),pI 3 (a0.who.length:V),pI 4 v2],[(99999999999,[aM rU v22,aI v23,.own 90000,.own 90001])],[(90000,1,Z rU v24),(90001,1,Z rI v25)]⟩ (Dk [2] [.sc (.v (.bool zr.1))] (CI zr.2) (CJ zr.2))
def jR:=fun(a0:Xg) v2 v3 v4 v6 (k_:(P V)->Q (W × Xg))=>∀{v11} {zr},k_ v11=N zr->Kh J 249 PE 31 [0,3,4] [99999999999] [90000,90001] ⟨[(0,vc (.pb 99999999999 0)),pI 3 (a0.who.length:V),pI 4 v2],[(99999999999,[aM rU v3,aI v4,.own 90000,.own 90001])],[(90000,1,Z rU v11),(90001,1,Z rI v6)]⟩ (Dk [2] [.sc (.v (.bool zr.1))] (CI zr.2) (CJ zr.2))
def Tn:=fun(a0:Xg) (k_:V->(P V)->V->(P V)->(P V)->Q (W × Xg))=>∀{v2 v3 v4 v5 v6} {zr},k_ v2 v3 v4 v5 v6=N zr->Kh J 249 PE 16 [0,3,4] [99999999999] [90000,90001] ⟨[(0,vc (.pb 99999999999 0)),pI 3 (a0.who.length:V),pI 4 v2],[(99999999999,[aM rU v3,aI v4,.own 90000,.own 90001])],[(90000,1,Z rU v5),(90001,1,Z rI v6)]⟩ (Dk [2] [.sc (.v (.bool zr.1))] (CI zr.2) (CJ zr.2))
def gn{rec_:Xg->Q (W × Xg)}(h_rec:∀(a0:Xg) zr,rec_ a0=N zr->FCz J 249 [.p] (CI a0) (CJ a0) (CI zr.2) (CJ zr.2) [.sc (.v (.bool zr.1))]){a0 v2}{F6}(Sn:Tn a0 F6):jS a0 v2 (IW rec_ a0 v2 F6):=by
 intro v22 v23 v24 v25 r h M hσ S hS;refine ev hS ?_;refine Av ?_;unfold IW at h;obtain⟨x26,h26,h⟩:=ob h;have h26n:=Ah h26;obtain⟨h27,h⟩|⟨h27,h⟩:=ic h
 .obtain⟨p28,h28,h⟩:=ob h;refine sg ?_;refine Ka Y Y h28 (by rfl) ?_;refine sg ?_;cases h;exact⟨⟨Y,⟨⟩⟩,[90000,90001],d4,d4,Y,Y⟩
 .refine sg ?_;exact Sn h sq kr
def gr{rec_:Xg->Q (W × Xg)}(h_rec:∀(a0:Xg) zr,rec_ a0=N zr->FCz J 249 [.p] (CI a0) (CJ a0) (CI zr.2) (CJ zr.2) [.sc (.v (.bool zr.1))]){a0 v2 v3 v4 v6}{F6}(Sn:Tn a0 F6):jR a0 v2 v3 v4 v6 (Ll rec_ a0 v2 v3 v4 v6 F6):=by
 intro v11 r h M hσ S hS;refine ev hS ?_;refine Av ?_;unfold Ll at h;refine sg ?_;obtain⟨x12,h12,h⟩:=ob h;have h12n:=Ah h12;obtain⟨x13,h13,h⟩:=ob h;obtain⟨h14,h⟩|⟨h14,h⟩:=ic h
 .obtain⟨h15,h⟩:=Kn h;refine sg ?_;refine AM (row:=rU) (y:=(Bl .or .u64 x12 (Bt .u64 (1:V) (a0.who.length:V)))) Y Y h12n Y Y (by rfl) ?_;refine sg ?_;refine AU (es:=Z rI ([v2]:P V)) ?_;obtain⟨h16,h⟩:=AR h;obtain⟨r17,h17,h⟩:=ob h;refine sg ?_;refine HO (h_rec _ _ h17) 99999999999 [90000,90001] rfl Y Y Y d4 Y Y Y ?_;obtain⟨h18,h⟩|⟨h18,h⟩:=ic h
  .refine sg ?_;cases h;exact⟨⟨Y,⟨⟩⟩,[90000,90001],d4,d4,Y,Y⟩
  .obtain⟨p19,h19,h⟩:=ob h;refine sg ?_;refine Ka Y Y h19 (by rfl) ?_;obtain⟨x20,h20,h⟩:=ob h;have h20n:=Ah h20;obtain⟨h21,h⟩:=Kn h;refine sg ?_;refine AM (row:=rU) (y:=(Bl .andNot .u64 x20 (Bt .u64 (1:V) (a0.who.length:V)))) Y Y h20n Y Y (by rfl) ?_;refine sg ?_;exact gn h_rec Sn h sq kr
 .refine sg ?_;exact gn h_rec Sn h sq kr
def B3w{rec_:Xg->Q (W × Xg)}(h_rec:∀(a0:Xg) zr,rec_ a0=N zr->FCz J 249 [.p] (CI a0) (CJ a0) (CI zr.2) (CJ zr.2) [.sc (.v (.bool zr.1))]){a0}{n:X}:Tn a0 (FT rec_ a0 n):=by
 induction n with
 | zero=>intro _ _ _ _ _ r h; cases h
 | succ n ih=>
  intro v2 v3 v4 v5 v6 r h M hσ S hS;refine ev hS ?_;rw[FT] at h;refine AA (Av ?_);obtain⟨h7,h⟩|⟨h7,h⟩:=ic h
  .obtain⟨h8,h⟩|⟨h8,h⟩:=ic h
   .obtain⟨h9,h⟩|⟨h9,h⟩:=ic h
    .refine sg ?_;refine AU (es:=Z rU ([(0:V)]:P V)) ?_;obtain⟨h10,h⟩:=AR h;refine sg ?_;exact gr h_rec ih h sq kr
    .refine sg ?_;exact gr h_rec ih h sq kr
   .refine sg ?_;cases h;exact⟨⟨Y,⟨⟩⟩,[90000,90001],d4,d4,Y,Y⟩
  .refine sg ?_;cases h;exact⟨⟨Y,⟨⟩⟩,[90000,90001],d4,d4,Y,Y⟩
def rn:AF J 249=N ((By J 249 PE).strip,[2],126):=by kernel_rfl
def A7w(rec_:Xg->Q (W × Xg))(a0:Xg)(r:W × Xg)(h_rec:∀(a0:Xg) zr,rec_ a0=N zr->FCz J 249 [.p] (CI a0) (CJ a0) (CI zr.2) (CJ zr.2) [.sc (.v (.bool zr.1))])(h:NJ rec_ a0=N r):FCz J 249 [.p] (CI a0) (CJ a0) (CI r.2) (CJ r.2) [.sc (.v (.bool r.1))]:=by
 unfold NJ at h;refine QO (M:=⟨[(0,vc (.pb 99999999999 0))],[(99999999999,[aL (Z rU a0.sets),aI a0.most,.own 90000,.own 90001])],[(90000,1,Z rU a0.groups),(90001,1,Z rI a0.who)]⟩) A2 rn Y Y Y Y ?_;refine BC PE ?_;intro S hS;refine ev hS ?_;obtain⟨h1,h⟩|⟨h1,h⟩:=ic h
 .refine sg ?_;cases h;exact⟨⟨Y,⟨⟩⟩,[90000,90001],d4,d4,Y,Y⟩
 .refine sg ?_;exact B3w h_rec h sq kr
def A7x:∀(n:X) (a0:Xg) (r:W × Xg),Ef n a0=N r->FCz J 249 [.p] (CI a0) (CJ a0) (CI r.2) (CJ r.2) [.sc (.v (.bool r.1))]:=by
 intro n
 induction n with
 | zero=>intro _ r h; cases h
 | succ n ih=>intro a0 r h; rw[Ef] at h; exact A7w (Ef n) a0 r ih h
def A7v{a0}{r}(h:Ua a0=N r):FCz J 249 [.p] (CI a0) (CJ a0) (CI r.2) (CJ r.2) [.sc (.v (.bool r.1))]:=A7x bigN a0 r h
def vu:Hw:=([],[(13,5,(O,.ownb 24 2 152704 1)),(13,6,(O,.ownb 24 3 152768 1)),(15,1,(O,.frz 1216))])
instance B73:Ct 234 (∀{a0} {a1} {a2} {r},Nj a0 a1 a2=N r->FC J 234 [.sc (.int .i64 a0),.sc (.sl (Z rI a1)),.sc (.sl (Z zA a2))] [.sc (.o 1 (Z rI r.1)),.sc (.v (.int .i64 r.2.1)),.sc (.v (.bool r.2.2))]):=by
 refine⟨fun{a0} {a1} {a2} {r} h=> ?_⟩;unfold Nj at h;refine A3 A2 vu [6,7,8] 35 ?_;intro S hS;refine ev hS ?_;obtain⟨r1,h1,h⟩:=ob h;refine sg ?_;refine AD (Ag A7u h1) ?_;obtain⟨h2,h⟩|⟨h2,h⟩:=ic h
 .obtain⟨r3,h3,h⟩:=ob h;refine sg ?_;refine AD (Ag A72 h3) ?_;obtain⟨r4,h4,h⟩:=ob h;refine sg ?_;refine B8 (Ag A70 h4) Y (Br Y) Y (uf Y) ?_;refine sg ?_;refine Gp (cs':= [.own 1216,aI r4,.own 152704,.nil]) Y Y Y Y ?_;refine sg ?_;refine Gp (cs':= [.own 1216,aI r4,.own 152704,.own 152768]) Y Y Y Y ?_;obtain⟨r5,h5,h⟩:=ob h;refine sg ?_;refine HO (A7v h5) 24 [152704,152768] rfl Y Y Y d4 Y Y Y ?_;refine sg ?_;cases h;trivial
 .refine sg ?_;cases h;trivial
instance B8y:Ct 210 (∀{a0} {a1} {a2} {a3} {r},H7 a0 a1 a2 a3=N r->FC J 210 [.sc (.int .i64 a0),.sc (.sl (Z rI a1)),.sc (.sl (Z zA a2)),.sc (.int .i64 a3)] [.sc (.v (.bool r))]):=by
 refine⟨fun h=> ?_⟩;unfold H7 at h;refine A3 A2 h0 [8] 27 ?_;exact gc
def ZZ:Hw:=([(8,[2,5,6,13,14,15],[2],[704,768])],[])
def jT:=fun a1 (a0:X3) (k_:V->(P X1)->(P Xb)->Q W)=>∀{v1 v2 v3} {zr},k_ v1 v2 v3=N zr->Kh J 185 ZZ 8 [2,5,6,13,14,15] [2] [704,768] ⟨[pB 2,pW 5 704,pW 6 768,pL 13 X0.row a1,pI 14 (a1.length:V),pI 15 v1],[(2,([aI a0.Forecast.Tide.Mean,aM zE a0.Forecast.Tide.Parts,aM X9.row a0.Forecast.Surges,aM X7.row a0.Chart.Points,aM X2.row a0.Chart.Segments,aM X5.row a0.Fleet,aI a0.Regime.Gap,aB a0.Regime.NoMeet]++dm a0.Crew.row))],[(704,5,Z X1.row v2),(768,4,Z zA v3)]⟩ (A5 [4] [.sc (.v (.bool zr))])
def B3x{a1 a0}{n:X}:jT a1 a0 (H9 a1 a0 n):=by
 induction n with
 | zero=>intro _ _ _ r h; cases h
 | succ n ih=>
  intro v1 v2 v3 r h M hσ;rw[H9] at h;have s0:=fun(r10:Xb)=> @Aq (Z zA ([r10]:P Xb))
  exact gc
instance A7y:Ct 185 (∀{a0} {a1} {r},H8 a0 a1=N r->FC J 185 [.ag (X3.row a0),.sc (.sl (Z X0.row a1))] [.sc (.v (.bool r))]):=by
 refine⟨fun h=> ?_⟩;unfold H8 at h;refine A3 A2 ZZ [4] 79 ?_;have s0:= @Aq (Z X1.row ([]:P X1));have s1:= @Aq (Z zA ([]:P Xb));have k0:= @B3x;exact gc
def B6n:P (P X × AItem):= [([],(O,.load 25 (S 3) T 12)),([],(O,.mv 26 (S 1))),([1],(O,.call 27 186 [(S 26)])),([],(O,.load 28 (S 5) T 4)),([3],(O,.bslice 29 4 [.int .i64 0,.int .i64 0,.int .i64 0,.sl []] 1 [(0,(S 28))])),([2,4,2],(O,.app 30 4 48 (S 27) (S 29))),([0,5,5],(O,.call 31 185 [(S 25),(S 30)])),([6,6,0,1,2,3,4,5,6],(O,.mv 6 (S 31)))]
def aA:Hw:=([(6,[1,3,5,9,10,11],[3,5],[])],[])
abbrev I8(a1:P X0)(a0:X3)(a2:X0)(r9:W)(wo2_:AV)(c0_ c1_:W)(c2_ c3_:W)(c4_ c5_:W)(c6_ c7_:W)(bx_:P (X × P AC))(rs_:Rows):St:=⟨[(1,vc (aL (Z X0.row a1))),(3,vc (.pb 3 0)),(5,vc (.pb 5 0)),(25,bif c0_ then va ([aI a0.Forecast.Tide.Mean,aL (Z zE a0.Forecast.Tide.Parts),aL (Z X9.row a0.Forecast.Surges),aL (Z X7.row a0.Chart.Points),aL (Z X2.row a0.Chart.Segments),aL (Z X5.row a0.Fleet),aI a0.Regime.Gap,aB a0.Regime.NoMeet]++dm a0.Crew.row) else .undef),(26,bif c1_ then vc (aL (Z X0.row a1)) else .undef),(27,bif c2_ then wo2_ else .undef),(28,bif c3_ then va [aI a2.Start,aI a2.Arrival,aI a2.Cost,aL (Z X1.row a2.Passages)] else .undef),(29,bif c4_ then vc (.own 1856) else .undef),(30,bif c5_ then vc (.own 1728) else .undef),(31,bif c6_ then vc (aB r9) else .undef),(6,bif c7_ then vc (aB r9) else .undef)],bx_,rs_⟩
abbrev Wa(a1:P X0)(a0:X3)(a2:X0)(r6:(P X0))(r9:W):St:=(I8 a1 a0 a2 r9 (vc (.undef)) T T T T T T T T [(3,([aI a0.Forecast.Tide.Mean,aL (Z zE a0.Forecast.Tide.Parts),aL (Z X9.row a0.Forecast.Surges),aL (Z X7.row a0.Chart.Points),aL (Z X2.row a0.Chart.Segments),aL (Z X5.row a0.Fleet),aI a0.Regime.Gap,aB a0.Regime.NoMeet]++dm a0.Crew.row)),(5,[aI a2.Start,aI a2.Arrival,aI a2.Cost,aL (Z X1.row a2.Passages)])] [(1728,4,Z X0.row (r6++([a2]:P X0))),(1856,4,Z X0.row ([a2]:P X0))])
def Ft:=fun a1 a0 a2 r6 r9 (f:X) (c0:W) (c1:W) (c2:W) (c3:W) (c4:W) (c5:W) (c6:W) (c7:W) c8 c9=>Dl J B6n (Wa a1 a0 a2 r6 r9) f [c0,c1,c2,c3,c4,c5,c6,c7] (I8 a1 a0 a2 r9 (vc ((c8))) c0 c1 c2 c3 c4 c5 c6 c7 [(3,([aI a0.Forecast.Tide.Mean,aL (Z zE a0.Forecast.Tide.Parts),aL (Z X9.row a0.Forecast.Surges),aL (Z X7.row a0.Chart.Points),aL (Z X2.row a0.Chart.Segments),aL (Z X5.row a0.Fleet),aI a0.Regime.Gap,aB a0.Regime.NoMeet]++dm a0.Crew.row)),(5,[aI a2.Start,aI a2.Arrival,aI a2.Cost,aL (Z X1.row a2.Passages)])] c9)
def PG:=fun a1 a0 a2 r6 r9=>(Lk a1=N r6)/\((Ab r6.length ([a2]:P X0).length 48)=T)/\(H8 a0 (r6++([a2]:P X0))=N r9)
def B3y{a1 a0 a2 r6 r9}(H:PG a1 a0 a2 r6 r9):∀(f:X) (b0 b6 b7:W),Ft a1 a0 a2 r6 r9 f b0 T T T T T b6 b7 .undef [(1728,4,Z X0.row (r6++([a2]:P X0))),(1856,4,Z X0.row ([a2]:P X0))]:=by
 obtain⟨hr6,hg7,hr9⟩:=id H;unfold Ft I8;intro f
 induction f with
 | zero=>
  intro b0 b6 b7 h;obtain rfl:b0=T:=zB.1 h b0 d0;obtain rfl:b6=T:=zB.1 h b6 d0;obtain rfl:b7=T:=zB.1 h b7 d0;rfl
 | succ f ih=>
  intro b0 b6 b7;refine Ae ⟨?_,?_,?_,?_,?_,?_,?_,?_,⟨⟩⟩<;>try exact gi
  .intro h0 hw;obtain rfl:=hz h0 rfl;obtain rfl:=hq hw 0 rfl rfl;refine np ?_;try simp only[A7,A8,A4,C,E,F,G,I,U]
   refine B8 (Ag A7y hr9) Y (Br Y) (by simp only[St.fresh,zG,zH,Cu]; simp[AV.cells,V1.cells,AC.uses]) (uf Y) ?_;try simp only[A4,C,E,F,G,I,U]
   exact ih T T b7
def gt{a1 a0 a2 r6 r9}(H:PG a1 a0 a2 r6 r9):∀(f:X) (b0:W),Ft a1 a0 a2 r6 r9 f b0 T T T T L L L (.own 1728) [(1728,4,Z X0.row r6),(1856,4,Z X0.row ([a2]:P X0))]:=by
 obtain⟨hr6,hg7,hr9⟩:=id H;unfold Ft I8;intro f
 induction f with
 | zero=>intros; intro h; simp at h
 | succ f ih=>
  intros;refine Ae ⟨?_,?_,?_,?_,?_,?_,?_,?_,⟨⟩⟩<;>try exact gi
  .intro h0 hw;refine np ?_;try simp only[hg7,A7,A8,A4,C,E,F,G,I,U]
   exact B3y H ..
def B3z{a1 a0 a2 r6 r9}(H:PG a1 a0 a2 r6 r9):∀(f:X) (b0 b3:W),Ft a1 a0 a2 r6 r9 f b0 T T b3 L L L L (.own 1728) [(1728,4,Z X0.row r6)]:=by
 obtain⟨hr6,hg7,hr9⟩:=id H;unfold Ft I8;intro f
 induction f with
 | zero=>intros; intro h; simp at h
 | succ f ih=>
  intros;refine Ae ⟨?_,?_,?_,?_,?_,?_,?_,?_,⟨⟩⟩<;>try exact gi
  .intro h0 hw;obtain rfl:=hq hw 3 rfl rfl;refine np ?_;try simp only[A7,A8,A4,C,E,F,G,I,U]
   refine As (Z X0.row ([a2]:P X0)) ?_;try simp only[A4,C,E,F,G,I,U]
   exact gt H ..
def B30{a1 a0 a2 r6 r9}(H:PG a1 a0 a2 r6 r9):∀(f:X) (b0 b1:W),Ft a1 a0 a2 r6 r9 f b0 b1 L T T L L L (.own 1728) [(1856,4,Z X0.row ([a2]:P X0))]:=by
 obtain⟨hr6,hg7,hr9⟩:=id H;unfold Ft I8;intro f
 induction f with
 | zero=>intros; intro h; simp at h
 | succ f ih=>
  intros;refine Ae ⟨?_,?_,?_,?_,?_,?_,?_,?_,⟨⟩⟩<;>try exact gi
  .intro h0 hw;obtain rfl:=hq hw 1 rfl rfl;refine kp [1,3,5,25,26,27,28,29,30,31,6] [3,5] [1728,1856] ?_;try simp only[A7,A8,zD,zC,A4,C,E,F,G,I,U]
   refine K9 (Ag fj hr6) Y (by simp only[St.fresh,zG,zH,Cu]; simp[AV.cells,V1.cells,AC.uses]) (uf Y) ?_;try simp only[A4,C,E,F,G,I,U]
   exact gt H ..
def B31{a1 a0 a2 r6 r9}(H:PG a1 a0 a2 r6 r9):∀(f:X) (b0 b1 b3:W),Ft a1 a0 a2 r6 r9 f b0 b1 L b3 L L L L (.own 1728) []:=by
 obtain⟨hr6,hg7,hr9⟩:=id H;unfold Ft I8;intro f
 induction f with
 | zero=>intros; intro h; simp at h
 | succ f ih=>
  intros;refine Ae ⟨?_,?_,?_,?_,?_,?_,?_,?_,⟨⟩⟩<;>try exact gi
  .intro h0 hw;obtain rfl:=hq hw 1 rfl rfl;refine np ?_;try simp only[A7,A8,A4,C,E,F,G,I,U]
   refine K9 (Ag fj hr6) Y (by simp only[St.fresh,zG,zH,Cu]; simp[AV.cells,V1.cells,AC.uses]) (uf Y) ?_;try simp only[A4,C,E,F,G,I,U]
   exact B3z H ..
  .intro h0 hw;obtain rfl:=hq hw 3 rfl rfl;refine np ?_;try simp only[A7,A8,A4,C,E,F,G,I,U]
   refine As (Z X0.row ([a2]:P X0)) ?_;try simp only[A4,C,E,F,G,I,U]
   exact B30 H ..
def jU:=fun a1 (a0:X3) (a2:X0) (k_:V->Q W)=>∀{v1} {zr},k_ v1=N zr->Kh J 138 aA 6 [1,3,5,9,10,11] [3,5] [] ⟨[pL 1 X0.row a1,pB 3,pB 5,pL 9 X0.row a1,pI 10 (a1.length:V),pI 11 v1],[(3,([aI a0.Forecast.Tide.Mean,aM zE a0.Forecast.Tide.Parts,aM X9.row a0.Forecast.Surges,aM X7.row a0.Chart.Points,aM X2.row a0.Chart.Segments,aM X5.row a0.Fleet,aI a0.Regime.Gap,aB a0.Regime.NoMeet]++dm a0.Crew.row)),(5,[aI a2.Start,aI a2.Arrival,aI a2.Cost,aM X1.row a2.Passages])],[]⟩ (A5 [6] [.sc (.v (.bool zr))])
def B32{a1 a0 a2}{n:X}:jU a1 a0 a2 (IX a1 a0 a2 n):=by
 induction n with
 | zero=>intro _ r h; cases h
 | succ n ih=>
  intro v1 r h M hσ S hS;refine ev hS ?_;rw[IX] at h;refine AA (Av ?_);obtain⟨h2,h⟩|⟨h2,h⟩:=ic h
  .obtain⟨x3,h3,h⟩:=ob h;obtain⟨r4,h4,h⟩:=ob h;refine sg ?_;refine AD (Ag A7t h4) ?_;obtain⟨h5,h⟩|⟨h5,h⟩:=ic h
   .refine sg ?_;cases h;exact t0
   .refine sg ?_;exact ih h sq kr
  .refine sg ?_;obtain⟨r6,h6,h⟩:=ob h;obtain⟨h7,h⟩:=AR h;obtain⟨r9,h9,h⟩:=ob h;refine DL (ks:= [1,3,5]) (bs:= [3,5]) (rs:= []) (τ:=(Wa a1 a0 a2 r6 r9)) Y (B31 ⟨h6,h7,h9⟩ _ L L L) ?_;simp only[Wa,I8,A7];refine sg ?_;cases h;exact t0
instance A7z:Ct 138 (∀{a0} {a1} {a2} {r},NK a0 a1 a2=N r->FC J 138 [.ag (X3.row a0),.sc (.sl (Z X0.row a1)),.ag (X0.row a2)] [.sc (.v (.bool r))]):=by
 refine⟨fun h=> ?_⟩;unfold NK at h;refine A3 A2 aA [6] 32 ?_;have k0:= @B32;exact gc
def B6q:P (P X × AItem):= [([],(O,.mv 40 (S 0))),([],(O,.mv 41 (S 0))),([],(O,.mv 42 (S 0))),([],(O,.mv 43 (S 0))),([3],(O,.nilc 44 (S 43))),([4],(O,.faddr 45 (S 44) 15)),([5],(O,.load 46 (S 45) L 1)),([6],(O,.call 47 137 [(S 46)])),([],(O,.load 48 (S 2) T 2)),([0,0,3,4,5,6,7],(O,.nilc 49 (S 40))),([9,0,3,4,5,6,7],(O,.faddr 50 (S 49) 16)),([10,7,7,0,3,4,5,6,7],(O,.store (S 50) (S 47) 1)),([1,0,1,3,4,5,6,7,8,9,10,11],(O,.nilc 51 (S 41))),([12,0,1,3,4,5,6,7,8,9,10,11],(O,.faddr 52 (S 51) 17)),([13,8,11,0,1,3,4,5,6,7,8,9,10,11],(O,.store (S 52) (S 48) 2)),([2,0,1,2,3,4,5,6,7,8,9,10,11,12,13,14],(O,.nilc 53 (S 42))),([15,0,1,2,3,4,5,6,7,8,9,10,11,12,13,14],(O,.faddr 54 (S 53) 19)),([16,14,0,1,2,3,4,5,6,7,8,9,10,11,12,13,14],(O,.store (S 54) (KB T) 1))]
def B6r:P (P X × AItem):= [([],(O,.mv 79 (S 0))),([],(O,.mv 80 (S 0))),([],(O,.mv 81 (S 0))),([2],(O,.nilc 82 (S 81))),([3],(O,.faddr 83 (S 82) 14)),([4],(O,.load 84 (S 83) L 1)),([],(O,.load 85 (S 5) T 4)),([6],(O,.bslice 86 4 [.int .i64 0,.int .i64 0,.int .i64 0,.sl []] 1 [(0,(S 85))])),([5,7],(O,.app 87 4 48 (S 84) (S 86))),([],(O,.mv 88 (S 0))),([9],(O,.nilc 89 (S 88))),([10],(O,.faddr 90 (S 89) 15)),([11],(O,.load 91 (S 90) L 1)),([],(O,.mv 92 (S 4))),([13],(O,.bslice 93 1 [.int .i64 0] 1 [(0,(S 92))])),([12,14,8],(O,.app 94 1 8 (S 91) (S 93))),([0,0,2,3,4,5,6,7,8,12,15],(O,.nilc 95 (S 79))),([16,0,2,3,4,5,6,7,8,12,15],(O,.faddr 96 (S 95) 14)),([17,8,15,0,2,3,4,5,6,7,8,12,15],(O,.store (S 96) (S 87) 1)),([1,0,1,2,3,4,5,6,7,8,9,10,11,12,13,14,15,16,17,18],(O,.nilc 97 (S 80))),([19,0,1,2,3,4,5,6,7,8,9,10,11,12,13,14,15,16,17,18],(O,.faddr 98 (S 97) 15)),([20,15,18,0,1,2,3,4,5,6,7,8,9,10,11,12,13,14,15,16,17,18],(O,.store (S 98) (S 94) 1))]
def B6s:P (P X × AItem):= [([],(O,.mv 101 (S 0))),([],(O,.mv 102 (S 0))),([],(O,.mv 103 (S 0))),([2],(O,.nilc 104 (S 103))),([3],(O,.faddr 105 (S 104) 14)),([4],(O,.load 106 (S 105) L 1)),([],(O,.mv 107 (S 3))),([5,6],(O,.slc 108 4 (S 106) O (N (S 107)) O)),([],(O,.mv 109 (S 0))),([8],(O,.nilc 110 (S 109))),([9],(O,.faddr 111 (S 110) 15)),([10],(O,.load 112 (S 111) L 1)),([],(O,.mv 113 (S 3))),([11,12],(O,.slc 114 1 (S 112) O (N (S 113)) O)),([0,0,2,3,4,5,6,7,11],(O,.nilc 115 (S 101))),([14,0,2,3,4,5,6,7,11],(O,.faddr 116 (S 115) 14)),([15,7,0,2,3,4,5,6,7,11],(O,.store (S 116) (S 108) 1)),([1,0,1,2,3,4,5,6,7,8,9,10,11,12,13,14,15,16],(O,.nilc 117 (S 102))),([17,0,1,2,3,4,5,6,7,8,9,10,11,12,13,14,15,16],(O,.faddr 118 (S 117) 15)),([18,13,16,0,1,2,3,4,5,6,7,8,9,10,11,12,13,14,15,16],(O,.store (S 118) (S 114) 1))]
def Sl:Hw:=([(8,[0,2],[99999999999,2],[90000,90001,90002]),(21,[0,3,61,62,63],[99999999999],[90000,90001,90002])],[])
abbrev I9(r1:Xj)(c0_ c1_:W)(c2_ c3_:W)(c4_ c5_:W)(c6_ c7_:W)(c8_ c9_:W)(c10_ c12_:W)(c13_ c15_ c16_:W)(bx_:P (X × P AC))(rs_:Rows):St:=⟨[(0,vc (.pb 99999999999 0)),(2,vc (.pb 2 0)),(40,bif c0_ then vc (.pb 99999999999 0) else .undef),(41,bif c1_ then vc (.pb 99999999999 0) else .undef),(42,bif c2_ then vc (.pb 99999999999 0) else .undef),(43,bif c3_ then vc (.pb 99999999999 0) else .undef),(44,bif c4_ then vc (.pb 99999999999 0) else .undef),(45,bif c5_ then vc (.pb 99999999999 15) else .undef),(46,bif c6_ then vc (.own 90001) else .undef),(47,bif c7_ then vc (.own 3008) else .undef),(48,bif c8_ then va [aI r1.i0,aI r1.i1] else .undef),(49,bif c9_ then vc (.pb 99999999999 0) else .undef),(50,bif c10_ then vc (.pb 99999999999 16) else .undef),(51,bif c12_ then vc (.pb 99999999999 0) else .undef),(52,bif c13_ then vc (.pb 99999999999 17) else .undef),(53,bif c15_ then vc (.pb 99999999999 0) else .undef),(54,bif c16_ then vc (.pb 99999999999 19) else .undef)],bx_,rs_⟩
abbrev Wd(F_w0:FuncId)(caps_w0:P D)(a0:Xh)(r1:Xj)(r7:(P V)):St:=(I9 r1 T T T T T T T T T T T T T T T [(99999999999,([aI a0.h.Forecast.Tide.Mean,aL (Z zE a0.h.Forecast.Tide.Parts),aL (Z X9.row a0.h.Forecast.Surges),aL (Z X7.row a0.h.Chart.Points),aL (Z X2.row a0.h.Chart.Segments),aL (Z X5.row a0.h.Fleet),aI a0.h.Regime.Gap,aB a0.h.Regime.NoMeet]++dm a0.h.Crew.row++ [aL (Z (rL X0.row) a0.choices),.dat (.clo F_w0 caps_w0),.own 90000,.own 90001,.own 3008,aI r1.i0,aI r1.i1,aB T])),(2,[aI r1.i0,aI r1.i1])] [(90000,4,Z X0.row a0.plan),(90001,1,Z rI a0.choice),(90002,1,Z rI a0.best),(3008,1,Z rI r7)])
def Fu:=fun(F_w0:FuncId) (caps_w0:P D) (a0:Xh) (r1:Xj) r7 (f:X) (c0:W) (c1:W) (c2:W) (c3:W) (c4:W) (c5:W) (c6:W) (c7:W) (c8:W) (c9:W) (c10:W) (c11:W) (c12:W) (c13:W) (c14:W) (c15:W) (c16:W) (c17:W) c18 c19 c20 c21 c22=>Dl J B6q (Wd F_w0 caps_w0 a0 r1 r7) f [c0,c1,c2,c3,c4,c5,c6,c7,c8,c9,c10,c11,c12,c13,c14,c15,c16,c17] (I9 r1 c0 c1 c2 c3 c4 c5 c6 c7 c8 c9 c10 c12 c13 c15 c16 [(99999999999,([aI a0.h.Forecast.Tide.Mean,aL (Z zE a0.h.Forecast.Tide.Parts),aL (Z X9.row a0.h.Forecast.Surges),aL (Z X7.row a0.h.Chart.Points),aL (Z X2.row a0.h.Chart.Segments),aL (Z X5.row a0.h.Fleet),aI a0.h.Regime.Gap,aB a0.h.Regime.NoMeet]++dm a0.h.Crew.row++ [aL (Z (rL X0.row) a0.choices),.dat (.clo F_w0 caps_w0),.own 90000,.own 90001,.own c18,aI c19,aI c20,aB c21])),(2,[aI r1.i0,aI r1.i1])] c22)
def PH:=fun(a0:Xh) r7=>(Ee a0.choice=N r7)/\True
def B33{F_w0 caps_w0 a0 r1 r7}(H:PH a0 r7):∀(f:X) (b15:W),Fu F_w0 caps_w0 a0 r1 r7 f T T T T T T T T T T T T T T T b15 T T 3008 r1.i0 r1.i1 T [(90000,4,Z X0.row a0.plan),(90001,1,Z rI a0.choice),(90002,1,Z rI a0.best),(3008,1,Z rI r7)]:=by
 obtain⟨h7,_⟩:=id H;unfold Fu I9;intro f
 induction f with
 | zero=>
  intro b15 h;obtain rfl:b15=T:=zB.1 h b15 d0;rfl
 | succ f ih=>
  intros;refine Ae ⟨?_,?_,?_,?_,?_,?_,?_,?_,?_,?_,?_,?_,?_,?_,?_,?_,?_,?_,⟨⟩⟩<;>try exact gi
def B34{F_w0 caps_w0 a0 r1 v5 r7}(H:PH a0 r7):∀(f:X) (b2 b12:W) (b15 b16:W),Fu F_w0 caps_w0 a0 r1 r7 f T T b2 T T T T T T T T T b12 T T b15 b16 L 3008 r1.i0 r1.i1 v5 [(90000,4,Z X0.row a0.plan),(90001,1,Z rI a0.choice),(90002,1,Z rI a0.best),(3008,1,Z rI r7)]:=by
 obtain⟨hr7,_⟩:=id H;unfold Fu I9;intro f
 induction f with
 | zero=>intros; intro h; simp at h
 | succ f ih=>
  intros;refine Ae ⟨?_,?_,?_,?_,?_,?_,?_,?_,?_,?_,?_,?_,?_,?_,?_,?_,?_,?_,⟨⟩⟩<;>try exact gi
  .intro h0 hw;obtain rfl:=hq hw 2 rfl rfl;obtain rfl:=hq hw 12 rfl rfl;obtain rfl:=hq hw 16 rfl rfl;refine np ?_;try simp only[A7,A8,A4,C,E,F,G,I,U]
   exact B33 H ..
def B35{F_w0 caps_w0 a0 r1 v5 r7}(H:PH a0 r7):∀(f:X) (b1 b2:W) (b8 b9:W) (b12 b13:W),Fu F_w0 caps_w0 a0 r1 r7 f T b1 b2 T T T T T b8 b9 T T b12 b13 L L L L 3008 a0.least.i0 a0.least.i1 v5 [(90000,4,Z X0.row a0.plan),(90001,1,Z rI a0.choice),(90002,1,Z rI a0.best),(3008,1,Z rI r7)]:=by
 obtain⟨hr7,_⟩:=id H;unfold Fu I9;intro f
 induction f with
 | zero=>intros; intro h; simp at h
 | succ f ih=>
  intros;refine Ae ⟨?_,?_,?_,?_,?_,?_,?_,?_,?_,?_,?_,?_,?_,?_,?_,?_,?_,?_,⟨⟩⟩<;>try exact gi
  .intro h0 hw;obtain rfl:=hq hw 1 rfl rfl;obtain rfl:=hq hw 8 rfl rfl;obtain rfl:=hq hw 9 rfl rfl;obtain rfl:=hq hw 13 rfl rfl;refine np ?_;try simp only[A7,A8,A4,C,E,F,G,I,U]
   exact B34 H ..
def B36{F_w0 caps_w0 a0 r1 v5 r7}(H:PH a0 r7):∀(f:X) (b0 b1:W) (b2 b3:W) (b4 b5:W) (b8 b9 b10:W),Fu F_w0 caps_w0 a0 r1 r7 f b0 b1 b2 b3 b4 b5 T T b8 b9 b10 L L L L L L L 90002 a0.least.i0 a0.least.i1 v5 [(90000,4,Z X0.row a0.plan),(90001,1,Z rI a0.choice),(90002,1,Z rI a0.best),(3008,1,Z rI r7)]:=by
 obtain⟨hr7,_⟩:=id H;unfold Fu I9;intro f
 induction f with
 | zero=>intros; intro h; simp at h
 | succ f ih=>
  intros;refine Ae ⟨?_,?_,?_,?_,?_,?_,?_,?_,?_,?_,?_,?_,?_,?_,?_,?_,?_,?_,⟨⟩⟩<;>try exact gi
  .intro h0 hw;obtain rfl:=hq hw 0 rfl rfl;obtain rfl:=hq hw 3 rfl rfl;obtain rfl:=hq hw 4 rfl rfl;obtain rfl:=hq hw 5 rfl rfl;obtain rfl:=hq hw 10 rfl rfl;refine np ?_;try simp only[A7,A8,A4,C,E,F,G,I,U]
   exact B35 H ..
def B37{F_w0 caps_w0 a0 r1 v5 r7}(H:PH a0 r7):∀(f:X) (b0 b1:W) (b2 b3:W) (b4 b5:W) (b6 b8:W),Fu F_w0 caps_w0 a0 r1 r7 f b0 b1 b2 b3 b4 b5 b6 L b8 L L L L L L L L L 90002 a0.least.i0 a0.least.i1 v5 [(90000,4,Z X0.row a0.plan),(90001,1,Z rI a0.choice),(90002,1,Z rI a0.best)]:=by
 obtain⟨hr7,_⟩:=id H;unfold Fu I9;intro f
 induction f with
 | zero=>intros; intro h; simp at h
 | succ f ih=>
  intros;refine Ae ⟨?_,?_,?_,?_,?_,?_,?_,?_,?_,?_,?_,?_,?_,?_,?_,?_,?_,?_,⟨⟩⟩<;>try exact gi
  .intro h0 hw;obtain rfl:=hq hw 6 rfl rfl;refine np ?_;try simp only[A7,A8,A4,C,E,F,G,I,U]
   refine B8 (Ag Ta hr7) Y (BL Y ⟨AQ,⟨⟩⟩) (by simp only[St.fresh,zG,zH,Cu]; simp[AV.cells,V1.cells,AC.uses]) (uf Y) ?_;try simp only[A4,C,E,F,G,I,U]
   exact B36 H ..
abbrev E4(a0:Xh)(x8:P X0)(v9:V)(x19:X0)(wo5_ wo12_:AV)(c0_ c1_:W)(c2_ c3_:W)(c4_ c5_:W)(c6_ c7_:W)(c8_ c9_:W)(c10_ c11_:W)(c12_ c13_:W)(c14_ c15_:W)(c16_ c17_:W)(c19_ c20_:W)(bx_:P (X × P AC))(rs_:Rows):St:=⟨[(0,vc (.pb 99999999999 0)),(3,vc (aI (a0.plan.length:V))),(4,vc (aI v9)),(5,vc (.pb 5 0)),(61,vc (aL (Z X0.row x8))),(62,vc (aI (x8.length:V))),(63,vc (aI v9)),(79,bif c0_ then vc (.pb 99999999999 0) else .undef),(80,bif c1_ then vc (.pb 99999999999 0) else .undef),(81,bif c2_ then vc (.pb 99999999999 0) else .undef),(82,bif c3_ then vc (.pb 99999999999 0) else .undef),(83,bif c4_ then vc (.pb 99999999999 14) else .undef),(84,bif c5_ then wo5_ else .undef),(85,bif c6_ then va [aI x19.Start,aI x19.Arrival,aI x19.Cost,aL (Z X1.row x19.Passages)] else .undef),(86,bif c7_ then vc (.own 5504) else .undef),(87,bif c8_ then vc (.own 90000) else .undef),(88,bif c9_ then vc (.pb 99999999999 0) else .undef),(89,bif c10_ then vc (.pb 99999999999 0) else .undef),(90,bif c11_ then vc (.pb 99999999999 15) else .undef),(91,bif c12_ then wo12_ else .undef),(92,bif c13_ then vc (aI v9) else .undef),(93,bif c14_ then vc (.own 5952) else .undef),(94,bif c15_ then vc (.own 90001) else .undef),(95,bif c16_ then vc (.pb 99999999999 0) else .undef),(96,bif c17_ then vc (.pb 99999999999 14) else .undef),(97,bif c19_ then vc (.pb 99999999999 0) else .undef),(98,bif c20_ then vc (.pb 99999999999 15) else .undef)],bx_,rs_⟩
abbrev We(F_w0:FuncId)(caps_w0:P D)(a0:Xh)(x8:P X0)(v9:V)(v10:X3)(v11:P (P X0))(v12 v13:V)(v14:W)(v15:P X0)(v16 v17:P V)(x19:X0):St:=(E4 a0 x8 v9 x19 (vc (.undef)) (vc (.undef)) T T T T T T T T T T T T T T T T T T T T [(99999999999,([aI v10.Forecast.Tide.Mean,aL (Z zE v10.Forecast.Tide.Parts),aL (Z X9.row v10.Forecast.Surges),aL (Z X7.row v10.Chart.Points),aL (Z X2.row v10.Chart.Segments),aL (Z X5.row v10.Fleet),aI v10.Regime.Gap,aB v10.Regime.NoMeet]++dm v10.Crew.row++ [aL (Z (rL X0.row) v11),.dat (.clo F_w0 caps_w0),.own 90000,.own 90001,.own 90002,aI v12,aI v13,aB v14])),(5,[aI x19.Start,aI x19.Arrival,aI x19.Cost,aL (Z X1.row x19.Passages)])] [(90000,4,Z X0.row (v15++([x19]:P X0))),(90001,1,Z rI (v16++([v9]:P V))),(90002,1,Z rI v17),(5504,4,Z X0.row ([x19]:P X0)),(5952,1,Z rI ([v9]:P V))])
def Cs:=fun(F_w0:FuncId) (caps_w0:P D) (a0:Xh) (x8:P X0) v9 (v10:X3) v11 v12 v13 v14 (v15:P X0) (v16:P V) v17 x19 (f:X) (c0:W) (c1:W) (c2:W) (c3:W) (c4:W) (c5:W) (c6:W) (c7:W) (c8:W) (c9:W) (c10:W) (c11:W) (c12:W) (c13:W) (c14:W) (c15:W) (c16:W) (c17:W) (c18:W) (c19:W) (c20:W) (c21:W) c22 c23 c24 c25 c26=>Dl J B6r (We F_w0 caps_w0 a0 x8 v9 v10 v11 v12 v13 v14 v15 v16 v17 x19) f [c0,c1,c2,c3,c4,c5,c6,c7,c8,c9,c10,c11,c12,c13,c14,c15,c16,c17,c18,c19,c20,c21] (E4 a0 x8 v9 x19 (vc ((c22))) (vc ((c23))) c0 c1 c2 c3 c4 c5 c6 c7 c8 c9 c10 c11 c12 c13 c14 c15 c16 c17 c19 c20 [(99999999999,([aI v10.Forecast.Tide.Mean,aL (Z zE v10.Forecast.Tide.Parts),aL (Z X9.row v10.Forecast.Surges),aL (Z X7.row v10.Chart.Points),aL (Z X2.row v10.Chart.Segments),aL (Z X5.row v10.Fleet),aI v10.Regime.Gap,aB v10.Regime.NoMeet]++dm v10.Crew.row++ [aL (Z (rL X0.row) v11),.dat (.clo F_w0 caps_w0),(c24),(c25),.own 90002,aI v12,aI v13,aB v14])),(5,[aI x19.Start,aI x19.Arrival,aI x19.Cost,aL (Z X1.row x19.Passages)])] c26)
def Gq:=fun v9 (v15:P X0) (v16:P V) x19=>((Ab v15.length ([x19]:P X0).length 48)=T)/\((Ab v16.length ([v9]:P V).length 8)=T)
def B38{F_w0 caps_w0 a0 x8 v9 v10 v11 v12 v13 v14 v15 v16 v17 x19}(H:Gq v9 v15 v16 x19):∀(f:X) (b19:W),Cs F_w0 caps_w0 a0 x8 v9 v10 v11 v12 v13 v14 v15 v16 v17 x19 f T T T T T T T T T T T T T T T T T T T b19 T T .undef .undef (.own 90000) (.own 90001) [(90000,4,Z X0.row (v15++([x19]:P X0))),(90001,1,Z rI (v16++([v9]:P V))),(90002,1,Z rI v17),(5504,4,Z X0.row ([x19]:P X0)),(5952,1,Z rI ([v9]:P V))]:=by
 obtain⟨h22,h23⟩:=id H;unfold Cs E4;intro f
 induction f with
 | zero=>
  intro b19 h;obtain rfl:b19=T:=zB.1 h b19 d0;rfl
 | succ f ih=>
  intros;refine Ae ⟨?_,?_,?_,?_,?_,?_,?_,?_,?_,?_,?_,?_,?_,?_,?_,?_,?_,?_,?_,?_,?_,?_,⟨⟩⟩<;>try exact gi
def B39{F_w0 caps_w0 a0 x8 v9 v10 v11 v12 v13 v14 v15 v16 v17 x19}(H:Gq v9 v15 v16 x19):∀(f:X) (b1 b9:W) (b10 b11:W) (b16 b19 b20:W),Cs F_w0 caps_w0 a0 x8 v9 v10 v11 v12 v13 v14 v15 v16 v17 x19 f T b1 T T T T T T T b9 b10 b11 T T T T b16 T T b19 b20 L .undef .undef (.own 90000) .undef [(90000,4,Z X0.row (v15++([x19]:P X0))),(90001,1,Z rI (v16++([v9]:P V))),(90002,1,Z rI v17),(5504,4,Z X0.row ([x19]:P X0)),(5952,1,Z rI ([v9]:P V))]:=by
 obtain⟨hg22,hg23⟩:=id H;unfold Cs E4;intro f
 induction f with
 | zero=>intros; intro h; simp at h
 | succ f ih=>
  intros;refine Ae ⟨?_,?_,?_,?_,?_,?_,?_,?_,?_,?_,?_,?_,?_,?_,?_,?_,?_,?_,?_,?_,?_,?_,⟨⟩⟩<;>try exact gi
  .intro h0 hw;obtain rfl:=hq hw 1 rfl rfl;obtain rfl:=hq hw 9 rfl rfl;obtain rfl:=hq hw 10 rfl rfl;obtain rfl:=hq hw 11 rfl rfl;obtain rfl:=hq hw 16 rfl rfl;obtain rfl:=hq hw 20 rfl rfl;refine np ?_;try simp only[A7,A8,A4,C,E,F,G,I,U]
   exact B38 H ..
def B4b{F_w0 caps_w0 a0 x8 v9 v10 v11 v12 v13 v14 v15 v16 v17 x19}(H:Gq v9 v15 v16 x19):∀(f:X) (b0 b1:W) (b2 b3:W) (b4 b9:W) (b10 b11:W) (b16 b17:W),Cs F_w0 caps_w0 a0 x8 v9 v10 v11 v12 v13 v14 v15 v16 v17 x19 f b0 b1 b2 b3 b4 T T T T b9 b10 b11 T T T T b16 b17 L L L L .undef .undef .undef .undef [(90000,4,Z X0.row (v15++([x19]:P X0))),(90001,1,Z rI (v16++([v9]:P V))),(90002,1,Z rI v17),(5504,4,Z X0.row ([x19]:P X0)),(5952,1,Z rI ([v9]:P V))]:=by
 obtain⟨hg22,hg23⟩:=id H;unfold Cs E4;intro f
 induction f with
 | zero=>intros; intro h; simp at h
 | succ f ih=>
  intros;refine Ae ⟨?_,?_,?_,?_,?_,?_,?_,?_,?_,?_,?_,?_,?_,?_,?_,?_,?_,?_,?_,?_,?_,?_,⟨⟩⟩<;>try exact gi
  .intro h0 hw;obtain rfl:=hq hw 0 rfl rfl;obtain rfl:=hq hw 2 rfl rfl;obtain rfl:=hq hw 3 rfl rfl;obtain rfl:=hq hw 4 rfl rfl;obtain rfl:=hq hw 17 rfl rfl;refine np ?_;try simp only[A7,A8,A4,C,E,F,G,I,U]
   exact B39 H ..
def gu{F_w0 caps_w0 a0 x8 v9 v10 v11 v12 v13 v14 v15 v16 v17 x19}(H:Gq v9 v15 v16 x19):∀(f:X) (b0 b1:W) (b2 b3:W) (b4 b9:W) (b10 b11 b12:W),Cs F_w0 caps_w0 a0 x8 v9 v10 v11 v12 v13 v14 v15 v16 v17 x19 f b0 b1 b2 b3 b4 T T T T b9 b10 b11 b12 T T L L L L L L L .undef (.own 90001) .undef (.own 90001) [(90000,4,Z X0.row (v15++([x19]:P X0))),(90001,1,Z rI v16),(90002,1,Z rI v17),(5504,4,Z X0.row ([x19]:P X0)),(5952,1,Z rI ([v9]:P V))]:=by
 obtain⟨hg22,hg23⟩:=id H;unfold Cs E4;intro f
 induction f with
 | zero=>intros; intro h; simp at h
 | succ f ih=>
  intros;refine Ae ⟨?_,?_,?_,?_,?_,?_,?_,?_,?_,?_,?_,?_,?_,?_,?_,?_,?_,?_,?_,?_,?_,?_,⟨⟩⟩<;>try exact gi
  .intro h0 hw;obtain rfl:=hq hw 12 rfl rfl;refine np ?_;try simp only[hg23,A7,A8,A4,C,E,F,G,I,U]
   exact B4b H ..
def B4c{F_w0 caps_w0 a0 x8 v9 v10 v11 v12 v13 v14 v15 v16 v17 x19}(H:Gq v9 v15 v16 x19):∀(f:X) (b0 b1:W) (b2 b3:W) (b4 b9:W) (b10 b11:W) (b12 b13:W),Cs F_w0 caps_w0 a0 x8 v9 v10 v11 v12 v13 v14 v15 v16 v17 x19 f b0 b1 b2 b3 b4 T T T T b9 b10 b11 b12 b13 L L L L L L L L .undef (.own 90001) .undef (.own 90001) [(90000,4,Z X0.row (v15++([x19]:P X0))),(90001,1,Z rI v16),(90002,1,Z rI v17),(5504,4,Z X0.row ([x19]:P X0))]:=by
 obtain⟨hg22,hg23⟩:=id H;unfold Cs E4;intro f
 induction f with
 | zero=>intros; intro h; simp at h
 | succ f ih=>
  intros;refine Ae ⟨?_,?_,?_,?_,?_,?_,?_,?_,?_,?_,?_,?_,?_,?_,?_,?_,?_,?_,?_,?_,?_,?_,⟨⟩⟩<;>try exact gi
  .intro h0 hw;obtain rfl:=hq hw 13 rfl rfl;refine np ?_;try simp only[A7,A8,A4,C,E,F,G,I,U]
   refine As (Z rI ([v9]:P V)) ?_;try simp only[A4,C,E,F,G,I,U]
   exact gu H ..
def gw{F_w0 caps_w0 a0 x8 v9 v10 v11 v12 v13 v14 v15 v16 v17 x19}(H:Gq v9 v15 v16 x19):∀(f:X) (b0 b1:W) (b2 b3:W) (b4 b5:W) (b9 b10:W) (b11 b12:W),Cs F_w0 caps_w0 a0 x8 v9 v10 v11 v12 v13 v14 v15 v16 v17 x19 f b0 b1 b2 b3 b4 b5 T T L b9 b10 b11 b12 T T L L L L L L L (.own 90000) (.own 90001) (.own 90000) (.own 90001) [(90000,4,Z X0.row v15),(90001,1,Z rI v16),(90002,1,Z rI v17),(5504,4,Z X0.row ([x19]:P X0)),(5952,1,Z rI ([v9]:P V))]:=by
 obtain⟨hg22,hg23⟩:=id H;unfold Cs E4;intro f
 induction f with
 | zero=>intros; intro h; simp at h
 | succ f ih=>
  intros;refine Ae ⟨?_,?_,?_,?_,?_,?_,?_,?_,?_,?_,?_,?_,?_,?_,?_,?_,?_,?_,?_,?_,?_,?_,⟨⟩⟩<;>try exact gi
  .intro h0 hw;obtain rfl:=hq hw 5 rfl rfl;refine np ?_;try simp only[hg22,A7,A8,A4,C,E,F,G,I,U]
   exact gu H ..
def B4d{F_w0 caps_w0 a0 x8 v9 v10 v11 v12 v13 v14 v15 v16 v17 x19}(H:Gq v9 v15 v16 x19):∀(f:X) (b0 b1:W) (b2 b3:W) (b4 b5:W) (b9 b10:W) (b11 b12 b13:W),Cs F_w0 caps_w0 a0 x8 v9 v10 v11 v12 v13 v14 v15 v16 v17 x19 f b0 b1 b2 b3 b4 b5 T T L b9 b10 b11 b12 b13 L L L L L L L L (.own 90000) (.own 90001) (.own 90000) (.own 90001) [(90000,4,Z X0.row v15),(90001,1,Z rI v16),(90002,1,Z rI v17),(5504,4,Z X0.row ([x19]:P X0))]:=by
 obtain⟨hg22,hg23⟩:=id H;unfold Cs E4;intro f
 induction f with
 | zero=>intros; intro h; simp at h
 | succ f ih=>
  intros;refine Ae ⟨?_,?_,?_,?_,?_,?_,?_,?_,?_,?_,?_,?_,?_,?_,?_,?_,?_,?_,?_,?_,?_,?_,⟨⟩⟩<;>try exact gi
  .intro h0 hw;obtain rfl:=hq hw 5 rfl rfl;refine np ?_;try simp only[hg22,A7,A8,A4,C,E,F,G,I,U]
   exact B4c H ..
  .intro h0 hw;obtain rfl:=hq hw 13 rfl rfl;refine np ?_;try simp only[A7,A8,A4,C,E,F,G,I,U]
   refine As (Z rI ([v9]:P V)) ?_;try simp only[A4,C,E,F,G,I,U]
   exact gw H ..
def B4e{F_w0 caps_w0 a0 x8 v9 v10 v11 v12 v13 v14 v15 v16 v17 x19}(H:Gq v9 v15 v16 x19):∀(f:X) (b0 b1:W) (b2 b3:W) (b4 b5:W) (b6 b9:W) (b10 b11 b12:W),Cs F_w0 caps_w0 a0 x8 v9 v10 v11 v12 v13 v14 v15 v16 v17 x19 f b0 b1 b2 b3 b4 b5 b6 L L b9 b10 b11 b12 T T L L L L L L L (.own 90000) (.own 90001) (.own 90000) (.own 90001) [(90000,4,Z X0.row v15),(90001,1,Z rI v16),(90002,1,Z rI v17),(5952,1,Z rI ([v9]:P V))]:=by
 obtain⟨hg22,hg23⟩:=id H;unfold Cs E4;intro f
 induction f with
 | zero=>intros; intro h; simp at h
 | succ f ih=>
  intros;refine Ae ⟨?_,?_,?_,?_,?_,?_,?_,?_,?_,?_,?_,?_,?_,?_,?_,?_,?_,?_,?_,?_,?_,?_,⟨⟩⟩<;>try exact gi
  .intro h0 hw;obtain rfl:=hq hw 6 rfl rfl;refine kp [0,3,4,5,61,62,63,79,80,81,82,83,84,85,86,87,88,89,90,91,92,93,94,95,96,97,98] [99999999999,5] [90000,90001,90002,5504,5952] ?_;try simp only[A7,A8,zD,zC,A4,C,E,F,G,I,U]
   refine As (Z X0.row ([x19]:P X0)) ?_;try simp only[A4,C,E,F,G,I,U]
   exact gw H ..
def B4f{F_w0 caps_w0 a0 x8 v9 v10 v11 v12 v13 v14 v15 v16 v17 x19}(H:Gq v9 v15 v16 x19):∀(f:X) (b0 b1:W) (b2 b3:W) (b4 b5:W) (b6 b9:W) (b10 b11:W) (b12 b13:W),Cs F_w0 caps_w0 a0 x8 v9 v10 v11 v12 v13 v14 v15 v16 v17 x19 f b0 b1 b2 b3 b4 b5 b6 L L b9 b10 b11 b12 b13 L L L L L L L L (.own 90000) (.own 90001) (.own 90000) (.own 90001) [(90000,4,Z X0.row v15),(90001,1,Z rI v16),(90002,1,Z rI v17)]:=by
 obtain⟨hg22,hg23⟩:=id H;unfold Cs E4;intro f
 induction f with
 | zero=>intros; intro h; simp at h
 | succ f ih=>
  intros;refine Ae ⟨?_,?_,?_,?_,?_,?_,?_,?_,?_,?_,?_,?_,?_,?_,?_,?_,?_,?_,?_,?_,?_,?_,⟨⟩⟩<;>try exact gi
  .intro h0 hw;obtain rfl:=hq hw 6 rfl rfl;refine np ?_;try simp only[A7,A8,A4,C,E,F,G,I,U]
   refine As (Z X0.row ([x19]:P X0)) ?_;try simp only[A4,C,E,F,G,I,U]
   exact B4d H ..
  .intro h0 hw;obtain rfl:=hq hw 13 rfl rfl;refine np ?_;try simp only[A7,A8,A4,C,E,F,G,I,U]
   refine As (Z rI ([v9]:P V)) ?_;try simp only[A4,C,E,F,G,I,U]
   exact B4e H ..
abbrev Fj(a0:Xh)(x8:P X0)(v9:V)(wo5_ wo11_:AV)(c0_ c1_:W)(c2_ c3_:W)(c4_ c5_:W)(c6_ c7_:W)(c8_ c9_:W)(c10_ c11_:W)(c12_ c13_:W)(c14_ c15_:W)(c17_ c18_:W)(bx_:P (X × P AC))(rs_:Rows):St:=⟨[(0,vc (.pb 99999999999 0)),(3,vc (aI (a0.plan.length:V))),(61,vc (aL (Z X0.row x8))),(62,vc (aI (x8.length:V))),(63,vc (aI v9)),(101,bif c0_ then vc (.pb 99999999999 0) else .undef),(102,bif c1_ then vc (.pb 99999999999 0) else .undef),(103,bif c2_ then vc (.pb 99999999999 0) else .undef),(104,bif c3_ then vc (.pb 99999999999 0) else .undef),(105,bif c4_ then vc (.pb 99999999999 14) else .undef),(106,bif c5_ then wo5_ else .undef),(107,bif c6_ then vc (aI (a0.plan.length:V)) else .undef),(108,bif c7_ then vc (.own 90000) else .undef),(109,bif c8_ then vc (.pb 99999999999 0) else .undef),(110,bif c9_ then vc (.pb 99999999999 0) else .undef),(111,bif c10_ then vc (.pb 99999999999 15) else .undef),(112,bif c11_ then wo11_ else .undef),(113,bif c12_ then vc (aI (a0.plan.length:V)) else .undef),(114,bif c13_ then vc (.own 90001) else .undef),(115,bif c14_ then vc (.pb 99999999999 0) else .undef),(116,bif c15_ then vc (.pb 99999999999 14) else .undef),(117,bif c17_ then vc (.pb 99999999999 0) else .undef),(118,bif c18_ then vc (.pb 99999999999 15) else .undef)],bx_,rs_⟩
abbrev Wf(F_w0:FuncId)(caps_w0:P D)(a0:Xh)(x8:P X0)(v9:V)(r24:Xh)(p25 p26:X × X):St:=(Fj a0 x8 v9 (vc (.undef)) (vc (.undef)) T T T T T T T T T T T T T T T T T T [(99999999999,([aI r24.h.Forecast.Tide.Mean,aL (Z zE r24.h.Forecast.Tide.Parts),aL (Z X9.row r24.h.Forecast.Surges),aL (Z X7.row r24.h.Chart.Points),aL (Z X2.row r24.h.Chart.Segments),aL (Z X5.row r24.h.Fleet),aI r24.h.Regime.Gap,aB r24.h.Regime.NoMeet]++dm r24.h.Crew.row++ [aL (Z (rL X0.row) r24.choices),.dat (.clo F_w0 caps_w0),.own 90000,.own 90001,.own 90002,aI r24.least.i0,aI r24.least.i1,aB r24.found]))] [(90000,4,Z X0.row (r24.plan.take p25.2)),(90001,1,Z rI (r24.choice.take p26.2)),(90002,1,Z rI r24.best)])
def Dh:=fun(F_w0:FuncId) (caps_w0:P D) (a0:Xh) (x8:P X0) (v9:V) (r24:Xh) p25 p26 (f:X) (c0:W) (c1:W) (c2:W) (c3:W) (c4:W) (c5:W) (c6:W) (c7:W) (c8:W) (c9:W) (c10:W) (c11:W) (c12:W) (c13:W) (c14:W) (c15:W) (c16:W) (c17:W) (c18:W) (c19:W) c20 c21 c22 c23 c24 c25=>Dl J B6s (Wf F_w0 caps_w0 a0 x8 v9 r24 p25 p26) f [c0,c1,c2,c3,c4,c5,c6,c7,c8,c9,c10,c11,c12,c13,c14,c15,c16,c17,c18,c19] (Fj a0 x8 v9 (vc ((c20))) (vc ((c21))) c0 c1 c2 c3 c4 c5 c6 c7 c8 c9 c10 c11 c12 c13 c14 c15 c17 c18 [(99999999999,([aI r24.h.Forecast.Tide.Mean,aL (Z zE r24.h.Forecast.Tide.Parts),aL (Z X9.row r24.h.Forecast.Surges),aL (Z X7.row r24.h.Chart.Points),aL (Z X2.row r24.h.Chart.Segments),aL (Z X5.row r24.h.Fleet),aI r24.h.Regime.Gap,aB r24.h.Regime.NoMeet]++dm r24.h.Crew.row++ [aL (Z (rL X0.row) r24.choices),.dat (.clo F_w0 caps_w0),(c22),(c23),.own 90002,aI r24.least.i0,aI r24.least.i1,aB r24.found]))] [(90000,4,Z X0.row c24),(90001,1,Z rI c25),(90002,1,Z rI r24.best)])
def Kc:=fun(a0:Xh) (r24:Xh) p25 p26=>(bnd (r24.plan.length:V) (a0.plan.length:V) 0 r24.plan.length=N p25)/\(bnd (r24.choice.length:V) (a0.plan.length:V) 0 r24.choice.length=N p26)
def B4g{F_w0 caps_w0 a0 x8 v9 r24 p25 p26}(H:Kc a0 r24 p25 p26):∀(f:X) (b17:W),Dh F_w0 caps_w0 a0 x8 v9 r24 p25 p26 f T T T T T T T T T T T T T T T T T b17 T T .undef .undef (.own 90000) (.own 90001) (r24.plan.take p25.2) (r24.choice.take p26.2):=by
 obtain⟨h25,h26⟩:=id H;unfold Dh Fj;intro f
 induction f with
 | zero=>
  intro b17 h;obtain rfl:b17=T:=zB.1 h b17 d0;rfl
 | succ f ih=>
  intros;refine Ae ⟨?_,?_,?_,?_,?_,?_,?_,?_,?_,?_,?_,?_,?_,?_,?_,?_,?_,?_,?_,?_,⟨⟩⟩<;>try exact gi
def gx{F_w0 caps_w0 a0 x8 v9 r24 p25 p26}(H:Kc a0 r24 p25 p26):∀(f:X) (b1 b8:W) (b9 b10:W) (b14 b17 b18:W),Dh F_w0 caps_w0 a0 x8 v9 r24 p25 p26 f T b1 T T T T T T b8 b9 b10 T T T b14 T T b17 b18 L .undef .undef (.own 90000) .undef (r24.plan.take p25.2) (r24.choice.take p26.2):=by
 obtain⟨hp25,hp26⟩:=id H;unfold Dh Fj;intro f
 induction f with
 | zero=>intros; intro h; simp at h
 | succ f ih=>
  intros;refine Ae ⟨?_,?_,?_,?_,?_,?_,?_,?_,?_,?_,?_,?_,?_,?_,?_,?_,?_,?_,?_,?_,⟨⟩⟩<;>try exact gi
  .intro h0 hw;obtain rfl:=hq hw 1 rfl rfl;obtain rfl:=hq hw 8 rfl rfl;obtain rfl:=hq hw 9 rfl rfl;obtain rfl:=hq hw 10 rfl rfl;obtain rfl:=hq hw 14 rfl rfl;obtain rfl:=hq hw 18 rfl rfl;refine np ?_;try simp only[A7,A8,A4,C,E,F,G,I,U]
   exact B4g H ..
def gy{F_w0 caps_w0 a0 x8 v9 r24 p25 p26}(H:Kc a0 r24 p25 p26):∀(f:X) (b0 b1:W) (b2 b3:W) (b4 b8:W) (b9 b10:W) (b14 b15:W),Dh F_w0 caps_w0 a0 x8 v9 r24 p25 p26 f b0 b1 b2 b3 b4 T T T b8 b9 b10 T T T b14 b15 L L L L .undef .undef .undef .undef (r24.plan.take p25.2) (r24.choice.take p26.2):=by
 obtain⟨hp25,hp26⟩:=id H;unfold Dh Fj;intro f
 induction f with
 | zero=>intros; intro h; simp at h
 | succ f ih=>
  intros;refine Ae ⟨?_,?_,?_,?_,?_,?_,?_,?_,?_,?_,?_,?_,?_,?_,?_,?_,?_,?_,?_,?_,⟨⟩⟩<;>try exact gi
  .intro h0 hw;obtain rfl:=hq hw 0 rfl rfl;obtain rfl:=hq hw 2 rfl rfl;obtain rfl:=hq hw 3 rfl rfl;obtain rfl:=hq hw 4 rfl rfl;obtain rfl:=hq hw 15 rfl rfl;refine np ?_;try simp only[A7,A8,A4,C,E,F,G,I,U]
   exact gx H ..
def B4i{F_w0 caps_w0 a0 x8 v9 r24 p25 p26}(H:Kc a0 r24 p25 p26):∀(f:X) (b1 b8:W) (b9 b10:W) (b12 b14:W),Dh F_w0 caps_w0 a0 x8 v9 r24 p25 p26 f T b1 T T T T T T b8 b9 b10 T b12 L b14 T T L L L .undef (.own 90001) (.own 90000) (.own 90001) (r24.plan.take p25.2) r24.choice:=by
 obtain⟨hp25,hp26⟩:=id H;unfold Dh Fj;intro f
 induction f with
 | zero=>intros; intro h; simp at h
 | succ f ih=>
  intros;refine Ae ⟨?_,?_,?_,?_,?_,?_,?_,?_,?_,?_,?_,?_,?_,?_,?_,?_,?_,?_,?_,?_,⟨⟩⟩<;>try exact gi
  .intro h0 hw;obtain rfl:=hq hw 12 rfl rfl;refine⟨[],[(O,.cut 114)],Y,Y,?_⟩;try simp only[A7,A8,zD,zC,A4,C,E,F,G,I,U]
   refine Ka Y Y hp26 (by rfl) ?_;try simp only[A4,C,E,F,G,I,U]
   exact gx H ..
def B4j{F_w0 caps_w0 a0 x8 v9 r24 p25 p26}(H:Kc a0 r24 p25 p26):∀(f:X) (b0 b1:W) (b2 b3:W) (b4 b8:W) (b9 b10:W) (b11 b12:W) (b14 b15:W),Dh F_w0 caps_w0 a0 x8 v9 r24 p25 p26 f b0 b1 b2 b3 b4 T T T b8 b9 b10 b11 b12 L b14 b15 L L L L .undef (.own 90001) .undef (.own 90001) (r24.plan.take p25.2) r24.choice:=by
 obtain⟨hp25,hp26⟩:=id H;unfold Dh Fj;intro f
 induction f with
 | zero=>intros; intro h; simp at h
 | succ f ih=>
  intros;refine Ae ⟨?_,?_,?_,?_,?_,?_,?_,?_,?_,?_,?_,?_,?_,?_,?_,?_,?_,?_,?_,?_,⟨⟩⟩<;>try exact gi
  .intro h0 hw;obtain rfl:=hq hw 11 rfl rfl;obtain rfl:=hq hw 12 rfl rfl;refine⟨[],[(O,.cut 114)],Y,Y,?_⟩;try simp only[A7,A8,zD,zC,A4,C,E,F,G,I,U]
   refine Ka Y Y hp26 (by rfl) ?_;try simp only[A4,C,E,F,G,I,U]
   exact gy H ..
  .intro h0 hw;obtain rfl:=hq hw 0 rfl rfl;obtain rfl:=hq hw 2 rfl rfl;obtain rfl:=hq hw 3 rfl rfl;obtain rfl:=hq hw 4 rfl rfl;obtain rfl:=hq hw 11 rfl rfl;obtain rfl:=hq hw 15 rfl rfl;refine np ?_;try simp only[A7,A8,A4,C,E,F,G,I,U]
   exact B4i H ..
def B4k{F_w0 caps_w0 a0 x8 v9 r24 p25 p26}(H:Kc a0 r24 p25 p26):∀(f:X) (b0 b1:W) (b2 b3:W) (b4 b5:W) (b6 b8:W) (b9 b10:W),Dh F_w0 caps_w0 a0 x8 v9 r24 p25 p26 f b0 b1 b2 b3 b4 b5 b6 L b8 b9 b10 T T T L L L L L L (.own 90000) .undef (.own 90000) .undef r24.plan (r24.choice.take p26.2):=by
 obtain⟨hp25,hp26⟩:=id H;unfold Dh Fj;intro f
 induction f with
 | zero=>intros; intro h; simp at h
 | succ f ih=>
  intros;refine Ae ⟨?_,?_,?_,?_,?_,?_,?_,?_,?_,?_,?_,?_,?_,?_,?_,?_,?_,?_,?_,?_,⟨⟩⟩<;>try exact gi
  .intro h0 hw;obtain rfl:=hq hw 5 rfl rfl;obtain rfl:=hq hw 6 rfl rfl;refine⟨[],[(O,.cut 108)],Y,Y,?_⟩;try simp only[A7,A8,zD,zC,A4,C,E,F,G,I,U]
   refine Ka Y Y hp25 (by rfl) ?_;try simp only[A4,C,E,F,G,I,U]
   exact gy H ..
def B4l{F_w0 caps_w0 a0 x8 v9 r24 p25 p26}(H:Kc a0 r24 p25 p26):∀(f:X) (b0 b1:W) (b2 b3:W) (b4 b5:W) (b6 b8:W) (b9 b10:W) (b11 b12:W),Dh F_w0 caps_w0 a0 x8 v9 r24 p25 p26 f b0 b1 b2 b3 b4 b5 b6 L b8 b9 b10 b11 b12 L L L L L L L (.own 90000) (.own 90001) (.own 90000) (.own 90001) r24.plan r24.choice:=by
 obtain⟨hp25,hp26⟩:=id H;unfold Dh Fj;intro f
 induction f with
 | zero=>intros; intro h; simp at h
 | succ f ih=>
  intros;refine Ae ⟨?_,?_,?_,?_,?_,?_,?_,?_,?_,?_,?_,?_,?_,?_,?_,?_,?_,?_,?_,?_,⟨⟩⟩<;>try exact gi
  .intro h0 hw;obtain rfl:=hq hw 5 rfl rfl;obtain rfl:=hq hw 6 rfl rfl;refine⟨[],[(O,.cut 108)],Y,Y,?_⟩;try simp only[A7,A8,zD,zC,A4,C,E,F,G,I,U]
   refine Ka Y Y hp25 (by rfl) ?_;try simp only[A4,C,E,F,G,I,U]
   exact B4j H ..
  .intro h0 hw;obtain rfl:=hq hw 11 rfl rfl;obtain rfl:=hq hw 12 rfl rfl;refine⟨[],[(O,.cut 114)],Y,Y,?_⟩;try simp only[A7,A8,zD,zC,A4,C,E,F,G,I,U]
   refine Ka Y Y hp26 (by rfl) ?_;try simp only[A4,C,E,F,G,I,U]
   exact B4k H ..
def jb:=fun F_w0 caps_w0 (a0:Xh) x8 (k_:V->X3->(P (P X0))->V->V->W->(P X0)->(P V)->(P V)->Q Xh)=>∀{v9 v10 v11 v12 v13 v14 v15 v16 v17} {zr},k_ v9 v10 v11 v12 v13 v14 v15 v16 v17=N zr->Kh J 88 Sl 21 [0,3,61,62,63] [99999999999] [90000,90001,90002] ⟨[(0,vc (.pb 99999999999 0)),pI 3 (a0.plan.length:V),pL 61 X0.row x8,pI 62 (x8.length:V),pI 63 v9],[(99999999999,([aI v10.Forecast.Tide.Mean,aM zE v10.Forecast.Tide.Parts,aM X9.row v10.Forecast.Surges,aM X7.row v10.Chart.Points,aM X2.row v10.Chart.Segments,aM X5.row v10.Fleet,aI v10.Regime.Gap,aB v10.Regime.NoMeet]++dm v10.Crew.row++ [aM (rL X0.row) v11,.dat (.clo F_w0 caps_w0),.own 90000,.own 90001,.own 90002,aI v12,aI v13,aB v14]))],[(90000,4,Z X0.row v15),(90001,1,Z rI v16),(90002,1,Z rI v17)]⟩ (Dk [] [] (Dg F_w0 caps_w0 zr) (Di zr))
def ja:=fun F_w0 caps_w0 (a0:Xh) (r1:Xj) (k_:W->Q Xh)=>∀{v5} {zr},k_ v5=N zr->Kh J 88 Sl 8 [0,2] [99999999999,2] [90000,90001,90002] ⟨[(0,vc (.pb 99999999999 0)),pB 2],[(99999999999,([aI a0.h.Forecast.Tide.Mean,aM zE a0.h.Forecast.Tide.Parts,aM X9.row a0.h.Forecast.Surges,aM X7.row a0.h.Chart.Points,aM X2.row a0.h.Chart.Segments,aM X5.row a0.h.Fleet,aI a0.h.Regime.Gap,aB a0.h.Regime.NoMeet]++dm a0.h.Crew.row++ [aM (rL X0.row) a0.choices,.dat (.clo F_w0 caps_w0),.own 90000,.own 90001,.own 90002,aI a0.least.i0,aI a0.least.i1,aB v5])),(2,[aI r1.i0,aI r1.i1])],[(90000,4,Z X0.row a0.plan),(90001,1,Z rI a0.choice),(90002,1,Z rI a0.best)]⟩ (Dk [] [] (Dg F_w0 caps_w0 zr) (Di zr))
def B4m{w0:(P X0)->Q Xj}{rec_:Xh->Q Xh}{F_w0 caps_w0}(hF_w0:BQ J F_w0=T)(h_w0:∀z0 zr,w0 z0=N zr->FC J F_w0 ([.sc (.sl (Z X0.row z0))]++caps_w0.map .sc) [.ag [.v (.int .i64 zr.i0),.v (.int .i64 zr.i1)]])(h_rec:∀(a0:Xh) zr,rec_ a0=N zr->FCz J 88 [.p] (Dg F_w0 caps_w0 a0) (Di a0) (Dg F_w0 caps_w0 zr) (Di zr) []){a0 x8}{n:X}:jb F_w0 caps_w0 a0 x8 (Eh w0 rec_ a0 x8 n):=by
 induction n with
 | zero=>intro _ _ _ _ _ _ _ _ _ r h; cases h
 | succ n ih=>
  intro v9 v10 v11 v12 v13 v14 v15 v16 v17 r h M hσ S hS;refine ev hS ?_;rw[Eh] at h;refine AA (Av ?_);obtain⟨h18,h⟩|⟨h18,h⟩:=ic h
  .obtain⟨x19,h19,h⟩:=ob h;obtain⟨r20,h20,h⟩:=ob h;refine sg ?_;refine B8 (Ag A7z h20) Y (Br Y) Y (uf Y) ?_;refine sg ?_;obtain⟨h21,h⟩|⟨h21,h⟩:=ic h
   .refine sg ?_;obtain⟨h22,h⟩:=AR h;obtain⟨h23,h⟩:=AR h;refine DL (ks:= [0,3,4,5,61,62,63]) (bs:= [99999999999,5]) (rs:= [90000,90001,90002]) (τ:=(We F_w0 caps_w0 a0 x8 v9 v10 v11 v12 v13 v14 v15 v16 v17 x19)) Y (B4f ⟨h22,h23⟩ _ L L L L L L L L L L L L) ?_;simp only[We,E4,A7];refine sg ?_;refine S8 ?_;obtain⟨r24,h24,h⟩:=ob h;refine sg ?_;refine HO (h_rec _ _ h24) 99999999999 [90000,90001,90002] rfl Y Y Y d4 Y Y Y ?_;refine sg ?_;obtain⟨p25,h25,h⟩:=ob h;obtain⟨p26,h26,h⟩:=ob h;refine DL (ks:= [0,3,61,62,63]) (bs:= [99999999999]) (rs:= [90000,90001,90002]) (τ:=(Wf F_w0 caps_w0 a0 x8 v9 r24 p25 p26)) Y (B4l ⟨h25,h26⟩ _ L L L L L L L L L L L L) ?_;simp only[Wf,Fj,A7];refine sg ?_;exact ih h sq kr
   .refine sg ?_;exact ih h sq kr
  .refine sg ?_;cases h;exact⟨trivial,[90000,90001,90002],d4,d4,Y,Y⟩
def gz{w0:(P X0)->Q Xj}{rec_:Xh->Q Xh}{F_w0 caps_w0}(hF_w0:BQ J F_w0=T)(h_w0:∀z0 zr,w0 z0=N zr->FC J F_w0 ([.sc (.sl (Z X0.row z0))]++caps_w0.map .sc) [.ag [.v (.int .i64 zr.i0),.v (.int .i64 zr.i1)]])(h_rec:∀(a0:Xh) zr,rec_ a0=N zr->FCz J 88 [.p] (Dg F_w0 caps_w0 a0) (Di a0) (Dg F_w0 caps_w0 zr) (Di zr) []){a0 r1}:ja F_w0 caps_w0 a0 r1 (J0 w0 rec_ a0 r1):=by
 intro v5 r h M hσ S hS;refine ev hS ?_;refine Av ?_;unfold J0 at h;obtain⟨h6,h⟩|⟨h6,h⟩:=ic h
 .refine sg ?_;obtain⟨r7,h7,h⟩:=ob h;refine DL (ks:= [0,2]) (bs:= [99999999999,2]) (rs:= [90000,90001,90002]) (τ:=(Wd F_w0 caps_w0 a0 r1 r7)) Y (B37 ⟨h7,⟨⟩⟩ _ L L L L L L L L) ?_;simp only[Wd,I9,A7];refine sg ?_;cases h;exact⟨trivial,[90000,90001,3008],d4,d4,Y,Y⟩
 .obtain⟨x8,h8,h⟩:=ob h;refine sg ?_;exact B4m hF_w0 h_w0 h_rec h sq kr
def ro:AF J 88=N ((By J 88 Sl).strip,[],120):=by kernel_rfl
def A74(w0:(P X0)->Q Xj)(rec_:Xh->Q Xh)(a0 r:Xh)(F_w0:FuncId)(caps_w0:P D)(hF_w0:BQ J F_w0=T)(h_w0:∀z0 zr,w0 z0=N zr->FC J F_w0 ([.sc (.sl (Z X0.row z0))]++caps_w0.map .sc) [.ag [.v (.int .i64 zr.i0),.v (.int .i64 zr.i1)]])(h_rec:∀(a0:Xh) zr,rec_ a0=N zr->FCz J 88 [.p] (Dg F_w0 caps_w0 a0) (Di a0) (Dg F_w0 caps_w0 zr) (Di zr) [])(h:NP w0 rec_ a0=N r):FCz J 88 [.p] (Dg F_w0 caps_w0 a0) (Di a0) (Dg F_w0 caps_w0 r) (Di r) []:=by
 unfold NP at h;refine QO (M:=⟨[(0,vc (.pb 99999999999 0))],[(99999999999,[aI a0.h.Forecast.Tide.Mean,aL (Z zE a0.h.Forecast.Tide.Parts),aL (Z X9.row a0.h.Forecast.Surges),aL (Z X7.row a0.h.Chart.Points),aL (Z X2.row a0.h.Chart.Segments),aL (Z X5.row a0.h.Fleet),aI a0.h.Regime.Gap,aB a0.h.Regime.NoMeet,aI a0.h.Crew.Tugs,aI a0.h.Crew.Pilots,aI a0.h.Crew.Rest,aL (Z rI a0.h.Crew.Moves),aL (Z (rL X0.row) a0.choices),.dat (.clo F_w0 caps_w0),.own 90000,.own 90001,.own 90002,aI a0.least.i0,aI a0.least.i1,aB a0.found])],[(90000,4,Z X0.row a0.plan),(90001,1,Z rI a0.choice),(90002,1,Z rI a0.best)]⟩) A2 ro Y Y Y Y ?_;refine BC Sl ?_;intro S hS;refine ev hS ?_;obtain⟨r1,h1,h⟩:=ob h;refine sg ?_;refine ue (h_w0 _ _ h1) hF_w0 (by first | rfl | kernel_rfl) (by first | rfl | kernel_rfl) (Br Y) Y (uf Y) ?_;refine sg ?_;refine Uj (m:= .box 2 [aI (0:V),aI (0:V)]) Y Y (SO Y Y) ?_;refine sg ?_;obtain⟨h2,h⟩|⟨h2,h⟩:=ic h
 .obtain⟨r3,h3,h⟩:=ob h;refine sg ?_;refine Pz (by first | rfl | kernel_rfl) ?_;refine AD (Ag A76 h3) ?_;refine sg ?_;obtain⟨h4,h⟩|⟨h4,h⟩:=ic h
  .refine sg ?_;exact gz hF_w0 h_w0 h_rec h sq kr
  .refine sg ?_;cases h;exact⟨trivial,[90000,90001,90002],d4,d4,Y,Y⟩
 .refine sg ?_;refine Py (by first | rfl | kernel_rfl) Y ?_;refine sg ?_;exact gz hF_w0 h_w0 h_rec h sq kr
def A75(w0:(P X0)->Q Xj)(F_w0:FuncId)(caps_w0:P D)(hF_w0:BQ J F_w0=T)(h_w0:∀z0 zr,w0 z0=N zr->FC J F_w0 ([.sc (.sl (Z X0.row z0))]++caps_w0.map .sc) [.ag [.v (.int .i64 zr.i0),.v (.int .i64 zr.i1)]]):∀(n:X) (a0 r:Xh),DF w0 n a0=N r->FCz J 88 [.p] (Dg F_w0 caps_w0 a0) (Di a0) (Dg F_w0 caps_w0 r) (Di r) []:=by
 intro n
 induction n with
 | zero=>intro _ r h; cases h
 | succ n ih=>intro a0 r h; rw[DF] at h; exact A74 w0 (DF w0 n) a0 r F_w0 caps_w0 hF_w0 h_w0 ih h
def A73{w0}{a0}{r}(F_w0:FuncId)(caps_w0:P D)(hF_w0:BQ J F_w0=T)(h_w0:∀z0 zr,w0 z0=N zr->FC J F_w0 ([.sc (.sl (Z X0.row z0))]++caps_w0.map .sc) [.ag [.v (.int .i64 zr.i0),.v (.int .i64 zr.i1)]])(h:Ub w0 a0=N r):FCz J 88 [.p] (Dg F_w0 caps_w0 a0) (Di a0) (Dg F_w0 caps_w0 r) (Di r) []:=A75 w0 F_w0 caps_w0 hF_w0 h_w0 bigN a0 r h
def B6o:P (P X × AItem):= [([],(O,.mv 17 (S 9))),([0],(O,.nilc 18 (S 17))),([1],(O,.faddr 19 (S 18) 16)),([2],(O,.load 20 (S 19) L 1)),([],(O,.mv 21 (S 9))),([4],(O,.nilc 22 (S 21))),([5],(O,.faddr 23 (S 22) 17)),([6],(O,.load 24 (S 23) T 2)),([],(O,.mv 25 (S 9))),([8],(O,.nilc 26 (S 25))),([9],(O,.faddr 27 (S 26) 19)),([10],(O,.load 28 (S 27) L 1)),([3,0,1,2,3],(O,.mv 6 (S 20))),([7,12,0,1,2,3,4,5,6,7,12],(O,.store (S 7) (S 24) 2)),([11,13,0,1,2,3,4,5,6,7,8,9,10,11,12,13],(O,.mv 8 (S 28)))]
def vw:Hw:=([],[(3,5,(O,.ownb 14 14 143232 4)),(3,6,(O,.ownb 14 15 143296 1)),(3,7,(O,.ownb 14 16 143360 1))])
abbrev Qw(r1:Xh)(c0_ c1_:W)(c2_ c3_:W)(c4_ c5_:W)(c6_ c7_:W)(c8_ c9_:W)(c10_ c11_:W)(c12_ c14_:W)(bx_:P (X × P AC))(rs_:Rows):St:=⟨[(7,vc (.pb 7 0)),(9,vc (.pb 14 0)),(17,bif c0_ then vc (.pb 14 0) else .undef),(18,bif c1_ then vc (.pb 14 0) else .undef),(19,bif c2_ then vc (.pb 14 16) else .undef),(20,bif c3_ then vc (.own 143360) else .undef),(21,bif c4_ then vc (.pb 14 0) else .undef),(22,bif c5_ then vc (.pb 14 0) else .undef),(23,bif c6_ then vc (.pb 14 17) else .undef),(24,bif c7_ then va [aI r1.least.i0,aI r1.least.i1] else .undef),(25,bif c8_ then vc (.pb 14 0) else .undef),(26,bif c9_ then vc (.pb 14 0) else .undef),(27,bif c10_ then vc (.pb 14 19) else .undef),(28,bif c11_ then vc (aB r1.found) else .undef),(6,bif c12_ then vc (.own 143360) else .undef),(8,bif c14_ then vc (aB r1.found) else .undef)],bx_,rs_⟩
abbrev Wb(F_a2:FuncId)(caps_a2:P D)(r1:Xh):St:=(Qw r1 T T T T T T T T T T T T T T [(7,[aI r1.least.i0,aI r1.least.i1]),(14,([aI r1.h.Forecast.Tide.Mean,aL (Z zE r1.h.Forecast.Tide.Parts),aL (Z X9.row r1.h.Forecast.Surges),aL (Z X7.row r1.h.Chart.Points),aL (Z X2.row r1.h.Chart.Segments),aL (Z X5.row r1.h.Fleet),aI r1.h.Regime.Gap,aB r1.h.Regime.NoMeet]++dm r1.h.Crew.row++ [aL (Z (rL X0.row) r1.choices),.dat (.clo F_a2 caps_a2),.own 143232,.own 143296,.own 143360,aI r1.least.i0,aI r1.least.i1,aB r1.found]))] [(143232,4,Z X0.row r1.plan),(143296,1,Z rI r1.choice),(143360,1,Z rI r1.best)])
def Tj:=fun(F_a2:FuncId) (caps_a2:P D) (r1:Xh) (f:X) (c0:W) (c1:W) (c2:W) (c3:W) (c4:W) (c5:W) (c6:W) (c7:W) (c8:W) (c9:W) (c10:W) (c11:W) (c12:W) (c13:W) (c14:W) c15 c16=>Dl J B6o (Wb F_a2 caps_a2 r1) f [c0,c1,c2,c3,c4,c5,c6,c7,c8,c9,c10,c11,c12,c13,c14] (Qw r1 c0 c1 c2 c3 c4 c5 c6 c7 c8 c9 c10 c11 c12 c14 [(7,[aI c15,aI c16]),(14,([aI r1.h.Forecast.Tide.Mean,aL (Z zE r1.h.Forecast.Tide.Parts),aL (Z X9.row r1.h.Forecast.Surges),aL (Z X7.row r1.h.Chart.Points),aL (Z X2.row r1.h.Chart.Segments),aL (Z X5.row r1.h.Fleet),aI r1.h.Regime.Gap,aB r1.h.Regime.NoMeet]++dm r1.h.Crew.row++ [aL (Z (rL X0.row) r1.choices),.dat (.clo F_a2 caps_a2),.own 143232,.own 143296,.own 143360,aI r1.least.i0,aI r1.least.i1,aB r1.found]))] [(143232,4,Z X0.row r1.plan),(143296,1,Z rI r1.choice),(143360,1,Z rI r1.best)])
def bB:Prop:=True
def B4n{F_a2 caps_a2 r1}(H:bB):∀(f:X) (b8 b9:W) (b10 b11 b14:W),Tj F_a2 caps_a2 r1 f T T T T T T T T b8 b9 b10 b11 T T b14 r1.least.i0 r1.least.i1:=by
 unfold Tj Qw;intro f
 induction f with
 | zero=>
  intro b8 b9 b10 b11 b14 h;obtain rfl:b8=T:=zB.1 h b8 d0;obtain rfl:b9=T:=zB.1 h b9 d0;obtain rfl:b10=T:=zB.1 h b10 d0;obtain rfl:b11=T:=zB.1 h b11 d0;obtain rfl:b14=T:=zB.1 h b14 d0;rfl
 | succ f ih=>
  intros;refine Ae ⟨?_,?_,?_,?_,?_,?_,?_,?_,?_,?_,?_,?_,?_,?_,?_,⟨⟩⟩<;>try exact gi
def B4o{F_a2 caps_a2 r1}(H:bB):∀(f:X) (b0 b1:W) (b2 b3:W) (b4 b5:W) (b6 b7:W) (b8 b9:W) (b10 b11 b12:W),Tj F_a2 caps_a2 r1 f b0 b1 b2 b3 b4 b5 b6 b7 b8 b9 b10 b11 b12 L L (0:V) (0:V):=by
 unfold Tj Qw;intro f
 induction f with
 | zero=>intros; intro h; simp at h
 | succ f ih=>
  intros;refine Ae ⟨?_,?_,?_,?_,?_,?_,?_,?_,?_,?_,?_,?_,?_,?_,?_,⟨⟩⟩<;>try exact gi
  .intro h0 hw;obtain rfl:=hq hw 0 rfl rfl;obtain rfl:=hq hw 1 rfl rfl;obtain rfl:=hq hw 2 rfl rfl;obtain rfl:=hq hw 3 rfl rfl;obtain rfl:=hq hw 4 rfl rfl;obtain rfl:=hq hw 5 rfl rfl;obtain rfl:=hq hw 6 rfl rfl;obtain rfl:=hq hw 7 rfl rfl;obtain rfl:=hq hw 12 rfl rfl;refine np ?_;try simp only[A7,A8,A4,C,E,F,G,I,U]
   exact B4n H ..
def A71{a0}{a1}{a2}{r}(F_a2:FuncId)(caps_a2:P D)(hF_a2:BQ J F_a2=T)(h_a2:∀z0 zr,a2 z0=N zr->FC J F_a2 ([.sc (.sl (Z X0.row z0))]++caps_a2.map .sc) [.ag [.v (.int .i64 zr.i0),.v (.int .i64 zr.i1)]])(h:NM a0 a1 a2=N r):FC J 39 [.ag (X3.row a0),.sc (.sl (Z (rL X0.row) a1)),.sc (.clo F_a2 caps_a2)] [.sc (.o 1 (Z rI r.1)),.ag [.v (.int .i64 r.2.1.i0),.v (.int .i64 r.2.1.i1)],.sc (.v (.bool r.2.2))]:=by
 unfold NM at h;refine A3 A2 vw [6,.c 7 T 2,8] 29 ?_;intro S hS;refine ev hS ?_;refine sg ?_;refine Gp (cs':= [aI a0.Forecast.Tide.Mean,aL (Z zE a0.Forecast.Tide.Parts),aL (Z X9.row a0.Forecast.Surges),aL (Z X7.row a0.Chart.Points),aL (Z X2.row a0.Chart.Segments),aL (Z X5.row a0.Fleet),aI a0.Regime.Gap,aB a0.Regime.NoMeet,aI a0.Crew.Tugs,aI a0.Crew.Pilots,aI a0.Crew.Rest,aL (Z rI a0.Crew.Moves),aL (Z (rL X0.row) a1),.dat (.clo F_a2 caps_a2),.own 143232,.nil,.nil,aI (0:V),aI (0:V),aB L]) Y Y Y Y ?_;refine sg ?_;refine Gp (cs':= [aI a0.Forecast.Tide.Mean,aL (Z zE a0.Forecast.Tide.Parts),aL (Z X9.row a0.Forecast.Surges),aL (Z X7.row a0.Chart.Points),aL (Z X2.row a0.Chart.Segments),aL (Z X5.row a0.Fleet),aI a0.Regime.Gap,aB a0.Regime.NoMeet,aI a0.Crew.Tugs,aI a0.Crew.Pilots,aI a0.Crew.Rest,aL (Z rI a0.Crew.Moves),aL (Z (rL X0.row) a1),.dat (.clo F_a2 caps_a2),.own 143232,.own 143296,.nil,aI (0:V),aI (0:V),aB L]) Y Y Y Y ?_;refine sg ?_;refine Gp (cs':= [aI a0.Forecast.Tide.Mean,aL (Z zE a0.Forecast.Tide.Parts),aL (Z X9.row a0.Forecast.Surges),aL (Z X7.row a0.Chart.Points),aL (Z X2.row a0.Chart.Segments),aL (Z X5.row a0.Fleet),aI a0.Regime.Gap,aB a0.Regime.NoMeet,aI a0.Crew.Tugs,aI a0.Crew.Pilots,aI a0.Crew.Rest,aL (Z rI a0.Crew.Moves),aL (Z (rL X0.row) a1),.dat (.clo F_a2 caps_a2),.own 143232,.own 143296,.own 143360,aI (0:V),aI (0:V),aB L]) Y Y Y Y ?_;refine sg ?_;refine S8 ?_;obtain⟨r1,h1,h⟩:=ob h;refine sg ?_;refine HO (A73 F_a2 caps_a2 hF_a2 h_a2 h1) 14 [143232,143296,143360] rfl Y Y Y d4 Y Y Y ?_;refine sg ?_;refine DL (ks:= [7,9]) (bs:= [7,14]) (rs:= [143232,143296,143360]) (τ:=(Wb F_a2 caps_a2 r1)) Y (B4o ⟨⟩ _ L L L L L L L L L L L L L) ?_;simp only[Wb,Qw,A7];refine sg ?_;cases h;try simp only[Qq,C,E,F,G,I,U]
 trivial
instance B8g:Ct 89 (∀{a0} {a1} {r},Nu a0 a1=N r->FC J 89 [.ag (X0.row a0),.ag (X0.row a1)] [.sc (.v (.int .i64 r))]):=by
 refine⟨fun h=> ?_⟩;unfold Nu at h;refine A3 A2 h0 [4] 20 ?_;exact gc
def aC:Hw:=([(8,[0,1,5,11,12],[],[])],[])
def jC:=fun a0 a1 y2 (k_:V->V->Q V)=>∀{v1 v3} {zr},k_ v1 v3=N zr->Kh J 41 aC 8 [0,1,5,11,12] [] [] ⟨[pL 0 X0.row a0,pL 1 X0.row a1,pI 5 v1,pI 11 y2,pI 12 v3],[],[]⟩ (A5 [4] [.sc (.v (.int .i64 zr))])
def B4q{a0 a1 y2}{n:X}:jC a0 a1 y2 (IN a0 a1 y2 n):=by
 induction n with
 | zero=>intro _ _ r h; cases h
 | succ n ih=>
  intro v1 v3 r h M hσ;rw[IN] at h;exact gc
instance B8e:Ct 41 (∀{a0} {a1} {r},Le a0 a1=N r->FC J 41 [.sc (.sl (Z X0.row a0)),.sc (.sl (Z X0.row a1))] [.sc (.v (.int .i64 r))]):=by
 refine⟨fun h=> ?_⟩;unfold Le at h;refine A3 A2 aC [4] 28 ?_;have k0:= @B4q;exact gc
def A7j{a0}{c0}{r}(h:L7 a0 c0=N r):FC J 40 [.sc (.sl (Z X0.row a0)),.sc (.pd ((rL X0.row) c0))] [.ag [.v (.int .i64 r.i0),.v (.int .i64 r.i1)]]:=by
 unfold L7 at h;refine A3 A2 h0 [.c 3 T 2] 8 ?_;exact gc
def aD:Hw:=([(8,[0,5,9,10,11],[],[512])],[])
def jL:=fun a0 a1 (k_:V->(P X0)->Q (P X0))=>∀{v1 v2} {zr},k_ v1 v2=N zr->Kh J 42 aD 8 [0,5,9,10,11] [] [512] ⟨[pL 0 (rL X0.row) a0,pW 5 512,pL 9 rI a1,pI 10 (a1.length:V),pI 11 v1],[],[(512,4,Z X0.row v2)]⟩ (A5 [4] [.sc (.o 4 (Z X0.row zr))])
def B4r{a0 a1}{n:X}:jL a0 a1 (DE a0 a1 n):=by
 induction n with
 | zero=>intro _ _ r h; cases h
 | succ n ih=>
  intro v1 v2 r h M hσ;rw[DE] at h;have s0:=fun(x6:X0)=> @Aq (Z X0.row ([x6]:P X0))
  exact gc
instance B8v:Ct 42 (∀{a0} {a1} {r},Lj a0 a1=N r->FC J 42 [.sc (.sl (Z (rL X0.row) a0)),.sc (.sl (Z rI a1))] [.sc (.o 4 (Z X0.row r))]):=by
 refine⟨fun h=> ?_⟩;unfold Lj at h;refine A3 A2 aD [4] 28 ?_;have s0:= @Aq (Z X0.row ([]:P X0));have k0:= @B4r;exact gc
end Go.Vi
