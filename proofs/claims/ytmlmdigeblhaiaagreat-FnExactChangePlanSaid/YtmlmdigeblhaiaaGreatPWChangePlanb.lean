/-
Walks. No condition.
-/
import Derived.Test.YtmlmdigeblhaiaaGreatPNf
import Derived.Test.YtmlmdigeblhaiaaGreatChecked
import Derived.Test.YtmlmdigeblhaiaaGreatPVi49
import Derived.KernelRfl
import Derived.Test.YtmlmdigeblhaiaaGreatPWChangePlana
namespace Go.Vi
open Go.Proofs
set_option linter.all false
set_option maxRecDepth 4000
set_option maxHeartbeats 2000000
open Nat renaming reduceBEq → C, reduceMul → E, reduceAdd → F, reduceDiv → G, le_of_ble_eq_true → uf
open Int renaming reduceBEq → I
attribute [local irreducible] go B0 Gz
open List renaming map → zA, cons_append → zB, nil_append → zC
open Tryz renaming prog → zD
open Xb renaming row → zE
open Xc renaming row → zF
open Bool renaming true → T, false → L
open Option renaming some → N, none → O
open _root_ renaming List → V, Option → W, Int → X, Bool → Y, Nat → Z, rfl → J
def B6u:V (V Z × AItem):= [([],(O,.load 49 (S 5) T 2)),([],(O,.bslice 50 1 [.int .i64 0] 0 [])),([],(O,.mv 51 (S 1))),([1,2],(O,.app 52 1 8 (S 50) (S 51))),([],(O,.mv 53 (S 14))),([4],(O,.bslice 54 1 [.int .i64 0] 1 [(0,(S 53))])),([3,5,3],(O,.app 55 1 8 (S 52) (S 54))),([],(O,.bslice 56 1 [.int .i64 0] 0 [])),([],(O,.mv 57 (S 2))),([7,8,6],(O,.app 58 1 8 (S 56) (S 57))),([],(O,.mv 59 (S 12))),([10],(O,.bslice 60 1 [.int .i64 0] 1 [(0,(S 59))])),([9,11,9],(O,.app 61 1 8 (S 58) (S 60))),([],(O,.mv 62 (S 3))),([],(O,.mv 63 (S 4))),([0,6,12,13,14,12],(O,.call 64 194 [(S 49),(S 55),(S 61),(S 62),(S 63)])),([15,15,0,1,2,3,4,5,6,7,8,9,10,11,12,13,14,15],(O,.mv 4 (S 64)))]
def Sm:Hw:=([(16,[1,2,3,4,5,11,31,32,33],[5],[90000]),(31,[1,2,3,4,5,11,12,14,31,32,33,48],[5],[90000])],[(9,4,(O,.frz 1600))])
abbrev B6(a1 a2:V X)(a3 x1:X)(v5 r9:X)(a0:X4)(ws4_ wo1_:AV)(wo3_ wo6_:AV)(wo7_ wo9_:AV)(wo12_ wo14_ wu16_:AV)(c0_ c1_:Y)(c2_ c3_:Y)(c4_ c5_:Y)(c6_ c7_:Y)(c8_ c9_:Y)(c10_ c11_:Y)(c12_ c13_:Y)(c14_ c15_:Y)(bx_:V (Z × V AC))(rs_:Rows):St:=⟨[(1,vc (aL (zA rI a1))),(2,vc (aL (zA rI a2))),(3,vc (aI a3)),(4,ws4_),(5,vc (.pb 5 0)),(11,vc (aI x1)),(12,vc (aI v5)),(14,vc (aI r9)),(31,vc (aL (zA X2.row a0.Segments))),(32,vc (aI (a0.Segments.length:X))),(33,vc (aI v5)),(49,bif c0_ then va [aL (zA X7.row a0.Points),aL (zA X2.row a0.Segments)] else .undef),(50,bif c1_ then wo1_ else .undef),(51,bif c2_ then vc (aL (zA rI a1)) else .undef),(52,bif c3_ then wo3_ else .undef),(53,bif c4_ then vc (aI r9) else .undef),(54,bif c5_ then vc (.own 3456) else .undef),(55,bif c6_ then wo6_ else .undef),(56,bif c7_ then wo7_ else .undef),(57,bif c8_ then vc (aL (zA rI a2)) else .undef),(58,bif c9_ then wo9_ else .undef),(59,bif c10_ then vc (aI v5) else .undef),(60,bif c11_ then vc (.own 3840) else .undef),(61,bif c12_ then wo12_ else .undef),(62,bif c13_ then vc (aI a3) else .undef),(63,bif c14_ then wo14_ else .undef),(64,bif c15_ then vc (.own 90000) else .undef),(4,wu16_)],bx_,rs_⟩
abbrev Wh(a1 a2:V X)(a3 x1:X)(v5 r9:X)(a0:X4)(r18:(V (V X))):St:=(B6 a1 a2 a3 x1 v5 r9 a0 (vc (.own 90000)) (vc (.undef)) (vc (.undef)) (vc (aL (zA rI (a1++([r9]:V X))))) (vc (.undef)) (vc (.undef)) (vc (aL (zA rI (a2++([v5]:V X))))) (vc (.undef)) (vc (.own 90000)) T T T T T T T T T T T T T T T T [(5,[aL (zA X7.row a0.Points),aL (zA X2.row a0.Segments)])] [(90000,1,zA (rL rI) r18),(3456,1,zA rI ([r9]:V X)),(3840,1,zA rI ([v5]:V X))])
def Ap:=fun(a1:V X) (a2:V X) a3 (x1:X) v5 r9 a0 r18 (f:Z) (c0:Y) (c1:Y) (c2:Y) (c3:Y) (c4:Y) (c5:Y) (c6:Y) (c7:Y) (c8:Y) (c9:Y) (c10:Y) (c11:Y) (c12:Y) (c13:Y) (c14:Y) (c15:Y) (c16:Y) c17 c18 c19 c20 c21 c22 c23 c24 c25 c26=>Dl zD B6u (Wh a1 a2 a3 x1 v5 r9 a0 r18) f [c0,c1,c2,c3,c4,c5,c6,c7,c8,c9,c10,c11,c12,c13,c14,c15,c16] (B6 a1 a2 a3 x1 v5 r9 a0 (vc ((c17))) (vc ((c18))) (vc ((c19))) (vc ((c20))) (vc ((c21))) (vc ((c22))) (vc ((c23))) (vc ((c24))) ((c25)) c0 c1 c2 c3 c4 c5 c6 c7 c8 c9 c10 c11 c12 c13 c14 c15 [(5,[aL (zA X7.row a0.Points),aL (zA X2.row a0.Segments)])] c26)
def Be:=fun(rec_:X4->(V X)->(V X)->X->(V (V X))->W (V (V X))) (a1:V X) (a2:V X) a3 v5 r9 a0 v6 r18=>(∀(a0:X4) (a1:V X) (a2:V X) (a3:X) (a4:V (V X)) zr,rec_ a0 a1 a2 a3 a4=N zr->FCt zD 194 [.d (.ag (X4.row a0)),.d (.sc (.sl (zA rI a1))),.d (.sc (.sl (zA rI a2))),.d (.sc (.int .i64 a3)),.r] 1 (zA (rL rI) a4) (zA (rL rI) zr))/\((Ab ([]:V X).length a1.length 8)=T)/\((Ab a1.length ([r9]:V X).length 8)=T)/\((Ab ([]:V X).length a2.length 8)=T)/\((Ab a2.length ([v5]:V X).length 8)=T)/\(rec_ a0 (a1++([r9]:V X)) (a2++([v5]:V X)) a3 v6=N r18)
def At{P:Program}{o:AItem}{Q:Xl->St->Prop}{M:St}(c:V Z)(h:go P [.ops [o,(O,.keep [1,2,3,4,5,11,12,14,31,32,33,49,50,51,52,53,54,55,56,57,58,59,60,61,62,63,64,4] [5] c)]] Q .normal (N M)):∃pre post:V AItem,pre.all (fun i=>i.2.idle)=T/\post.all (fun i=>i.2.idle)=T/\go P [.ops (pre++o::post)] Q .normal (N M):=kp _ _ c h
def B56{rec_ a1 a2 a3 x1 v5 r9 a0 v6 r18}(H:Be rec_ a1 a2 a3 v5 r9 a0 v6 r18):∀(f:Z),Ap a1 a2 a3 x1 v5 r9 a0 r18 f T T T T T T T T T T T T T T T T T (.own 90000) .undef .undef (aL (zA rI (a1++([r9]:V X)))) .undef .undef (aL (zA rI (a2++([v5]:V X)))) .undef (vc (.own 90000)) [(90000,1,zA (rL rI) r18),(3456,1,zA rI ([r9]:V X)),(3840,1,zA rI ([v5]:V X))]:=by
 obtain⟨h_rec,h14,h15,h16,h17,h18⟩:=id H;unfold Ap B6;intro f
 induction f with
 | zero=>intro h; rfl
 | succ f ih=>
  refine Ae ⟨?_,?_,?_,?_,?_,?_,?_,?_,?_,?_,?_,?_,?_,?_,?_,?_,?_,⟨⟩⟩<;>try first | (intro h; cases h; done)
def B57{rec_ a1 a2 a3 x1 v5 r9 a0 v6 r18}(H:Be rec_ a1 a2 a3 v5 r9 a0 v6 r18):∀(f:Z),Ap a1 a2 a3 x1 v5 r9 a0 r18 f T T T T T T T T T T T T T T T T L .undef .undef .undef (aL (zA rI (a1++([r9]:V X)))) .undef .undef (aL (zA rI (a2++([v5]:V X)))) .undef (vc (.undef)) [(90000,1,zA (rL rI) r18),(3456,1,zA rI ([r9]:V X)),(3840,1,zA rI ([v5]:V X))]:=by
 obtain⟨h_rec,hg14,hg15,hg16,hg17,hr18⟩:=id H;unfold Ap B6;intro f
 induction f with
 | zero=>intro  h; simp at h
 | succ f ih=>
  refine Ae ⟨?_,?_,?_,?_,?_,?_,?_,?_,?_,?_,?_,?_,?_,?_,?_,?_,?_,⟨⟩⟩<;>try first | (intro h; cases h; done)
  .intro h0 hw;refine At [90000,3456,3840] ?_;try simp only[A7,A8,zC,zB,A4,C,E,F,G,I,U]
   exact B56 H ..
def B58{rec_ a1 a2 a3 x1 v5 r9 a0 v6 r18}(H:Be rec_ a1 a2 a3 v5 r9 a0 v6 r18):∀(f:Z) (b0 b13 b14:Y),Ap a1 a2 a3 x1 v5 r9 a0 r18 f b0 T T T T T T T T T T T T b13 b14 L L (.own 90000) .undef .undef (.own 3200) .undef .undef (.own 3584) (.own 90000) (vc (.own 90000)) [(90000,1,zA (rL rI) v6),(3200,1,zA rI (a1++([r9]:V X))),(3456,1,zA rI ([r9]:V X)),(3584,1,zA rI (a2++([v5]:V X))),(3840,1,zA rI ([v5]:V X))]:=by
 obtain⟨h_rec,hg14,hg15,hg16,hg17,hr18⟩:=id H;unfold Ap B6;intro f
 induction f with
 | zero=>intros; intro h; simp at h
 | succ f ih=>
  intros;refine Ae ⟨?_,?_,?_,?_,?_,?_,?_,?_,?_,?_,?_,?_,?_,?_,?_,?_,?_,⟨⟩⟩<;>try exact gi
  .intro h0 hw;obtain rfl:=hq hw 0 rfl rfl;obtain rfl:=hq hw 13 rfl rfl;obtain rfl:=hq hw 14 rfl rfl;refine⟨[(O,.frz 3200),(O,.frz 3584)],[(O,.ren 4096 90000),(O,.keep [1,2,3,4,5,11,12,14,31,32,33,49,50,51,52,53,54,55,56,57,58,59,60,61,62,63,64,4] [5] [90000,3456,3840])],J,J,?_⟩;try simp only[A7,A8,zC,zB,A4,C,E,F,G,I,U]
   refine Gn ?_;try simp only[A4,C,E,F,G,I,U]
   refine Gn ?_;try simp only[A4,C,E,F,G,I,U]
   refine Zi (h_rec _ _ _ _ _ _ hr18) 90000 J J (by simp only[St.fresh,List.all_cons,List.all_nil,Cu]; simp[AV.cells,V1.cells,AC.uses]) J J ?_;rw[Yj];try simp only[A4,C,E,F,G,I,U]
   refine vb J J ?_;try simp only[A4,C,E,F,G,I,U]
   exact B57 H ..
def hU{rec_ a1 a2 a3 x1 v5 r9 a0 v6 r18}(H:Be rec_ a1 a2 a3 v5 r9 a0 v6 r18):∀(f:Z) (b0 b13 b14:Y),Ap a1 a2 a3 x1 v5 r9 a0 r18 f b0 T T T T T T T T T T T L b13 b14 L L (.own 90000) .undef .undef (.own 3200) .undef (.own 3584) (.own 3584) (.own 90000) (vc (.own 90000)) [(90000,1,zA (rL rI) v6),(3200,1,zA rI (a1++([r9]:V X))),(3456,1,zA rI ([r9]:V X)),(3584,1,zA rI a2),(3840,1,zA rI ([v5]:V X))]:=by
 obtain⟨h_rec,hg14,hg15,hg16,hg17,hr18⟩:=id H;unfold Ap B6;intro f
 induction f with
 | zero=>intros; intro h; simp at h
 | succ f ih=>
  intros;refine Ae ⟨?_,?_,?_,?_,?_,?_,?_,?_,?_,?_,?_,?_,?_,?_,?_,?_,?_,⟨⟩⟩<;>try exact gi
  .intro h0 hw;refine At [90000,3200,3456,3584,3840] ?_;try simp only[hg17,A7,A8,zC,zB,A4,C,E,F,G,I,U]
   exact B58 H ..
def B59{rec_ a1 a2 a3 x1 v5 r9 a0 v6 r18}(H:Be rec_ a1 a2 a3 v5 r9 a0 v6 r18):∀(f:Z) (b0 b10:Y) (b13 b14:Y),Ap a1 a2 a3 x1 v5 r9 a0 r18 f b0 T T T T T T T T T b10 L L b13 b14 L L (.own 90000) .undef .undef (.own 3200) .undef (.own 3584) (.own 3584) (.own 90000) (vc (.own 90000)) [(90000,1,zA (rL rI) v6),(3200,1,zA rI (a1++([r9]:V X))),(3456,1,zA rI ([r9]:V X)),(3584,1,zA rI a2)]:=by
 obtain⟨h_rec,hg14,hg15,hg16,hg17,hr18⟩:=id H;unfold Ap B6;intro f
 induction f with
 | zero=>intros; intro h; simp at h
 | succ f ih=>
  intros;refine Ae ⟨?_,?_,?_,?_,?_,?_,?_,?_,?_,?_,?_,?_,?_,?_,?_,?_,?_,⟨⟩⟩<;>try exact gi
  .intro h0 hw;obtain rfl:=hq hw 10 rfl rfl;refine At [90000,3200,3456,3584,3840] ?_;try simp only[A7,A8,zC,zB,A4,C,E,F,G,I,U]
   refine As (zA rI ([v5]:V X)) ?_;try simp only[A4,C,E,F,G,I,U]
   exact hU H ..
def WI{rec_ a1 a2 a3 x1 v5 r9 a0 v6 r18}(H:Be rec_ a1 a2 a3 v5 r9 a0 v6 r18):∀(f:Z) (b0 b8:Y) (b13 b14:Y),Ap a1 a2 a3 x1 v5 r9 a0 r18 f b0 T T T T T T T b8 L T T L b13 b14 L L (.own 90000) .undef .undef (.own 3200) (.own 3584) (.own 3584) (.own 3584) (.own 90000) (vc (.own 90000)) [(90000,1,zA (rL rI) v6),(3200,1,zA rI (a1++([r9]:V X))),(3456,1,zA rI ([r9]:V X)),(3584,1,zA rI ([]:V X)),(3840,1,zA rI ([v5]:V X))]:=by
 obtain⟨h_rec,hg14,hg15,hg16,hg17,hr18⟩:=id H;unfold Ap B6;intro f
 induction f with
 | zero=>intros; intro h; simp at h
 | succ f ih=>
  intros;refine Ae ⟨?_,?_,?_,?_,?_,?_,?_,?_,?_,?_,?_,?_,?_,?_,?_,?_,?_,⟨⟩⟩<;>try exact gi
  .intro h0 hw;obtain rfl:=hq hw 8 rfl rfl;refine At [90000,3200,3456,3584,3840] ?_;try simp only[hg16,A7,A8,zC,zB,A4,C,E,F,G,I,U]
   exact hU H ..
def gG{rec_ a1 a2 a3 x1 v5 r9 a0 v6 r18}(H:Be rec_ a1 a2 a3 v5 r9 a0 v6 r18):∀(f:Z) (b0 b8:Y) (b10 b13 b14:Y),Ap a1 a2 a3 x1 v5 r9 a0 r18 f b0 T T T T T T T b8 L b10 L L b13 b14 L L (.own 90000) .undef .undef (.own 3200) (.own 3584) (.own 3584) (.own 3584) (.own 90000) (vc (.own 90000)) [(90000,1,zA (rL rI) v6),(3200,1,zA rI (a1++([r9]:V X))),(3456,1,zA rI ([r9]:V X)),(3584,1,zA rI ([]:V X))]:=by
 obtain⟨h_rec,hg14,hg15,hg16,hg17,hr18⟩:=id H;unfold Ap B6;intro f
 induction f with
 | zero=>intros; intro h; simp at h
 | succ f ih=>
  intros;refine Ae ⟨?_,?_,?_,?_,?_,?_,?_,?_,?_,?_,?_,?_,?_,?_,?_,?_,?_,⟨⟩⟩<;>try exact gi
  .intro h0 hw;obtain rfl:=hq hw 8 rfl rfl;refine At [90000,3200,3456,3584] ?_;try simp only[hg16,A7,A8,zC,zB,A4,C,E,F,G,I,U]
   exact B59 H ..
  .intro h0 hw;obtain rfl:=hq hw 10 rfl rfl;refine At [90000,3200,3456,3584,3840] ?_;try simp only[A7,A8,zC,zB,A4,C,E,F,G,I,U]
   refine As (zA rI ([v5]:V X)) ?_;try simp only[A4,C,E,F,G,I,U]
   exact WI H ..
def gH{rec_ a1 a2 a3 x1 v5 r9 a0 v6 r18}(H:Be rec_ a1 a2 a3 v5 r9 a0 v6 r18):∀(f:Z) (b0 b8:Y) (b13 b14:Y),Ap a1 a2 a3 x1 v5 r9 a0 r18 f b0 T T T T T T L b8 L T T L b13 b14 L L (.own 90000) .undef .undef (.own 3200) (.own 3584) (.own 3584) (.own 3584) (.own 90000) (vc (.own 90000)) [(90000,1,zA (rL rI) v6),(3200,1,zA rI (a1++([r9]:V X))),(3456,1,zA rI ([r9]:V X)),(3840,1,zA rI ([v5]:V X))]:=by
 obtain⟨h_rec,hg14,hg15,hg16,hg17,hr18⟩:=id H;unfold Ap B6;intro f
 induction f with
 | zero=>intros; intro h; simp at h
 | succ f ih=>
  intros;refine Ae ⟨?_,?_,?_,?_,?_,?_,?_,?_,?_,?_,?_,?_,?_,?_,?_,?_,?_,⟨⟩⟩<;>try exact gi
  .intro h0 hw;refine At [90000,3200,3456,3584,3840] ?_;try simp only[A7,A8,zC,zB,A4,C,E,F,G,I,U]
   refine As (zA rI ([]:V X)) ?_;try simp only[A4,C,E,F,G,I,U]
   exact WI H ..
def Th{rec_ a1 a2 a3 x1 v5 r9 a0 v6 r18}(H:Be rec_ a1 a2 a3 v5 r9 a0 v6 r18):∀(f:Z) (b0 b8:Y) (b13 b14:Y),Ap a1 a2 a3 x1 v5 r9 a0 r18 f b0 T T T T T L T b8 L T T L b13 b14 L L (.own 90000) .undef (.own 3200) (.own 3200) (.own 3584) (.own 3584) (.own 3584) (.own 90000) (vc (.own 90000)) [(90000,1,zA (rL rI) v6),(3200,1,zA rI a1),(3456,1,zA rI ([r9]:V X)),(3584,1,zA rI ([]:V X)),(3840,1,zA rI ([v5]:V X))]:=by
 obtain⟨h_rec,hg14,hg15,hg16,hg17,hr18⟩:=id H;unfold Ap B6;intro f
 induction f with
 | zero=>intros; intro h; simp at h
 | succ f ih=>
  intros;refine Ae ⟨?_,?_,?_,?_,?_,?_,?_,?_,?_,?_,?_,?_,?_,?_,?_,?_,?_,⟨⟩⟩<;>try exact gi
  .intro h0 hw;refine At [90000,3200,3456,3584,3840] ?_;try simp only[hg15,A7,A8,zC,zB,A4,C,E,F,G,I,U]
   exact WI H ..
def A96{rec_ a1 a2 a3 x1 v5 r9 a0 v6 r18}(H:Be rec_ a1 a2 a3 v5 r9 a0 v6 r18):∀(f:Z) (b0 b8:Y) (b10 b13 b14:Y),Ap a1 a2 a3 x1 v5 r9 a0 r18 f b0 T T T T T T L b8 L b10 L L b13 b14 L L (.own 90000) .undef .undef (.own 3200) (.own 3584) (.own 3584) (.own 3584) (.own 90000) (vc (.own 90000)) [(90000,1,zA (rL rI) v6),(3200,1,zA rI (a1++([r9]:V X))),(3456,1,zA rI ([r9]:V X))]:=by
 obtain⟨h_rec,hg14,hg15,hg16,hg17,hr18⟩:=id H;unfold Ap B6;intro f
 induction f with
 | zero=>intros; intro h; simp at h
 | succ f ih=>
  intros;refine Ae ⟨?_,?_,?_,?_,?_,?_,?_,?_,?_,?_,?_,?_,?_,?_,?_,?_,?_,⟨⟩⟩<;>try exact gi
  .intro h0 hw;refine At [90000,3200,3456,3584] ?_;try simp only[A7,A8,zC,zB,A4,C,E,F,G,I,U]
   refine As (zA rI ([]:V X)) ?_;try simp only[A4,C,E,F,G,I,U]
   exact gG H ..
  .intro h0 hw;obtain rfl:=hq hw 10 rfl rfl;refine At [90000,3200,3456,3840] ?_;try simp only[A7,A8,zC,zB,A4,C,E,F,G,I,U]
   refine As (zA rI ([v5]:V X)) ?_;try simp only[A4,C,E,F,G,I,U]
   exact gH H ..
def Wx{rec_ a1 a2 a3 x1 v5 r9 a0 v6 r18}(H:Be rec_ a1 a2 a3 v5 r9 a0 v6 r18):∀(f:Z) (b0 b8:Y) (b10 b13 b14:Y),Ap a1 a2 a3 x1 v5 r9 a0 r18 f b0 T T T T T L T b8 L b10 L L b13 b14 L L (.own 90000) .undef (.own 3200) (.own 3200) (.own 3584) (.own 3584) (.own 3584) (.own 90000) (vc (.own 90000)) [(90000,1,zA (rL rI) v6),(3200,1,zA rI a1),(3456,1,zA rI ([r9]:V X)),(3584,1,zA rI ([]:V X))]:=by
 obtain⟨h_rec,hg14,hg15,hg16,hg17,hr18⟩:=id H;unfold Ap B6;intro f
 induction f with
 | zero=>intros; intro h; simp at h
 | succ f ih=>
  intros;refine Ae ⟨?_,?_,?_,?_,?_,?_,?_,?_,?_,?_,?_,?_,?_,?_,?_,?_,?_,⟨⟩⟩<;>try exact gi
  .intro h0 hw;refine At [90000,3200,3456,3584] ?_;try simp only[hg15,A7,A8,zC,zB,A4,C,E,F,G,I,U]
   exact gG H ..
  .intro h0 hw;obtain rfl:=hq hw 10 rfl rfl;refine At [90000,3200,3456,3584,3840] ?_;try simp only[A7,A8,zC,zB,A4,C,E,F,G,I,U]
   refine As (zA rI ([v5]:V X)) ?_;try simp only[A4,C,E,F,G,I,U]
   exact Th H ..
def Wy{rec_ a1 a2 a3 x1 v5 r9 a0 v6 r18}(H:Be rec_ a1 a2 a3 v5 r9 a0 v6 r18):∀(f:Z) (b0 b8:Y) (b13 b14:Y),Ap a1 a2 a3 x1 v5 r9 a0 r18 f b0 T T T T T L L b8 L T T L b13 b14 L L (.own 90000) .undef (.own 3200) (.own 3200) (.own 3584) (.own 3584) (.own 3584) (.own 90000) (vc (.own 90000)) [(90000,1,zA (rL rI) v6),(3200,1,zA rI a1),(3456,1,zA rI ([r9]:V X)),(3840,1,zA rI ([v5]:V X))]:=by
 obtain⟨h_rec,hg14,hg15,hg16,hg17,hr18⟩:=id H;unfold Ap B6;intro f
 induction f with
 | zero=>intros; intro h; simp at h
 | succ f ih=>
  intros;refine Ae ⟨?_,?_,?_,?_,?_,?_,?_,?_,?_,?_,?_,?_,?_,?_,?_,?_,?_,⟨⟩⟩<;>try exact gi
  .intro h0 hw;refine At [90000,3200,3456,3840] ?_;try simp only[hg15,A7,A8,zC,zB,A4,C,E,F,G,I,U]
   exact gH H ..
  .intro h0 hw;refine At [90000,3200,3456,3584,3840] ?_;try simp only[A7,A8,zC,zB,A4,C,E,F,G,I,U]
   refine As (zA rI ([]:V X)) ?_;try simp only[A4,C,E,F,G,I,U]
   exact Th H ..
def Wz{rec_ a1 a2 a3 x1 v5 r9 a0 v6 r18}(H:Be rec_ a1 a2 a3 v5 r9 a0 v6 r18):∀(f:Z) (b0 b4:Y) (b8 b13 b14:Y),Ap a1 a2 a3 x1 v5 r9 a0 r18 f b0 T T T b4 L L T b8 L T T L b13 b14 L L (.own 90000) .undef (.own 3200) (.own 3200) (.own 3584) (.own 3584) (.own 3584) (.own 90000) (vc (.own 90000)) [(90000,1,zA (rL rI) v6),(3200,1,zA rI a1),(3584,1,zA rI ([]:V X)),(3840,1,zA rI ([v5]:V X))]:=by
 obtain⟨h_rec,hg14,hg15,hg16,hg17,hr18⟩:=id H;unfold Ap B6;intro f
 induction f with
 | zero=>intros; intro h; simp at h
 | succ f ih=>
  intros;refine Ae ⟨?_,?_,?_,?_,?_,?_,?_,?_,?_,?_,?_,?_,?_,?_,?_,?_,?_,⟨⟩⟩<;>try exact gi
  .intro h0 hw;obtain rfl:=hq hw 4 rfl rfl;refine At [90000,3200,3456,3584,3840] ?_;try simp only[A7,A8,zC,zB,A4,C,E,F,G,I,U]
   refine As (zA rI ([r9]:V X)) ?_;try simp only[A4,C,E,F,G,I,U]
   exact Th H ..
def Ti{rec_ a1 a2 a3 x1 v5 r9 a0 v6 r18}(H:Be rec_ a1 a2 a3 v5 r9 a0 v6 r18):∀(f:Z) (b0 b2:Y) (b8 b13 b14:Y),Ap a1 a2 a3 x1 v5 r9 a0 r18 f b0 T b2 L T T L T b8 L T T L b13 b14 L L (.own 90000) (.own 3200) (.own 3200) (.own 3200) (.own 3584) (.own 3584) (.own 3584) (.own 90000) (vc (.own 90000)) [(90000,1,zA (rL rI) v6),(3200,1,zA rI ([]:V X)),(3456,1,zA rI ([r9]:V X)),(3584,1,zA rI ([]:V X)),(3840,1,zA rI ([v5]:V X))]:=by
 obtain⟨h_rec,hg14,hg15,hg16,hg17,hr18⟩:=id H;unfold Ap B6;intro f
 induction f with
 | zero=>intros; intro h; simp at h
 | succ f ih=>
  intros;refine Ae ⟨?_,?_,?_,?_,?_,?_,?_,?_,?_,?_,?_,?_,?_,?_,?_,?_,?_,⟨⟩⟩<;>try exact gi
  .intro h0 hw;obtain rfl:=hq hw 2 rfl rfl;refine At [90000,3200,3456,3584,3840] ?_;try simp only[hg14,A7,A8,zC,zB,A4,C,E,F,G,I,U]
   exact Th H ..
def gI{rec_ a1 a2 a3 x1 v5 r9 a0 v6 r18}(H:Be rec_ a1 a2 a3 v5 r9 a0 v6 r18):∀(f:Z) (b0 b8:Y) (b10 b13 b14:Y),Ap a1 a2 a3 x1 v5 r9 a0 r18 f b0 T T T T T L L b8 L b10 L L b13 b14 L L (.own 90000) .undef (.own 3200) (.own 3200) (.own 3584) (.own 3584) (.own 3584) (.own 90000) (vc (.own 90000)) [(90000,1,zA (rL rI) v6),(3200,1,zA rI a1),(3456,1,zA rI ([r9]:V X))]:=by
 obtain⟨h_rec,hg14,hg15,hg16,hg17,hr18⟩:=id H;unfold Ap B6;intro f
 induction f with
 | zero=>intros; intro h; simp at h
 | succ f ih=>
  intros;refine Ae ⟨?_,?_,?_,?_,?_,?_,?_,?_,?_,?_,?_,?_,?_,?_,?_,?_,?_,⟨⟩⟩<;>try exact gi
  .intro h0 hw;refine At [90000,3200,3456] ?_;try simp only[hg15,A7,A8,zC,zB,A4,C,E,F,G,I,U]
   exact A96 H ..
  .intro h0 hw;refine At [90000,3200,3456,3584] ?_;try simp only[A7,A8,zC,zB,A4,C,E,F,G,I,U]
   refine As (zA rI ([]:V X)) ?_;try simp only[A4,C,E,F,G,I,U]
   exact Wx H ..
  .intro h0 hw;obtain rfl:=hq hw 10 rfl rfl;refine At [90000,3200,3456,3840] ?_;try simp only[A7,A8,zC,zB,A4,C,E,F,G,I,U]
   refine As (zA rI ([v5]:V X)) ?_;try simp only[A4,C,E,F,G,I,U]
   exact Wy H ..
def gJ{rec_ a1 a2 a3 x1 v5 r9 a0 v6 r18}(H:Be rec_ a1 a2 a3 v5 r9 a0 v6 r18):∀(f:Z) (b0 b4:Y) (b8 b10:Y) (b13 b14:Y),Ap a1 a2 a3 x1 v5 r9 a0 r18 f b0 T T T b4 L L T b8 L b10 L L b13 b14 L L (.own 90000) .undef (.own 3200) (.own 3200) (.own 3584) (.own 3584) (.own 3584) (.own 90000) (vc (.own 90000)) [(90000,1,zA (rL rI) v6),(3200,1,zA rI a1),(3584,1,zA rI ([]:V X))]:=by
 obtain⟨h_rec,hg14,hg15,hg16,hg17,hr18⟩:=id H;unfold Ap B6;intro f
 induction f with
 | zero=>intros; intro h; simp at h
 | succ f ih=>
  intros;refine Ae ⟨?_,?_,?_,?_,?_,?_,?_,?_,?_,?_,?_,?_,?_,?_,?_,?_,?_,⟨⟩⟩<;>try exact gi
  .intro h0 hw;obtain rfl:=hq hw 4 rfl rfl;refine At [90000,3200,3456,3584] ?_;try simp only[A7,A8,zC,zB,A4,C,E,F,G,I,U]
   refine As (zA rI ([r9]:V X)) ?_;try simp only[A4,C,E,F,G,I,U]
   exact Wx H ..
  .intro h0 hw;obtain rfl:=hq hw 10 rfl rfl;refine At [90000,3200,3584,3840] ?_;try simp only[A7,A8,zC,zB,A4,C,E,F,G,I,U]
   refine As (zA rI ([v5]:V X)) ?_;try simp only[A4,C,E,F,G,I,U]
   exact Wz H ..
def gK{rec_ a1 a2 a3 x1 v5 r9 a0 v6 r18}(H:Be rec_ a1 a2 a3 v5 r9 a0 v6 r18):∀(f:Z) (b0 b4:Y) (b8 b13 b14:Y),Ap a1 a2 a3 x1 v5 r9 a0 r18 f b0 T T T b4 L L L b8 L T T L b13 b14 L L (.own 90000) .undef (.own 3200) (.own 3200) (.own 3584) (.own 3584) (.own 3584) (.own 90000) (vc (.own 90000)) [(90000,1,zA (rL rI) v6),(3200,1,zA rI a1),(3840,1,zA rI ([v5]:V X))]:=by
 obtain⟨h_rec,hg14,hg15,hg16,hg17,hr18⟩:=id H;unfold Ap B6;intro f
 induction f with
 | zero=>intros; intro h; simp at h
 | succ f ih=>
  intros;refine Ae ⟨?_,?_,?_,?_,?_,?_,?_,?_,?_,?_,?_,?_,?_,?_,?_,?_,?_,⟨⟩⟩<;>try exact gi
  .intro h0 hw;obtain rfl:=hq hw 4 rfl rfl;refine At [90000,3200,3456,3840] ?_;try simp only[A7,A8,zC,zB,A4,C,E,F,G,I,U]
   refine As (zA rI ([r9]:V X)) ?_;try simp only[A4,C,E,F,G,I,U]
   exact Wy H ..
  .intro h0 hw;refine At [90000,3200,3584,3840] ?_;try simp only[A7,A8,zC,zB,A4,C,E,F,G,I,U]
   refine As (zA rI ([]:V X)) ?_;try simp only[A4,C,E,F,G,I,U]
   exact Wz H ..
def WA{rec_ a1 a2 a3 x1 v5 r9 a0 v6 r18}(H:Be rec_ a1 a2 a3 v5 r9 a0 v6 r18):∀(f:Z) (b0 b2:Y) (b8 b10:Y) (b13 b14:Y),Ap a1 a2 a3 x1 v5 r9 a0 r18 f b0 T b2 L T T L T b8 L b10 L L b13 b14 L L (.own 90000) (.own 3200) (.own 3200) (.own 3200) (.own 3584) (.own 3584) (.own 3584) (.own 90000) (vc (.own 90000)) [(90000,1,zA (rL rI) v6),(3200,1,zA rI ([]:V X)),(3456,1,zA rI ([r9]:V X)),(3584,1,zA rI ([]:V X))]:=by
 obtain⟨h_rec,hg14,hg15,hg16,hg17,hr18⟩:=id H;unfold Ap B6;intro f
 induction f with
 | zero=>intros; intro h; simp at h
 | succ f ih=>
  intros;refine Ae ⟨?_,?_,?_,?_,?_,?_,?_,?_,?_,?_,?_,?_,?_,?_,?_,?_,?_,⟨⟩⟩<;>try exact gi
  .intro h0 hw;obtain rfl:=hq hw 2 rfl rfl;refine At [90000,3200,3456,3584] ?_;try simp only[hg14,A7,A8,zC,zB,A4,C,E,F,G,I,U]
   exact Wx H ..
  .intro h0 hw;obtain rfl:=hq hw 10 rfl rfl;refine At [90000,3200,3456,3584,3840] ?_;try simp only[A7,A8,zC,zB,A4,C,E,F,G,I,U]
   refine As (zA rI ([v5]:V X)) ?_;try simp only[A4,C,E,F,G,I,U]
   exact Ti H ..
def WB{rec_ a1 a2 a3 x1 v5 r9 a0 v6 r18}(H:Be rec_ a1 a2 a3 v5 r9 a0 v6 r18):∀(f:Z) (b0 b2:Y) (b8 b13 b14:Y),Ap a1 a2 a3 x1 v5 r9 a0 r18 f b0 T b2 L T T L L b8 L T T L b13 b14 L L (.own 90000) (.own 3200) (.own 3200) (.own 3200) (.own 3584) (.own 3584) (.own 3584) (.own 90000) (vc (.own 90000)) [(90000,1,zA (rL rI) v6),(3200,1,zA rI ([]:V X)),(3456,1,zA rI ([r9]:V X)),(3840,1,zA rI ([v5]:V X))]:=by
 obtain⟨h_rec,hg14,hg15,hg16,hg17,hr18⟩:=id H;unfold Ap B6;intro f
 induction f with
 | zero=>intros; intro h; simp at h
 | succ f ih=>
  intros;refine Ae ⟨?_,?_,?_,?_,?_,?_,?_,?_,?_,?_,?_,?_,?_,?_,?_,?_,?_,⟨⟩⟩<;>try exact gi
  .intro h0 hw;obtain rfl:=hq hw 2 rfl rfl;refine At [90000,3200,3456,3840] ?_;try simp only[hg14,A7,A8,zC,zB,A4,C,E,F,G,I,U]
   exact Wy H ..
  .intro h0 hw;refine At [90000,3200,3456,3584,3840] ?_;try simp only[A7,A8,zC,zB,A4,C,E,F,G,I,U]
   refine As (zA rI ([]:V X)) ?_;try simp only[A4,C,E,F,G,I,U]
   exact Ti H ..
def WC{rec_ a1 a2 a3 x1 v5 r9 a0 v6 r18}(H:Be rec_ a1 a2 a3 v5 r9 a0 v6 r18):∀(f:Z) (b0 b2:Y) (b4 b8:Y) (b13 b14:Y),Ap a1 a2 a3 x1 v5 r9 a0 r18 f b0 T b2 L b4 L L T b8 L T T L b13 b14 L L (.own 90000) (.own 3200) (.own 3200) (.own 3200) (.own 3584) (.own 3584) (.own 3584) (.own 90000) (vc (.own 90000)) [(90000,1,zA (rL rI) v6),(3200,1,zA rI ([]:V X)),(3584,1,zA rI ([]:V X)),(3840,1,zA rI ([v5]:V X))]:=by
 obtain⟨h_rec,hg14,hg15,hg16,hg17,hr18⟩:=id H;unfold Ap B6;intro f
 induction f with
 | zero=>intros; intro h; simp at h
 | succ f ih=>
  intros;refine Ae ⟨?_,?_,?_,?_,?_,?_,?_,?_,?_,?_,?_,?_,?_,?_,?_,?_,?_,⟨⟩⟩<;>try exact gi
  .intro h0 hw;obtain rfl:=hq hw 2 rfl rfl;refine At [90000,3200,3584,3840] ?_;try simp only[hg14,A7,A8,zC,zB,A4,C,E,F,G,I,U]
   exact Wz H ..
  .intro h0 hw;obtain rfl:=hq hw 4 rfl rfl;refine At [90000,3200,3456,3584,3840] ?_;try simp only[A7,A8,zC,zB,A4,C,E,F,G,I,U]
   refine As (zA rI ([r9]:V X)) ?_;try simp only[A4,C,E,F,G,I,U]
   exact Ti H ..
def WD{rec_ a1 a2 a3 x1 v5 r9 a0 v6 r18}(H:Be rec_ a1 a2 a3 v5 r9 a0 v6 r18):∀(f:Z) (b0 b2:Y) (b8 b13 b14:Y),Ap a1 a2 a3 x1 v5 r9 a0 r18 f b0 L b2 L T T L T b8 L T T L b13 b14 L L (.own 90000) (.own 3200) (.own 3200) (.own 3200) (.own 3584) (.own 3584) (.own 3584) (.own 90000) (vc (.own 90000)) [(90000,1,zA (rL rI) v6),(3456,1,zA rI ([r9]:V X)),(3584,1,zA rI ([]:V X)),(3840,1,zA rI ([v5]:V X))]:=by
 obtain⟨h_rec,hg14,hg15,hg16,hg17,hr18⟩:=id H;unfold Ap B6;intro f
 induction f with
 | zero=>intros; intro h; simp at h
 | succ f ih=>
  intros;refine Ae ⟨?_,?_,?_,?_,?_,?_,?_,?_,?_,?_,?_,?_,?_,?_,?_,?_,?_,⟨⟩⟩<;>try exact gi
  .intro h0 hw;refine At [90000,3200,3456,3584,3840] ?_;try simp only[A7,A8,zC,zB,A4,C,E,F,G,I,U]
   refine As (zA rI ([]:V X)) ?_;try simp only[A4,C,E,F,G,I,U]
   exact Ti H ..
def A98{rec_ a1 a2 a3 x1 v5 r9 a0 v6 r18}(H:Be rec_ a1 a2 a3 v5 r9 a0 v6 r18):∀(f:Z) (b0 b4:Y) (b8 b10:Y) (b13 b14:Y),Ap a1 a2 a3 x1 v5 r9 a0 r18 f b0 T T T b4 L L L b8 L b10 L L b13 b14 L L (.own 90000) .undef (.own 3200) (.own 3200) (.own 3584) (.own 3584) (.own 3584) (.own 90000) (vc (.own 90000)) [(90000,1,zA (rL rI) v6),(3200,1,zA rI a1)]:=by
 obtain⟨h_rec,hg14,hg15,hg16,hg17,hr18⟩:=id H;unfold Ap B6;intro f
 induction f with
 | zero=>intros; intro h; simp at h
 | succ f ih=>
  intros;refine Ae ⟨?_,?_,?_,?_,?_,?_,?_,?_,?_,?_,?_,?_,?_,?_,?_,?_,?_,⟨⟩⟩<;>try exact gi
  .intro h0 hw;obtain rfl:=hq hw 4 rfl rfl;refine At [90000,3200,3456] ?_;try simp only[A7,A8,zC,zB,A4,C,E,F,G,I,U]
   refine As (zA rI ([r9]:V X)) ?_;try simp only[A4,C,E,F,G,I,U]
   exact gI H ..
  .intro h0 hw;refine At [90000,3200,3584] ?_;try simp only[A7,A8,zC,zB,A4,C,E,F,G,I,U]
   refine As (zA rI ([]:V X)) ?_;try simp only[A4,C,E,F,G,I,U]
   exact gJ H ..
  .intro h0 hw;obtain rfl:=hq hw 10 rfl rfl;refine At [90000,3200,3840] ?_;try simp only[A7,A8,zC,zB,A4,C,E,F,G,I,U]
   refine As (zA rI ([v5]:V X)) ?_;try simp only[A4,C,E,F,G,I,U]
   exact gK H ..
def gL{rec_ a1 a2 a3 x1 v5 r9 a0 v6 r18}(H:Be rec_ a1 a2 a3 v5 r9 a0 v6 r18):∀(f:Z) (b0 b2:Y) (b8 b10:Y) (b13 b14:Y),Ap a1 a2 a3 x1 v5 r9 a0 r18 f b0 T b2 L T T L L b8 L b10 L L b13 b14 L L (.own 90000) (.own 3200) (.own 3200) (.own 3200) (.own 3584) (.own 3584) (.own 3584) (.own 90000) (vc (.own 90000)) [(90000,1,zA (rL rI) v6),(3200,1,zA rI ([]:V X)),(3456,1,zA rI ([r9]:V X))]:=by
 obtain⟨h_rec,hg14,hg15,hg16,hg17,hr18⟩:=id H;unfold Ap B6;intro f
 induction f with
 | zero=>intros; intro h; simp at h
 | succ f ih=>
  intros;refine Ae ⟨?_,?_,?_,?_,?_,?_,?_,?_,?_,?_,?_,?_,?_,?_,?_,?_,?_,⟨⟩⟩<;>try exact gi
  .intro h0 hw;obtain rfl:=hq hw 2 rfl rfl;refine At [90000,3200,3456] ?_;try simp only[hg14,A7,A8,zC,zB,A4,C,E,F,G,I,U]
   exact gI H ..
  .intro h0 hw;refine At [90000,3200,3456,3584] ?_;try simp only[A7,A8,zC,zB,A4,C,E,F,G,I,U]
   refine As (zA rI ([]:V X)) ?_;try simp only[A4,C,E,F,G,I,U]
   exact WA H ..
  .intro h0 hw;obtain rfl:=hq hw 10 rfl rfl;refine At [90000,3200,3456,3840] ?_;try simp only[A7,A8,zC,zB,A4,C,E,F,G,I,U]
   refine As (zA rI ([v5]:V X)) ?_;try simp only[A4,C,E,F,G,I,U]
   exact WB H ..
def gM{rec_ a1 a2 a3 x1 v5 r9 a0 v6 r18}(H:Be rec_ a1 a2 a3 v5 r9 a0 v6 r18):∀(f:Z) (b0 b2:Y) (b4 b8:Y) (b10 b13 b14:Y),Ap a1 a2 a3 x1 v5 r9 a0 r18 f b0 T b2 L b4 L L T b8 L b10 L L b13 b14 L L (.own 90000) (.own 3200) (.own 3200) (.own 3200) (.own 3584) (.own 3584) (.own 3584) (.own 90000) (vc (.own 90000)) [(90000,1,zA (rL rI) v6),(3200,1,zA rI ([]:V X)),(3584,1,zA rI ([]:V X))]:=by
 obtain⟨h_rec,hg14,hg15,hg16,hg17,hr18⟩:=id H;unfold Ap B6;intro f
 induction f with
 | zero=>intros; intro h; simp at h
 | succ f ih=>
  intros;refine Ae ⟨?_,?_,?_,?_,?_,?_,?_,?_,?_,?_,?_,?_,?_,?_,?_,?_,?_,⟨⟩⟩<;>try exact gi
  .intro h0 hw;obtain rfl:=hq hw 2 rfl rfl;refine At [90000,3200,3584] ?_;try simp only[hg14,A7,A8,zC,zB,A4,C,E,F,G,I,U]
   exact gJ H ..
  .intro h0 hw;obtain rfl:=hq hw 4 rfl rfl;refine At [90000,3200,3456,3584] ?_;try simp only[A7,A8,zC,zB,A4,C,E,F,G,I,U]
   refine As (zA rI ([r9]:V X)) ?_;try simp only[A4,C,E,F,G,I,U]
   exact WA H ..
  .intro h0 hw;obtain rfl:=hq hw 10 rfl rfl;refine At [90000,3200,3584,3840] ?_;try simp only[A7,A8,zC,zB,A4,C,E,F,G,I,U]
   refine As (zA rI ([v5]:V X)) ?_;try simp only[A4,C,E,F,G,I,U]
   exact WC H ..
def gN{rec_ a1 a2 a3 x1 v5 r9 a0 v6 r18}(H:Be rec_ a1 a2 a3 v5 r9 a0 v6 r18):∀(f:Z) (b0 b2:Y) (b4 b8:Y) (b13 b14:Y),Ap a1 a2 a3 x1 v5 r9 a0 r18 f b0 T b2 L b4 L L L b8 L T T L b13 b14 L L (.own 90000) (.own 3200) (.own 3200) (.own 3200) (.own 3584) (.own 3584) (.own 3584) (.own 90000) (vc (.own 90000)) [(90000,1,zA (rL rI) v6),(3200,1,zA rI ([]:V X)),(3840,1,zA rI ([v5]:V X))]:=by
 obtain⟨h_rec,hg14,hg15,hg16,hg17,hr18⟩:=id H;unfold Ap B6;intro f
 induction f with
 | zero=>intros; intro h; simp at h
 | succ f ih=>
  intros;refine Ae ⟨?_,?_,?_,?_,?_,?_,?_,?_,?_,?_,?_,?_,?_,?_,?_,?_,?_,⟨⟩⟩<;>try exact gi
  .intro h0 hw;obtain rfl:=hq hw 2 rfl rfl;refine At [90000,3200,3840] ?_;try simp only[hg14,A7,A8,zC,zB,A4,C,E,F,G,I,U]
   exact gK H ..
  .intro h0 hw;obtain rfl:=hq hw 4 rfl rfl;refine At [90000,3200,3456,3840] ?_;try simp only[A7,A8,zC,zB,A4,C,E,F,G,I,U]
   refine As (zA rI ([r9]:V X)) ?_;try simp only[A4,C,E,F,G,I,U]
   exact WB H ..
  .intro h0 hw;refine At [90000,3200,3584,3840] ?_;try simp only[A7,A8,zC,zB,A4,C,E,F,G,I,U]
   refine As (zA rI ([]:V X)) ?_;try simp only[A4,C,E,F,G,I,U]
   exact WC H ..
def gO{rec_ a1 a2 a3 x1 v5 r9 a0 v6 r18}(H:Be rec_ a1 a2 a3 v5 r9 a0 v6 r18):∀(f:Z) (b0 b2:Y) (b8 b10:Y) (b13 b14:Y),Ap a1 a2 a3 x1 v5 r9 a0 r18 f b0 L b2 L T T L T b8 L b10 L L b13 b14 L L (.own 90000) (.own 3200) (.own 3200) (.own 3200) (.own 3584) (.own 3584) (.own 3584) (.own 90000) (vc (.own 90000)) [(90000,1,zA (rL rI) v6),(3456,1,zA rI ([r9]:V X)),(3584,1,zA rI ([]:V X))]:=by
 obtain⟨h_rec,hg14,hg15,hg16,hg17,hr18⟩:=id H;unfold Ap B6;intro f
 induction f with
 | zero=>intros; intro h; simp at h
 | succ f ih=>
  intros;refine Ae ⟨?_,?_,?_,?_,?_,?_,?_,?_,?_,?_,?_,?_,?_,?_,?_,?_,?_,⟨⟩⟩<;>try exact gi
  .intro h0 hw;refine At [90000,3200,3456,3584] ?_;try simp only[A7,A8,zC,zB,A4,C,E,F,G,I,U]
   refine As (zA rI ([]:V X)) ?_;try simp only[A4,C,E,F,G,I,U]
   exact WA H ..
  .intro h0 hw;obtain rfl:=hq hw 10 rfl rfl;refine At [90000,3456,3584,3840] ?_;try simp only[A7,A8,zC,zB,A4,C,E,F,G,I,U]
   refine As (zA rI ([v5]:V X)) ?_;try simp only[A4,C,E,F,G,I,U]
   exact WD H ..
def gP{rec_ a1 a2 a3 x1 v5 r9 a0 v6 r18}(H:Be rec_ a1 a2 a3 v5 r9 a0 v6 r18):∀(f:Z) (b0 b2:Y) (b8 b13 b14:Y),Ap a1 a2 a3 x1 v5 r9 a0 r18 f b0 L b2 L T T L L b8 L T T L b13 b14 L L (.own 90000) (.own 3200) (.own 3200) (.own 3200) (.own 3584) (.own 3584) (.own 3584) (.own 90000) (vc (.own 90000)) [(90000,1,zA (rL rI) v6),(3456,1,zA rI ([r9]:V X)),(3840,1,zA rI ([v5]:V X))]:=by
 obtain⟨h_rec,hg14,hg15,hg16,hg17,hr18⟩:=id H;unfold Ap B6;intro f
 induction f with
 | zero=>intros; intro h; simp at h
 | succ f ih=>
  intros;refine Ae ⟨?_,?_,?_,?_,?_,?_,?_,?_,?_,?_,?_,?_,?_,?_,?_,?_,?_,⟨⟩⟩<;>try exact gi
  .intro h0 hw;refine At [90000,3200,3456,3840] ?_;try simp only[A7,A8,zC,zB,A4,C,E,F,G,I,U]
   refine As (zA rI ([]:V X)) ?_;try simp only[A4,C,E,F,G,I,U]
   exact WB H ..
  .intro h0 hw;refine At [90000,3456,3584,3840] ?_;try simp only[A7,A8,zC,zB,A4,C,E,F,G,I,U]
   refine As (zA rI ([]:V X)) ?_;try simp only[A4,C,E,F,G,I,U]
   exact WD H ..
def gQ{rec_ a1 a2 a3 x1 v5 r9 a0 v6 r18}(H:Be rec_ a1 a2 a3 v5 r9 a0 v6 r18):∀(f:Z) (b0 b2:Y) (b4 b8:Y) (b13 b14:Y),Ap a1 a2 a3 x1 v5 r9 a0 r18 f b0 L b2 L b4 L L T b8 L T T L b13 b14 L L (.own 90000) (.own 3200) (.own 3200) (.own 3200) (.own 3584) (.own 3584) (.own 3584) (.own 90000) (vc (.own 90000)) [(90000,1,zA (rL rI) v6),(3584,1,zA rI ([]:V X)),(3840,1,zA rI ([v5]:V X))]:=by
 obtain⟨h_rec,hg14,hg15,hg16,hg17,hr18⟩:=id H;unfold Ap B6;intro f
 induction f with
 | zero=>intros; intro h; simp at h
 | succ f ih=>
  intros;refine Ae ⟨?_,?_,?_,?_,?_,?_,?_,?_,?_,?_,?_,?_,?_,?_,?_,?_,?_,⟨⟩⟩<;>try exact gi
  .intro h0 hw;refine At [90000,3200,3584,3840] ?_;try simp only[A7,A8,zC,zB,A4,C,E,F,G,I,U]
   refine As (zA rI ([]:V X)) ?_;try simp only[A4,C,E,F,G,I,U]
   exact WC H ..
  .intro h0 hw;obtain rfl:=hq hw 4 rfl rfl;refine At [90000,3456,3584,3840] ?_;try simp only[A7,A8,zC,zB,A4,C,E,F,G,I,U]
   refine As (zA rI ([r9]:V X)) ?_;try simp only[A4,C,E,F,G,I,U]
   exact WD H ..
def A99{rec_ a1 a2 a3 x1 v5 r9 a0 v6 r18}(H:Be rec_ a1 a2 a3 v5 r9 a0 v6 r18):∀(f:Z) (b0 b2:Y) (b4 b8:Y) (b10 b13 b14:Y),Ap a1 a2 a3 x1 v5 r9 a0 r18 f b0 T b2 L b4 L L L b8 L b10 L L b13 b14 L L (.own 90000) (.own 3200) (.own 3200) (.own 3200) (.own 3584) (.own 3584) (.own 3584) (.own 90000) (vc (.own 90000)) [(90000,1,zA (rL rI) v6),(3200,1,zA rI ([]:V X))]:=by
 obtain⟨h_rec,hg14,hg15,hg16,hg17,hr18⟩:=id H;unfold Ap B6;intro f
 induction f with
 | zero=>intros; intro h; simp at h
 | succ f ih=>
  intros;refine Ae ⟨?_,?_,?_,?_,?_,?_,?_,?_,?_,?_,?_,?_,?_,?_,?_,?_,?_,⟨⟩⟩<;>try exact gi
  .intro h0 hw;obtain rfl:=hq hw 2 rfl rfl;refine At [90000,3200] ?_;try simp only[hg14,A7,A8,zC,zB,A4,C,E,F,G,I,U]
   exact A98 H ..
  .intro h0 hw;obtain rfl:=hq hw 4 rfl rfl;refine At [90000,3200,3456] ?_;try simp only[A7,A8,zC,zB,A4,C,E,F,G,I,U]
   refine As (zA rI ([r9]:V X)) ?_;try simp only[A4,C,E,F,G,I,U]
   exact gL H ..
  .intro h0 hw;refine At [90000,3200,3584] ?_;try simp only[A7,A8,zC,zB,A4,C,E,F,G,I,U]
   refine As (zA rI ([]:V X)) ?_;try simp only[A4,C,E,F,G,I,U]
   exact gM H ..
  .intro h0 hw;obtain rfl:=hq hw 10 rfl rfl;refine At [90000,3200,3840] ?_;try simp only[A7,A8,zC,zB,A4,C,E,F,G,I,U]
   refine As (zA rI ([v5]:V X)) ?_;try simp only[A4,C,E,F,G,I,U]
   exact gN H ..
def B0a{rec_ a1 a2 a3 x1 v5 r9 a0 v6 r18}(H:Be rec_ a1 a2 a3 v5 r9 a0 v6 r18):∀(f:Z) (b0 b2:Y) (b8 b10:Y) (b13 b14:Y),Ap a1 a2 a3 x1 v5 r9 a0 r18 f b0 L b2 L T T L L b8 L b10 L L b13 b14 L L (.own 90000) (.own 3200) (.own 3200) (.own 3200) (.own 3584) (.own 3584) (.own 3584) (.own 90000) (vc (.own 90000)) [(90000,1,zA (rL rI) v6),(3456,1,zA rI ([r9]:V X))]:=by
 obtain⟨h_rec,hg14,hg15,hg16,hg17,hr18⟩:=id H;unfold Ap B6;intro f
 induction f with
 | zero=>intros; intro h; simp at h
 | succ f ih=>
  intros;refine Ae ⟨?_,?_,?_,?_,?_,?_,?_,?_,?_,?_,?_,?_,?_,?_,?_,?_,?_,⟨⟩⟩<;>try exact gi
  .intro h0 hw;refine At [90000,3200,3456] ?_;try simp only[A7,A8,zC,zB,A4,C,E,F,G,I,U]
   refine As (zA rI ([]:V X)) ?_;try simp only[A4,C,E,F,G,I,U]
   exact gL H ..
  .intro h0 hw;refine At [90000,3456,3584] ?_;try simp only[A7,A8,zC,zB,A4,C,E,F,G,I,U]
   refine As (zA rI ([]:V X)) ?_;try simp only[A4,C,E,F,G,I,U]
   exact gO H ..
  .intro h0 hw;obtain rfl:=hq hw 10 rfl rfl;refine At [90000,3456,3840] ?_;try simp only[A7,A8,zC,zB,A4,C,E,F,G,I,U]
   refine As (zA rI ([v5]:V X)) ?_;try simp only[A4,C,E,F,G,I,U]
   exact gP H ..
def B0b{rec_ a1 a2 a3 x1 v5 r9 a0 v6 r18}(H:Be rec_ a1 a2 a3 v5 r9 a0 v6 r18):∀(f:Z) (b0 b2:Y) (b4 b8:Y) (b10 b13 b14:Y),Ap a1 a2 a3 x1 v5 r9 a0 r18 f b0 L b2 L b4 L L T b8 L b10 L L b13 b14 L L (.own 90000) (.own 3200) (.own 3200) (.own 3200) (.own 3584) (.own 3584) (.own 3584) (.own 90000) (vc (.own 90000)) [(90000,1,zA (rL rI) v6),(3584,1,zA rI ([]:V X))]:=by
 obtain⟨h_rec,hg14,hg15,hg16,hg17,hr18⟩:=id H;unfold Ap B6;intro f
 induction f with
 | zero=>intros; intro h; simp at h
 | succ f ih=>
  intros;refine Ae ⟨?_,?_,?_,?_,?_,?_,?_,?_,?_,?_,?_,?_,?_,?_,?_,?_,?_,⟨⟩⟩<;>try exact gi
  .intro h0 hw;refine At [90000,3200,3584] ?_;try simp only[A7,A8,zC,zB,A4,C,E,F,G,I,U]
   refine As (zA rI ([]:V X)) ?_;try simp only[A4,C,E,F,G,I,U]
   exact gM H ..
  .intro h0 hw;obtain rfl:=hq hw 4 rfl rfl;refine At [90000,3456,3584] ?_;try simp only[A7,A8,zC,zB,A4,C,E,F,G,I,U]
   refine As (zA rI ([r9]:V X)) ?_;try simp only[A4,C,E,F,G,I,U]
   exact gO H ..
  .intro h0 hw;obtain rfl:=hq hw 10 rfl rfl;refine At [90000,3584,3840] ?_;try simp only[A7,A8,zC,zB,A4,C,E,F,G,I,U]
   refine As (zA rI ([v5]:V X)) ?_;try simp only[A4,C,E,F,G,I,U]
   exact gQ H ..
def B0c{rec_ a1 a2 a3 x1 v5 r9 a0 v6 r18}(H:Be rec_ a1 a2 a3 v5 r9 a0 v6 r18):∀(f:Z) (b0 b2:Y) (b4 b8:Y) (b13 b14:Y),Ap a1 a2 a3 x1 v5 r9 a0 r18 f b0 L b2 L b4 L L L b8 L T T L b13 b14 L L (.own 90000) (.own 3200) (.own 3200) (.own 3200) (.own 3584) (.own 3584) (.own 3584) (.own 90000) (vc (.own 90000)) [(90000,1,zA (rL rI) v6),(3840,1,zA rI ([v5]:V X))]:=by
 obtain⟨h_rec,hg14,hg15,hg16,hg17,hr18⟩:=id H;unfold Ap B6;intro f
 induction f with
 | zero=>intros; intro h; simp at h
 | succ f ih=>
  intros;refine Ae ⟨?_,?_,?_,?_,?_,?_,?_,?_,?_,?_,?_,?_,?_,?_,?_,?_,?_,⟨⟩⟩<;>try exact gi
  .intro h0 hw;refine At [90000,3200,3840] ?_;try simp only[A7,A8,zC,zB,A4,C,E,F,G,I,U]
   refine As (zA rI ([]:V X)) ?_;try simp only[A4,C,E,F,G,I,U]
   exact gN H ..
  .intro h0 hw;obtain rfl:=hq hw 4 rfl rfl;refine At [90000,3456,3840] ?_;try simp only[A7,A8,zC,zB,A4,C,E,F,G,I,U]
   refine As (zA rI ([r9]:V X)) ?_;try simp only[A4,C,E,F,G,I,U]
   exact gP H ..
  .intro h0 hw;refine At [90000,3584,3840] ?_;try simp only[A7,A8,zC,zB,A4,C,E,F,G,I,U]
   refine As (zA rI ([]:V X)) ?_;try simp only[A4,C,E,F,G,I,U]
   exact gQ H ..
def B0d{rec_ a1 a2 a3 x1 v5 r9 a0 v6 r18}(H:Be rec_ a1 a2 a3 v5 r9 a0 v6 r18):∀(f:Z) (b0 b2:Y) (b4 b8:Y) (b10 b13 b14:Y),Ap a1 a2 a3 x1 v5 r9 a0 r18 f b0 L b2 L b4 L L L b8 L b10 L L b13 b14 L L (.own 90000) (.own 3200) (.own 3200) (.own 3200) (.own 3584) (.own 3584) (.own 3584) (.own 90000) .undef [(90000,1,zA (rL rI) v6)]:=by
 obtain⟨h_rec,hg14,hg15,hg16,hg17,hr18⟩:=id H;unfold Ap B6;intro f
 induction f with
 | zero=>intros; intro h; simp at h
 | succ f ih=>
  intros;refine Ae ⟨?_,?_,?_,?_,?_,?_,?_,?_,?_,?_,?_,?_,?_,?_,?_,?_,?_,⟨⟩⟩<;>try exact gi
  .intro h0 hw;refine At [90000,3200] ?_;try simp only[A7,A8,zC,zB,A4,C,E,F,G,I,U]
   refine As (zA rI ([]:V X)) ?_;try simp only[A4,C,E,F,G,I,U]
   exact A99 H ..
  .intro h0 hw;obtain rfl:=hq hw 4 rfl rfl;refine At [90000,3456] ?_;try simp only[A7,A8,zC,zB,A4,C,E,F,G,I,U]
   refine As (zA rI ([r9]:V X)) ?_;try simp only[A4,C,E,F,G,I,U]
   exact B0a H ..
  .intro h0 hw;refine At [90000,3584] ?_;try simp only[A7,A8,zC,zB,A4,C,E,F,G,I,U]
   refine As (zA rI ([]:V X)) ?_;try simp only[A4,C,E,F,G,I,U]
   exact B0b H ..
  .intro h0 hw;obtain rfl:=hq hw 10 rfl rfl;refine At [90000,3840] ?_;try simp only[A7,A8,zC,zB,A4,C,E,F,G,I,U]
   refine As (zA rI ([v5]:V X)) ?_;try simp only[A4,C,E,F,G,I,U]
   exact B0c H ..
def mI:=fun a1 a2 a3 x1 v5 r9 (a0:X4) v6 (k_:Y->W (V (V X)))=>∀{v12} {zr},k_ v12=N zr->Kh zD 194 Sm 31 [1,2,3,4,5,11,12,14,31,32,33,48] [5] [90000] ⟨[pL 1 rI a1,pL 2 rI a2,pI 3 a3,pW 4 90000,pB 5,pI 11 x1,pI 12 v5,pI 14 r9,pL 31 X2.row a0.Segments,pI 32 (a0.Segments.length:X),pI 33 v5,(48,vc (aB v12))],[(5,[aM X7.row a0.Points,aM X2.row a0.Segments])],[(90000,1,zA (rL rI) v6)]⟩ (QU [10] 1 (zA (rL rI) zr))
def XH:=fun a1 a2 a3 x1 (a0:X4) (k_:X->(V (V X))->W (V (V X)))=>∀{v5 v6} {zr},k_ v5 v6=N zr->Kh zD 194 Sm 16 [1,2,3,4,5,11,31,32,33] [5] [90000] ⟨[pL 1 rI a1,pL 2 rI a2,pI 3 a3,pW 4 90000,pB 5,pI 11 x1,pL 31 X2.row a0.Segments,pI 32 (a0.Segments.length:X),pI 33 v5],[(5,[aM X7.row a0.Points,aM X2.row a0.Segments])],[(90000,1,zA (rL rI) v6)]⟩ (QU [10] 1 (zA (rL rI) zr))
def gR{rec_:X4->(V X)->(V X)->X->(V (V X))->W (V (V X))}(h_rec:∀(a0:X4) (a1 a2:V X) (a3:X) (a4:V (V X)) zr,rec_ a0 a1 a2 a3 a4=N zr->FCt zD 194 [.d (.ag (X4.row a0)),.d (.sc (.sl (zA rI a1))),.d (.sc (.sl (zA rI a2))),.d (.sc (.int .i64 a3)),.r] 1 (zA (rL rI) a4) (zA (rL rI) zr)){a1 a2 a3 x1 v5 r9 a0 v6}{PZ}(bI:XH a1 a2 a3 x1 a0 PZ):mI a1 a2 a3 x1 v5 r9 a0 v6 (JY rec_ a1 a2 a3 x1 v5 r9 a0 v6 PZ):=by
 intro v12 r h M hσ S hS;refine ev hS ?_;refine Av ?_;unfold JY at h;obtain⟨h13,h⟩|⟨h13,h⟩:=ic h
 .refine sg ?_;obtain⟨h14,h⟩:=AR h;obtain⟨h15,h⟩:=AR h;obtain⟨h16,h⟩:=AR h;obtain⟨h17,h⟩:=AR h;obtain⟨r18,h18,h⟩:=ob h;refine DL (ks:= [1,2,3,4,5,11,12,14,31,32,33]) (bs:= [5]) (rs:= [90000]) (τ:=(Wh a1 a2 a3 x1 v5 r9 a0 r18)) J (B0d ⟨h_rec,h14,h15,h16,h17,h18⟩ _ L L L L L L L) ?_;simp only[Wh,B6,A7];refine sg ?_;exact bI h sq kr
 .refine sg ?_;exact bI h sq kr
def B0e{rec_:X4->(V X)->(V X)->X->(V (V X))->W (V (V X))}(h_rec:∀(a0:X4) (a1 a2:V X) (a3:X) (a4:V (V X)) zr,rec_ a0 a1 a2 a3 a4=N zr->FCt zD 194 [.d (.ag (X4.row a0)),.d (.sc (.sl (zA rI a1))),.d (.sc (.sl (zA rI a2))),.d (.sc (.int .i64 a3)),.r] 1 (zA (rL rI) a4) (zA (rL rI) zr)){a1 a2 a3 x1 a0}{n:Z}:XH a1 a2 a3 x1 a0 (Hz rec_ a1 a2 a3 x1 a0 n):=by
 induction n with
 | zero=>intro _ _ r h; cases h
 | succ n ih=>
  intro v5 v6 r h M hσ S hS;refine ev hS ?_;rw[Hz] at h;refine AA (Av ?_);obtain⟨h7,h⟩|⟨h7,h⟩:=ic h
  .obtain⟨x8,h8,h⟩:=ob h;obtain⟨r9,h9,h⟩:=ob h;refine sg ?_;refine AD (Ag fw h9) ?_;obtain⟨h10,h⟩|⟨h10,h⟩:=ic h
   .obtain⟨r11,h11,h⟩:=ob h;refine sg ?_;refine AD (Ag fv h11) ?_;refine sg ?_;exact gR h_rec ih h sq kr
   .refine sg ?_;exact gR h_rec ih h sq kr
  .refine sg ?_;cases h;trivial
def rj:AF zD 194=N ((By zD 194 Sm).strip,[10],67):=by kernel_rfl
def A9a(rec_:X4->(V X)->(V X)->X->(V (V X))->W (V (V X)))(a0:X4)(a1 a2:V X)(a3:X)(a4:V (V X))(r:(V (V X)))(h_rec:∀(a0:X4) (a1 a2:V X) (a3:X) (a4:V (V X)) zr,rec_ a0 a1 a2 a3 a4=N zr->FCt zD 194 [.d (.ag (X4.row a0)),.d (.sc (.sl (zA rI a1))),.d (.sc (.sl (zA rI a2))),.d (.sc (.int .i64 a3)),.r] 1 (zA (rL rI) a4) (zA (rL rI) zr))(h:RU rec_ a0 a1 a2 a3 a4=N r):FCt zD 194 [.d (.ag (X4.row a0)),.d (.sc (.sl (zA rI a1))),.d (.sc (.sl (zA rI a2))),.d (.sc (.int .i64 a3)),.r] 1 (zA (rL rI) a4) (zA (rL rI) r):=by
 unfold RU at h;refine iR (M:=⟨[(0,va [aL (zA X7.row a0.Points),aL (zA X2.row a0.Segments)]),(1,vc (aL (zA rI a1))),(2,vc (aL (zA rI a2))),(3,vc (aI a3)),(4,vc (.own 90000))],[],[(90000,1,zA (rL rI) a4)]⟩) A2 rj J J ?_;refine BC Sm ?_;have s0:= @Aq (zA rI ([]:V X));have s1:= @Aq (zA (rL rI) ([a2]:V (V X)));have k0:= @B0e;exact gc
def A9b:∀(n:Z) (a0:X4) (a1:V X) (a2:V X) (a3:X) (a4:V (V X)) (r:(V (V X))),HA n a0 a1 a2 a3 a4=N r->FCt zD 194 [.d (.ag (X4.row a0)),.d (.sc (.sl (zA rI a1))),.d (.sc (.sl (zA rI a2))),.d (.sc (.int .i64 a3)),.r] 1 (zA (rL rI) a4) (zA (rL rI) r):=by
 intro n
 induction n with
 | zero=>intro _ _ _ _ _ r h; cases h
 | succ n ih=>intro a0 a1 a2 a3 a4 r h; rw[HA] at h; exact A9a (HA n) a0 a1 a2 a3 a4 r ih h
def A89{a0}{a1}{a2}{a3}{a4}{r}(h:Uc a0 a1 a2 a3 a4=N r):FCt zD 194 [.d (.ag (X4.row a0)),.d (.sc (.sl (zA rI a1))),.d (.sc (.sl (zA rI a2))),.d (.sc (.int .i64 a3)),.r] 1 (zA (rL rI) a4) (zA (rL rI) r):=A9b bigN a0 a1 a2 a3 a4 r h
def vr:Hw:=([],[(11,5,(O,.frz 1920))])
instance C1k:Ct 158 (∀{a0} {a1} {a2} {r},P7 a0 a1 a2=N r->FC zD 158 [.ag (X4.row a0),.sc (.int .i64 a1),.sc (.int .i64 a2)] [.sc (.o 1 (zA (rL rI) r))]):=by
 refine⟨fun{a0} {a1} {a2} {r} h=> ?_⟩;unfold P7 at h;refine A3 A2 vr [6] 34 ?_;intro S hS;refine ev hS ?_;obtain⟨r1,h1,h⟩:=ob h;refine sg ?_;refine AD (Ag A8x h1) ?_;obtain⟨h2,h⟩|⟨h2,h⟩:=ic h
 .obtain⟨r3,h3,h⟩:=ob h;refine sg ?_;refine AD (Ag GP h3) ?_;obtain⟨h4,h⟩|⟨h4,h⟩:=ic h
  .obtain⟨r5,h5,h⟩:=ob h;refine sg ?_;refine AD (Ag GP h5) ?_;obtain⟨h6,h⟩|⟨h6,h⟩:=ic h
   .refine sg ?_;refine AU (es:=zA rI ([a1]:V X)) ?_;refine sg ?_;refine AU (es:=zA (rL rI) ([]:V (V X))) ?_;obtain⟨r7,h7,h⟩:=ob h;refine sg ?_;refine Zi (A89 h7) 2048 J J J J J ?_;rw[Yj];refine sg ?_;cases h;exact t0
   .refine sg ?_;cases h;exact t0
  .refine sg ?_;cases h;exact t0
 .refine sg ?_;cases h;exact t0
def Up:Hw:=([(10,[3,8,9,16,17,18],[3],[1024]),(23,[3,8,9,11,16,17,18,32],[3],[1024])],[(3,1,(O,.frz 768))])
def lC:=fun v2 x6 r1 v4 (a0:X4) (k_:Y->Y->W ((V X) × Y))=>∀{v11 v12} {zr},k_ v11 v12=N zr->Kh zD 114 Up 23 [3,8,9,11,16,17,18,32] [3] [1024] ⟨[pB 3,pL 8 rI v2,(9,vc (aB v11)),pL 11 rI x6,pW 16 1024,pI 17 (r1.length:X),pI 18 v4,(32,vc (aB v12))],[(3,[aM X7.row a0.Points,aM X2.row a0.Segments])],[(1024,1,zA (rL rI) r1)]⟩ (A5 [6,7] [.sc (.v (.sl (zA rI zr.1))),.sc (.v (.bool zr.2))])
def Xx:=fun r1 (a0:X4) (k_:(V X)->Y->X->W ((V X) × Y))=>∀{v2 v3 v4} {zr},k_ v2 v3 v4=N zr->Kh zD 114 Up 10 [3,8,9,16,17,18] [3] [1024] ⟨[pB 3,pL 8 rI v2,(9,vc (aB v3)),pW 16 1024,pI 17 (r1.length:X),pI 18 v4],[(3,[aM X7.row a0.Points,aM X2.row a0.Segments])],[(1024,1,zA (rL rI) r1)]⟩ (A5 [6,7] [.sc (.v (.sl (zA rI zr.1))),.sc (.v (.bool zr.2))])
def gS{v2 x6 r1 v4 a0}{PT}(wI:Xx r1 a0 PT):lC v2 x6 r1 v4 a0 (LK v2 x6 r1 v4 a0 PT):=by
 intro v11 v12 r h M hσ;unfold LK at h;have k0:= @wI;exact gc
def B0g{r1 a0}{n:Z}:Xx r1 a0 (G6 r1 a0 n):=by
 induction n with
 | zero=>intro _ _ _ r h; cases h
 | succ n ih=>
  intro v2 v3 v4 r h M hσ S hS;refine ev hS ?_;rw[G6] at h;refine AA (Av ?_);obtain⟨h5,h⟩|⟨h5,h⟩:=ic h
  .obtain⟨x6,h6,h⟩:=ob h;have h6n:=Ah h6;refine sg ?_;obtain⟨h7,h⟩|⟨h7,h⟩:=ic h
   .obtain⟨r9,h9,h⟩:=ob h;refine sg ?_;refine CO (Ag ft h9) ?_;obtain⟨r10,h10,h⟩:=ob h;refine sg ?_;refine Pz (by first | rfl | kernel_rfl) ?_;refine AD (Ag ft h10) ?_;refine sg ?_;exact gS ih h sq kr
   .refine sg ?_;refine Py (by first | rfl | kernel_rfl) J ?_;refine sg ?_;exact gS ih h sq kr
  .obtain⟨h14,h⟩|⟨h14,h⟩:=ic h
   .refine sg ?_;cases h;trivial
   .refine sg ?_;cases h;trivial
instance C0t:Ct 114 (∀{a0} {a1} {a2} {r},OF a0 a1 a2=N r->FC zD 114 [.ag (X4.row a0),.sc (.int .i64 a1),.sc (.int .i64 a2)] [.sc (.v (.sl (zA rI r.1))),.sc (.v (.bool r.2))]):=by
 refine⟨fun h=> ?_⟩;unfold OF at h;refine A3 A2 Up [6,7] 38 ?_;have s0:= @Aq (zA rI ([]:V X));have k0:= @B0g;exact gc
def Uq:Hw:=([(32,[2,3,5,7,8,9,10,11],[2,3,7],[2816,3200,3264]),(56,[2,3,5,7,8,9,10,11],[2,3,7],[2816,3200,3264])],[(54,2,(O,.frz 5315))])
def lg:=fun(r3:(V X) × Y) v8 (a0:X3) (a1:X8) (x5:X5) r6 r7 (k_:(V X0)->W (V X0))=>∀{v17} {zr},k_ v17=N zr->Kh zD 71 Uq 56 [2,3,5,7,8,9,10,11] [2,3,7] [2816,3200,3264] ⟨[pB 2,pB 3,pL 5 rI r3.1,pB 7,pW 8 2816,pW 9 3200,pW 10 3264,pI 11 v8],[(2,([aI a0.Forecast.Tide.Mean,aM zF a0.Forecast.Tide.Parts,aM X9.row a0.Forecast.Surges,aM X7.row a0.Chart.Points,aM X2.row a0.Chart.Segments,aM X5.row a0.Fleet,aI a0.Regime.Gap,aB a0.Regime.NoMeet]++dm a0.Crew.row)),(3,(dm a1.row)),(7,(dm x5.row))],[(2816,1,zA (rL X6.row) r6),(3200,1,zA rI r7),(3264,4,zA X0.row v17)]⟩ (A5 [4] [.sc (.o 4 (zA X0.row zr))])
def XD:=fun(r3:(V X) × Y) (a0:X3) (a1:X8) (x5:X5) r6 r7 (k_:X->(V X0)->W (V X0))=>∀{v8 v9} {zr},k_ v8 v9=N zr->Kh zD 71 Uq 32 [2,3,5,7,8,9,10,11] [2,3,7] [2816,3200,3264] ⟨[pB 2,pB 3,pL 5 rI r3.1,pB 7,pW 8 2816,pW 9 3200,pW 10 3264,pI 11 v8],[(2,([aI a0.Forecast.Tide.Mean,aM zF a0.Forecast.Tide.Parts,aM X9.row a0.Forecast.Surges,aM X7.row a0.Chart.Points,aM X2.row a0.Chart.Segments,aM X5.row a0.Fleet,aI a0.Regime.Gap,aB a0.Regime.NoMeet]++dm a0.Crew.row)),(3,(dm a1.row)),(7,(dm x5.row))],[(2816,1,zA (rL X6.row) r6),(3200,1,zA rI r7),(3264,4,zA X0.row v9)]⟩ (A5 [4] [.sc (.o 4 (zA X0.row zr))])
def WE{r3 v8 a0 a1 x5 r6 r7}{SC}(wN:XD r3 a0 a1 x5 r6 r7 SC):lg r3 v8 a0 a1 x5 r6 r7 (JK r3 v8 a0 a1 x5 r6 r7 SC):=by
 intro v17 r h M hσ;unfold JK at h;have k0:= @wN;exact gc
def B0h{r3 a0 a1 x5 r6 r7}{n:Z}:XD r3 a0 a1 x5 r6 r7 (Gb r3 a0 a1 x5 r6 r7 n):=by
 induction n with
 | zero=>intro _ _ r h; cases h
 | succ n ih=>
  intro v8 v9 r h M hσ S hS;refine ev hS ?_;rw[Gb] at h;refine AA (Av ?_);obtain⟨h10,h⟩|⟨h10,h⟩:=ic h
  .obtain⟨h11,h⟩|⟨h11,h⟩:=ic h
   .obtain⟨r12,h12,h⟩:=ob h;refine sg ?_;refine B8 (Ag A9c h12) J (BL J ⟨AQ,J,⟨⟩⟩) J (uf J) ?_;obtain⟨h13,h⟩|⟨h13,h⟩:=ic h
    .obtain⟨r14,h14,h⟩:=ob h;refine sg ?_;refine B8 (Ag A9g h14) J (BL J ⟨J,J,J,AQ,J,⟨⟩⟩) J (uf J) ?_;refine sg ?_;obtain⟨h15,h⟩|⟨h15,h⟩:=ic h
     .refine sg ?_;refine AU (es:=zA X0.row ([r14.1]:V X0)) ?_;obtain⟨h16,h⟩:=AR h;refine sg ?_;exact WE ih h sq kr
     .refine sg ?_;exact WE ih h sq kr
    .refine sg ?_;exact WE ih h sq kr
   .refine sg ?_;cases h;exact t0
  .refine sg ?_;cases h;exact t0
instance C1c:Ct 71 (∀{a0} {a1} {r},OZ a0 a1=N r->FC zD 71 [.ag (X3.row a0),.ag (X8.row a1)] [.sc (.o 4 (zA X0.row r))]):=by
 refine⟨fun h=> ?_⟩;unfold OZ at h;refine A3 A2 Uq [4] 92 ?_;have s0:= @Aq (zA X0.row ([]:V X0));have k0:= @B0h;exact gc
def Ur:Hw:=([(18,[3,4,5,7],[3,4,5],[896]),(22,[5,7,26,27,28],[5],[896,1664])],[(16,3,(O,.frz 1347))])
def lM:=fun r9 (a2:X0) (k_:X->(V X0)->W (V X0))=>∀{v10 v11} {zr},k_ v10 v11=N zr->Kh zD 28 Ur 22 [5,7,26,27,28] [5] [896,1664] ⟨[pB 5,pW 7 896,pW 26 1664,pI 27 (r9.length:X),pI 28 v10],[(5,[aI a2.Start,aI a2.Arrival,aI a2.Cost,aM X1.row a2.Passages])],[(896,4,zA X0.row v11),(1664,4,zA X0.row r9)]⟩ (A5 [6] [.sc (.o 4 (zA X0.row zr))])
def lL:=fun(a0:X3) (a1:X8) (a2:X0) (k_:(V X0)->W (V X0))=>∀{v7} {zr},k_ v7=N zr->Kh zD 28 Ur 18 [3,4,5,7] [3,4,5] [896] ⟨[pB 3,pB 4,pB 5,pW 7 896],[(3,([aI a0.Forecast.Tide.Mean,aM zF a0.Forecast.Tide.Parts,aM X9.row a0.Forecast.Surges,aM X7.row a0.Chart.Points,aM X2.row a0.Chart.Segments,aM X5.row a0.Fleet,aI a0.Regime.Gap,aB a0.Regime.NoMeet]++dm a0.Crew.row)),(4,(dm a1.row)),(5,[aI a2.Start,aI a2.Arrival,aI a2.Cost,aM X1.row a2.Passages])],[(896,4,zA X0.row v7)]⟩ (A5 [6] [.sc (.o 4 (zA X0.row zr))])
def B0i{r9 a2}{n:Z}:lM r9 a2 (G9 r9 a2 n):=by
 induction n with
 | zero=>intro _ _ r h; cases h
 | succ n ih=>
  intro v10 v11 r h M hσ S hS;refine ev hS ?_;rw[G9] at h;refine AA (Av ?_);obtain⟨h12,h⟩|⟨h12,h⟩:=ic h
  .obtain⟨x13,h13,h⟩:=ob h;have h13n:=Ah h13;obtain⟨r14,h14,h⟩:=ob h;refine sg ?_;refine AD (Ag A87 h14) ?_;obtain⟨h15,h⟩|⟨h15,h⟩:=ic h
   .refine sg ?_;exact ih h sq kr
   .refine sg ?_;refine AU (es:=zA X0.row ([x13]:V X0)) ?_;obtain⟨h16,h⟩:=AR h;refine sg ?_;exact ih h sq kr
  .refine sg ?_;cases h;exact t0
def gT{a0 a1 a2}:lL a0 a1 a2 (OK a0 a1 a2):=by
 intro v7 r h M hσ;unfold OK at h;have k0:= @B0i;exact gc
instance A8z:Ct 28 (∀{a0} {a1} {a2} {r},Hk a0 a1 a2=N r->FC zD 28 [.ag (X3.row a0),.ag (X8.row a1),.ag (X0.row a2)] [.sc (.o 4 (zA X0.row r))]):=by
 refine⟨fun{a0} {a1} {a2} {r} h=> ?_⟩;unfold Hk at h;refine A3 A2 Ur [6] 42 ?_;intro S hS;refine ev hS ?_;obtain⟨r1,h1,h⟩:=ob h;refine sg ?_;refine AD (Ag A8u h1) ?_;obtain⟨h2,h⟩|⟨h2,h⟩:=ic h
 .refine sg ?_;refine AU (es:=zA X0.row ([]:V X0)) ?_;obtain⟨r3,h3,h⟩:=ob h;refine sg ?_;refine AD (Ag A81 h3) ?_;obtain⟨h4,h⟩|⟨h4,h⟩:=ic h
  .obtain⟨r5,h5,h⟩:=ob h;refine sg ?_;refine AD (Ag A9l h5) ?_;refine sg ?_;refine AU (es:=zA X0.row ([r5]:V X0)) ?_;obtain⟨h6,h⟩:=AR h;refine sg ?_;exact gT h sq kr
  .refine sg ?_;exact gT h sq kr
 .refine sg ?_;cases h;exact t0
instance A85:Ct 68 (∀{a0} {a1} {r},P6 a0 a1=N r->FC zD 68 [.ag (X0.row a0),.ag (X0.row a1)] [.sc (.v (.int .i64 r))]):=by
 refine⟨fun h=> ?_⟩;unfold P6 at h;refine A3 A2 h0 [4] 20 ?_;exact gc
def Us:Hw:=([(8,[2,3,7,13,14,15],[3],[768]),(25,[2,3,7,8,10,13,14,15,28,29],[3],[768,1664])],[(38,2,(O,.frz 1664))])
def mY:=fun a2 v1 a1 (r6:(V X0)) (a0:X3) v2 (k_:X->(V X0)->W (V (V X0)))=>∀{v7 v8} {zr},k_ v7 v8=N zr->Kh zD 27 Us 25 [2,3,7,8,10,13,14,15,28,29] [3] [768,1664] ⟨[pL 2 X0.row a2,pB 3,pW 7 768,pI 8 v1,pW 10 1664,pL 13 X8.row a1,pI 14 (a1.length:X),pI 15 v1,pI 28 (r6.length:X),pI 29 v7],[(3,([aI a0.Forecast.Tide.Mean,aM zF a0.Forecast.Tide.Parts,aM X9.row a0.Forecast.Surges,aM X7.row a0.Chart.Points,aM X2.row a0.Chart.Segments,aM X5.row a0.Fleet,aI a0.Regime.Gap,aB a0.Regime.NoMeet]++dm a0.Crew.row))],[(768,1,zA (rL X0.row) v2),(1664,4,zA X0.row v8)]⟩ (A5 [6] [.sc (.o 1 (zA (rL X0.row) zr))])
def XP:=fun a2 a1 (a0:X3) (k_:X->(V (V X0))->W (V (V X0)))=>∀{v1 v2} {zr},k_ v1 v2=N zr->Kh zD 27 Us 8 [2,3,7,13,14,15] [3] [768] ⟨[pL 2 X0.row a2,pB 3,pW 7 768,pL 13 X8.row a1,pI 14 (a1.length:X),pI 15 v1],[(3,([aI a0.Forecast.Tide.Mean,aM zF a0.Forecast.Tide.Parts,aM X9.row a0.Forecast.Surges,aM X7.row a0.Chart.Points,aM X2.row a0.Chart.Segments,aM X5.row a0.Fleet,aI a0.Regime.Gap,aB a0.Regime.NoMeet]++dm a0.Crew.row))],[(768,1,zA (rL X0.row) v2)]⟩ (A5 [6] [.sc (.o 1 (zA (rL X0.row) zr))])
def B0j{a2 v1 a1 r6 a0 v2}{Q4}(wY:XP a2 a1 a0 Q4){n:Z}:mY a2 v1 a1 r6 a0 v2 (Gl a2 v1 a1 r6 a0 v2 Q4 n):=by
 induction n with
 | zero=>intro _ _ r h; cases h
 | succ n ih=>
  intro v7 v8 r h M hσ S hS;refine ev hS ?_;rw[Gl] at h;refine AA (Av ?_);obtain⟨h9,h⟩|⟨h9,h⟩:=ic h
  .obtain⟨x10,h10,h⟩:=ob h;obtain⟨x11,h11,h⟩:=ob h;have h11n:=Ah h11;obtain⟨r12,h12,h⟩:=ob h;refine sg ?_;refine CO (Ag A85 h12) ?_;refine sg ?_;refine AM (row:=X0.row) (y:=(⟨x11.Start,x11.Arrival,r12,x11.Passages⟩:X0)) J J h11n J J (by rfl) ?_;refine sg ?_;exact ih h sq kr
  .refine sg ?_;refine AU (es:=zA (rL X0.row) ([v8]:V (V X0))) ?_;obtain⟨h13,h⟩:=AR h;refine sg ?_;exact wY h sq kr
def B0k{a2 a1 a0}{n:Z}:XP a2 a1 a0 (K6 a2 a1 a0 n):=by
 induction n with
 | zero=>intro _ _ r h; cases h
 | succ n ih=>
  intro v1 v2 r h M hσ;rw[K6] at h;have k0:= @B0j;exact gc
instance C2b:Ct 27 (∀{a0} {a1} {a2} {r},M7 a0 a1 a2=N r->FC zD 27 [.ag (X3.row a0),.sc (.sl (zA X8.row a1)),.sc (.sl (zA X0.row a2))] [.sc (.o 1 (zA (rL X0.row) r))]):=by
 refine⟨fun h=> ?_⟩;unfold M7 at h;refine A3 A2 Us [6] 52 ?_;have s0:= @Aq (zA (rL X0.row) ([]:V (V X0)));have k0:= @B0k;exact gc
instance C1d:Ct 189 (∀{a0} {a1} {r},LX a0 a1=N r->FC zD 189 [.ag (X1.row a0),.ag (X1.row a1)] [.sc (.v (.bool r))]):=by
 refine⟨fun h=> ?_⟩;unfold LX at h;refine A3 A2 h0 [4] 16 ?_;exact gc
def Zp:Hw:=([(14,[2,7,8],[],[])],[])
def mL:=fun a2 (k_:X->X->W Y)=>∀{v3 v4} {zr},k_ v3 v4=N zr->Kh zD 190 Zp 14 [2,7,8] [] [] ⟨[pI 2 a2,pI 7 v3,pI 8 v4],[],[]⟩ (A5 [6] [.sc (.v (.bool zr))])
def B0l{a2}:mL a2 (Pl a2):=by
 intro v3 v4 r h M hσ;unfold Pl at h;exact gc
instance C14:Ct 190 (∀{a0} {a1} {a2} {r},M3 a0 a1 a2=N r->FC zD 190 [.sc (.int .i64 a0),.sc (.int .i64 a1),.sc (.int .i64 a2)] [.sc (.v (.bool r))]):=by
 refine⟨fun h=> ?_⟩;unfold M3 at h;refine A3 A2 Zp [6] 28 ?_;have k0:= @B0l;exact gc
instance C0x:Ct 153 (∀{a0} {a1} {a2} {a3} {r},OM a0 a1 a2 a3=N r->FC zD 153 [.ag (X4.row a0),.ag (Xi.row a1),.ag (X1.row a2),.ag (X1.row a3)] [.sc (.v (.int .i64 r))]):=by
 refine⟨fun h=> ?_⟩;unfold OM at h;refine A3 A2 h0 [8] 108 ?_;exact gc
def Ut:Hw:=([(6,[3,4,5,13,14,15],[4,5],[]),(20,[3,4,5,10,13,14,15,19,20,21],[4,5,10],[])],[])
def lN:=fun a3 a2 v1 (a0:X4) (a1:Xi) (x3:X1) (k_:X->W Y)=>∀{v4} {zr},k_ v4=N zr->Kh zD 110 Ut 20 [3,4,5,10,13,14,15,19,20,21] [4,5,10] [] ⟨[pL 3 X1.row a3,pB 4,pB 5,pB 10,pL 13 X1.row a2,pI 14 (a2.length:X),pI 15 v1,pL 19 X1.row a3,pI 20 (a3.length:X),pI 21 v4],[(4,[aM X7.row a0.Points,aM X2.row a0.Segments]),(5,(dm a1.row)),(10,(dm x3.row))],[]⟩ (A5 [8] [.sc (.v (.bool zr))])
def XB:=fun a3 a2 (a0:X4) (a1:Xi) (k_:X->W Y)=>∀{v1} {zr},k_ v1=N zr->Kh zD 110 Ut 6 [3,4,5,13,14,15] [4,5] [] ⟨[pL 3 X1.row a3,pB 4,pB 5,pL 13 X1.row a2,pI 14 (a2.length:X),pI 15 v1],[(4,[aM X7.row a0.Points,aM X2.row a0.Segments]),(5,(dm a1.row))],[]⟩ (A5 [8] [.sc (.v (.bool zr))])
def B0m{a3 a2 v1 a0 a1 x3}{PX}(wM:XB a3 a2 a0 a1 PX){n:Z}:lN a3 a2 v1 a0 a1 x3 (Jz a3 a2 v1 a0 a1 x3 PX n):=by
 induction n with
 | zero=>intro _ r h; cases h
 | succ n ih=>
  intro v4 r h M hσ;rw[Jz] at h;have k0:= @wM;exact gc
def B0n{a3 a2 a0 a1}{n:Z}:XB a3 a2 a0 a1 (Ga a3 a2 a0 a1 n):=by
 induction n with
 | zero=>intro _ r h; cases h
 | succ n ih=>
  intro v1 r h M hσ;rw[Ga] at h;have k0:= @B0m;exact gc
instance C0w:Ct 110 (∀{a0} {a1} {a2} {a3} {r},OL a0 a1 a2 a3=N r->FC zD 110 [.ag (X4.row a0),.ag (Xi.row a1),.sc (.sl (zA X1.row a2)),.sc (.sl (zA X1.row a3))] [.sc (.v (.bool r))]):=by
 refine⟨fun h=> ?_⟩;unfold OL at h;refine A3 A2 Ut [8] 33 ?_;have k0:= @B0n;exact gc
def PA:Hw:=([(8,[1,2,5,18,19,20],[2],[1088]),(25,[1,2,5,7,8,18,19,20,25,26,27],[2],[1088,1536]),(42,[1,2,5,7,8,10,11,18,19,20,25,26,27,32,33,34],[2],[1088,1536,1984]),(59,[1,2,5,7,8,10,11,13,14,18,19,20,25,26,27,32,33,34,39,40,41],[2,13],[1088,1536,1984,2432])],[(72,2,(O,.frz 2432)),(74,2,(O,.frz 1984)),(76,2,(O,.frz 1536))])
def mU:=fun a1 x4 x8 v1 v5 v9 (a0:X3) (x12:X0) v2 v6 v10 (k_:X->(V Y)->W (V (V (V (V Y)))))=>∀{v13 v14} {zr},k_ v13 v14=N zr->Kh zD 65 PA 59 [1,2,5,7,8,10,11,13,14,18,19,20,25,26,27,32,33,34,39,40,41] [2,13] [1088,1536,1984,2432] ⟨[pL 1 (rL X0.row) a1,pB 2,pW 5 1088,pL 7 X0.row x4,pW 8 1536,pL 10 X0.row x8,pW 11 1984,pB 13,pW 14 2432,pL 18 (rL X0.row) a1,pI 19 (a1.length:X),pI 20 v1,pL 25 (rL X0.row) a1,pI 26 (a1.length:X),pI 27 v5,pL 32 X0.row x4,pI 33 (x4.length:X),pI 34 v9,pL 39 X0.row x8,pI 40 (x8.length:X),pI 41 v13],[(2,([aI a0.Forecast.Tide.Mean,aM zF a0.Forecast.Tide.Parts,aM X9.row a0.Forecast.Surges,aM X7.row a0.Chart.Points,aM X2.row a0.Chart.Segments,aM X5.row a0.Fleet,aI a0.Regime.Gap,aB a0.Regime.NoMeet]++dm a0.Crew.row)),(13,[aI x12.Start,aI x12.Arrival,aI x12.Cost,aM X1.row x12.Passages])],[(1088,1,zA (rL (rL (rL rB))) v2),(1536,1,zA (rL (rL rB)) v6),(1984,1,zA (rL rB) v10),(2432,1,zA rB v14)]⟩ (A5 [4] [.sc (.o 1 (zA (rL (rL (rL rB))) zr))])
def XN:=fun a1 x4 x8 v1 v5 (a0:X3) v2 v6 (k_:X->(V (V Y))->W (V (V (V (V Y)))))=>∀{v9 v10} {zr},k_ v9 v10=N zr->Kh zD 65 PA 42 [1,2,5,7,8,10,11,18,19,20,25,26,27,32,33,34] [2] [1088,1536,1984] ⟨[pL 1 (rL X0.row) a1,pB 2,pW 5 1088,pL 7 X0.row x4,pW 8 1536,pL 10 X0.row x8,pW 11 1984,pL 18 (rL X0.row) a1,pI 19 (a1.length:X),pI 20 v1,pL 25 (rL X0.row) a1,pI 26 (a1.length:X),pI 27 v5,pL 32 X0.row x4,pI 33 (x4.length:X),pI 34 v9],[(2,([aI a0.Forecast.Tide.Mean,aM zF a0.Forecast.Tide.Parts,aM X9.row a0.Forecast.Surges,aM X7.row a0.Chart.Points,aM X2.row a0.Chart.Segments,aM X5.row a0.Fleet,aI a0.Regime.Gap,aB a0.Regime.NoMeet]++dm a0.Crew.row))],[(1088,1,zA (rL (rL (rL rB))) v2),(1536,1,zA (rL (rL rB)) v6),(1984,1,zA (rL rB) v10)]⟩ (A5 [4] [.sc (.o 1 (zA (rL (rL (rL rB))) zr))])
def XM:=fun a1 x4 v1 (a0:X3) v2 (k_:X->(V (V (V Y)))->W (V (V (V (V Y)))))=>∀{v5 v6} {zr},k_ v5 v6=N zr->Kh zD 65 PA 25 [1,2,5,7,8,18,19,20,25,26,27] [2] [1088,1536] ⟨[pL 1 (rL X0.row) a1,pB 2,pW 5 1088,pL 7 X0.row x4,pW 8 1536,pL 18 (rL X0.row) a1,pI 19 (a1.length:X),pI 20 v1,pL 25 (rL X0.row) a1,pI 26 (a1.length:X),pI 27 v5],[(2,([aI a0.Forecast.Tide.Mean,aM zF a0.Forecast.Tide.Parts,aM X9.row a0.Forecast.Surges,aM X7.row a0.Chart.Points,aM X2.row a0.Chart.Segments,aM X5.row a0.Fleet,aI a0.Regime.Gap,aB a0.Regime.NoMeet]++dm a0.Crew.row))],[(1088,1,zA (rL (rL (rL rB))) v2),(1536,1,zA (rL (rL rB)) v6)]⟩ (A5 [4] [.sc (.o 1 (zA (rL (rL (rL rB))) zr))])
def XL:=fun a1 (a0:X3) (k_:X->(V (V (V (V Y))))->W (V (V (V (V Y)))))=>∀{v1 v2} {zr},k_ v1 v2=N zr->Kh zD 65 PA 8 [1,2,5,18,19,20] [2] [1088] ⟨[pL 1 (rL X0.row) a1,pB 2,pW 5 1088,pL 18 (rL X0.row) a1,pI 19 (a1.length:X),pI 20 v1],[(2,([aI a0.Forecast.Tide.Mean,aM zF a0.Forecast.Tide.Parts,aM X9.row a0.Forecast.Surges,aM X7.row a0.Chart.Points,aM X2.row a0.Chart.Segments,aM X5.row a0.Fleet,aI a0.Regime.Gap,aB a0.Regime.NoMeet]++dm a0.Crew.row))],[(1088,1,zA (rL (rL (rL rB))) v2)]⟩ (A5 [4] [.sc (.o 1 (zA (rL (rL (rL rB))) zr))])
def B0o{a1 x4 x8 v1 v5 v9 a0 x12 v2 v6 v10}{Q3}(wX:XN a1 x4 x8 v1 v5 a0 v2 v6 Q3){n:Z}:mU a1 x4 x8 v1 v5 v9 a0 x12 v2 v6 v10 (K5 a1 x4 x8 v1 v5 v9 a0 x12 v2 v6 v10 Q3 n):=by
 induction n with
 | zero=>intro _ _ r h; cases h
 | succ n ih=>
  intro v13 v14 r h M hσ;rw[K5] at h;have s0:=fun(r17:Y)=> @Aq (zA rB ([r17]:V Y))
  have s1:= @Aq (zA (rL rB) ([v14]:V (V Y)));have k0:= @wX;exact gc
def B0q{a1 x4 x8 v1 v5 a0 v2 v6}{Q2}(wW:XM a1 x4 v1 a0 v2 Q2){n:Z}:XN a1 x4 x8 v1 v5 a0 v2 v6 (Gk a1 x4 x8 v1 v5 a0 v2 v6 Q2 n):=by
 induction n with
 | zero=>intro _ _ r h; cases h
 | succ n ih=>
  intro v9 v10 r h M hσ;rw[Gk] at h;have s0:= @Aq (zA rB ([]:V Y));have s1:= @Aq (zA (rL (rL rB)) ([v10]:V (V (V Y))));have k0:= @B0o; have k1:= @wW;exact gc
def B0r{a1 x4 v1 a0 v2}{Q1}(wV:XL a1 a0 Q1){n:Z}:XM a1 x4 v1 a0 v2 (En a1 x4 v1 a0 v2 Q1 n):=by
 induction n with
 | zero=>intro _ _ r h; cases h
 | succ n ih=>
  intro v5 v6 r h M hσ;rw[En] at h;have s0:= @Aq (zA (rL rB) ([]:V (V Y)));have s1:= @Aq (zA (rL (rL (rL rB))) ([v6]:V (V (V (V Y)))));have k0:= @B0q; have k1:= @wV;exact gc
def B0s{a1 a0}{n:Z}:XL a1 a0 (Dr a1 a0 n):=by
 induction n with
 | zero=>intro _ _ r h; cases h
 | succ n ih=>
  intro v1 v2 r h M hσ;rw[Dr] at h;have s0:= @Aq (zA (rL (rL rB)) ([]:V (V (V Y))));have k0:= @B0r;exact gc
instance A9h:Ct 65 (∀{a0} {a1} {r},Po a0 a1=N r->FC zD 65 [.ag (X3.row a0),.sc (.sl (zA (rL X0.row) a1))] [.sc (.o 1 (zA (rL (rL (rL rB))) r))]):=by
 refine⟨fun h=> ?_⟩;unfold Po at h;refine A3 A2 PA [4] 74 ?_;have s0:= @Aq (zA (rL (rL (rL rB))) ([]:V (V (V (V Y)))));have k0:= @B0s;exact gc
def Uu:Hw:=([(8,[0,3,6,7,8],[],[]),(21,[0,3,4,6,7,8,24],[],[])],[])
def lK:=fun a0 v1 v2 (k_:Y->W X)=>∀{v7} {zr},k_ v7=N zr->Kh zD 66 Uu 21 [0,3,4,6,7,8,24] [] [] ⟨[pL 0 X0.row a0,pI 3 v1,pI 4 v2,pL 6 X0.row a0,pI 7 (a0.length:X),pI 8 v2,(24,vc (aB v7))],[],[]⟩ (A5 [2] [.sc (.v (.int .i64 zr))])
def XA:=fun a0 (k_:X->X->W X)=>∀{v1 v2} {zr},k_ v1 v2=N zr->Kh zD 66 Uu 8 [0,3,6,7,8] [] [] ⟨[pL 0 X0.row a0,pI 3 v1,pL 6 X0.row a0,pI 7 (a0.length:X),pI 8 v2],[],[]⟩ (A5 [2] [.sc (.v (.int .i64 zr))])
def gU{a0 v1 v2}{PW}(wL:XA a0 PW):lK a0 v1 v2 (OJ a0 v1 v2 PW):=by
 intro v7 r h M hσ;unfold OJ at h;have k0:= @wL;exact gc
def B0t{a0}{n:Z}:XA a0 (G8 a0 n):=by
 induction n with
 | zero=>intro _ _ r h; cases h
 | succ n ih=>
  intro v1 v2 r h M hσ S hS;refine ev hS ?_;rw[G8] at h;refine AA (Av ?_);obtain⟨h3,h⟩|⟨h3,h⟩:=ic h
  .obtain⟨x4,h4,h⟩:=ob h;refine sg ?_;obtain⟨h5,h⟩|⟨h5,h⟩:=ic h
   .refine sg ?_;exact gU ih h sq kr
   .obtain⟨x6,h6,h⟩:=ob h;refine sg ?_;exact gU ih h sq kr
  .refine sg ?_;cases h;exact t0
instance A8y:Ct 66 (∀{a0} {r},RM a0=N r->FC zD 66 [.sc (.sl (zA X0.row a0))] [.sc (.v (.int .i64 r))]):=by
 refine⟨fun h=> ?_⟩;unfold RM at h;refine A3 A2 Uu [2] 28 ?_;have k0:= @B0t;exact gc
def Zq:Hw:=([(8,[3,7,8,9],[],[384])],[(19,5,(O,.frz 896))])
def lE:=fun a0 (k_:X->(V (V X1))->W (V (V X1)))=>∀{v1 v2} {zr},k_ v1 v2=N zr->Kh zD 112 Zq 8 [3,7,8,9] [] [384] ⟨[pW 3 384,pL 7 X0.row a0,pI 8 (a0.length:X),pI 9 v1],[],[(384,1,zA (rL X1.row) v2)]⟩ (A5 [2] [.sc (.o 1 (zA (rL X1.row) zr))])
def B0u{a0}{n:Z}:lE a0 (Jv a0 n):=by
 induction n with
 | zero=>intro _ _ r h; cases h
 | succ n ih=>
  intro v1 v2 r h M hσ;rw[Jv] at h;have s0:= @Aq (zA X1.row ([]:V X1));have s1:=fun(x4:X0)=> @Aq (zA (rL X1.row) ([x4.Passages]:V (V X1)))
  exact gc
instance A8v:Ct 112 (∀{a0} {r},LO a0=N r->FC zD 112 [.sc (.sl (zA X0.row a0))] [.sc (.o 1 (zA (rL X1.row) r))]):=by
 refine⟨fun h=> ?_⟩;unfold LO at h;refine A3 A2 Zq [2] 22 ?_;have s0:= @Aq (zA (rL X1.row) ([]:V (V X1)));have k0:= @B0u;exact gc
instance C1f:Ct 211 (∀{a0} {a1} {a2} {r},LY a0 a1 a2=N r->FC zD 211 [.ag (X4.row a0),.sc (.sl (zA X5.row a1)),.ag (X1.row a2)] [.sc (.v (.bool r))]):=by
 refine⟨fun h=> ?_⟩;unfold LY at h;refine A3 A2 h0 [6] 60 ?_;exact gc
instance fx:Ct 212 (∀{a0} {a1} {r},Gg a0 a1=N r->FC zD 212 [.ag (X4.row a0),.ag (X1.row a1)] [.sc (.v (.int .i64 r.1)),.sc (.v (.int .i64 r.2))]):=by
 refine⟨fun h=> ?_⟩;unfold Gg at h;refine A3 A2 h0 [4,5] 23 ?_;exact gc
def Uv:Hw:=([(8,[1,3,8,15,16,17],[3],[896]),(33,[1,3,8,10,11,12,13,15,16,17],[3,10],[896])],[])
def mR:=fun a1 (r7:X × X) a2 v1 (a0:X4) (x4:X1) (k_:X->(V Xb)->W ((V Xb) × Y))=>∀{v8 v9} {zr},k_ v8 v9=N zr->Kh zD 191 Uv 33 [1,3,8,10,11,12,13,15,16,17] [3,10] [896] ⟨[pL 1 X5.row a1,pB 3,pW 8 896,pB 10,pI 11 r7.1,pI 12 r7.2,pI 13 v8,pL 15 X1.row a2,pI 16 (a2.length:X),pI 17 v1],[(3,[aM X7.row a0.Points,aM X2.row a0.Segments]),(10,(dm x4.row))],[(896,4,zA zE v9)]⟩ (A5 [6,7] [.sc (.o 4 (zA zE zr.1)),.sc (.v (.bool zr.2))])
def XK:=fun a1 a2 (a0:X4) (k_:X->(V Xb)->W ((V Xb) × Y))=>∀{v1 v2} {zr},k_ v1 v2=N zr->Kh zD 191 Uv 8 [1,3,8,15,16,17] [3] [896] ⟨[pL 1 X5.row a1,pB 3,pW 8 896,pL 15 X1.row a2,pI 16 (a2.length:X),pI 17 v1],[(3,[aM X7.row a0.Points,aM X2.row a0.Segments])],[(896,4,zA zE v2)]⟩ (A5 [6,7] [.sc (.o 4 (zA zE zr.1)),.sc (.v (.bool zr.2))])
def B0v{a1 r7 a2 v1 a0 x4}{Q0}(wU:XK a1 a2 a0 Q0){n:Z}:mR a1 r7 a2 v1 a0 x4 (HG a1 r7 a2 v1 a0 x4 Q0 n):=by
 induction n with
 | zero=>intro _ _ r h; cases h
 | succ n ih=>
  intro v8 v9 r h M hσ;rw[HG] at h;have s0:= @Aq (zA zE ([(⟨x4.Start,x4.End,r7.1,r7.2⟩:Xb)]:V Xb));have k0:= @wU;exact gc
def B0w{a1 a2 a0}{n:Z}:XK a1 a2 a0 (Gj a1 a2 a0 n):=by
 induction n with
 | zero=>intro _ _ r h; cases h
 | succ n ih=>
  intro v1 v2 r h M hσ;rw[Gj] at h;have k0:= @B0v;exact gc
instance C18:Ct 191 (∀{a0} {a1} {a2} {r},RY a0 a1 a2=N r->FC zD 191 [.ag (X4.row a0),.sc (.sl (zA X5.row a1)),.sc (.sl (zA X1.row a2))] [.sc (.o 4 (zA zE r.1)),.sc (.v (.bool r.2))]):=by
 refine⟨fun h=> ?_⟩;unfold RY at h;refine A3 A2 Uv [6,7] 57 ?_;have s0:= @Aq (zA zE ([]:V Xb));have k0:= @B0w;exact gc
instance C16:Ct 235 (∀{a0} {r},K3 a0=N r->FC zD 235 [.ag (zE a0)] [.sc (.v (.bool r))]):=by
 refine⟨fun h=> ?_⟩;unfold K3 at h;refine A3 A2 h0 [2] 28 ?_;exact gc
def Zs:Hw:=([(14,[8,9,10],[],[])],[])
def lP:=fun a0 (k_:X->W Y)=>∀{v2} {zr},k_ v2=N zr->Kh zD 213 Zs 14 [8,9,10] [] [] ⟨[pL 8 zE a0,pI 9 (a0.length:X),pI 10 v2],[],[]⟩ (A5 [2] [.sc (.v (.bool zr))])
def B0x{a0}{n:Z}:lP a0 (JC a0 n):=by
 induction n with
 | zero=>intro _ r h; cases h
 | succ n ih=>
  intro v2 r h M hσ;rw[JC] at h;exact gc
instance C0z:Ct 213 (∀{a0} {r},OO a0=N r->FC zD 213 [.sc (.sl (zA zE a0))] [.sc (.v (.bool r))]):=by
 refine⟨fun h=> ?_⟩;unfold OO at h;refine A3 A2 Zs [2] 18 ?_;have k0:= @B0x;exact gc
def Zt:Hw:=([(5,[0,1,6,7,25],[6,7],[])],[])
def lS:=fun a0 a1 (a2:Xb) (a3:Xb) (k_:Y->W (X × Y))=>∀{v6} {zr},k_ v6=N zr->Kh zD 250 Zt 5 [0,1,6,7,25] [6,7] [] ⟨[pI 0 a0,pL 1 rI a1,pB 6,pB 7,(25,vc (aB v6))],[(6,(dm a2.row)),(7,(dm a3.row))],[]⟩ (A5 [8,9] [.sc (.v (.int .i64 zr.1)),.sc (.v (.bool zr.2))])
def B0y{a0 a1 a2 a3}:lS a0 a1 a2 a3 (LQ a0 a1 a2 a3):=by
 intro v6 r h M hσ;unfold LQ at h;exact gc
instance C02:Ct 250 (∀{a0} {a1} {a2} {a3} {r},RN a0 a1 a2 a3=N r->FC zD 250 [.sc (.int .i64 a0),.sc (.sl (zA rI a1)),.ag (zE a2),.ag (zE a3)] [.sc (.v (.int .i64 r.1)),.sc (.v (.bool r.2))]):=by
 refine⟨fun h=> ?_⟩;unfold RN at h;refine A3 A2 Zt [8,9] 37 ?_;have k0:= @B0y;exact gc
instance C0v:Ct 236 (∀{a0} {a1} {a2} {a3} {r},LN a0 a1 a2 a3=N r->FC zD 236 [.sc (.int .i64 a0),.sc (.sl (zA rI a1)),.ag (zE a2),.ag (zE a3)] [.sc (.v (.bool r))]):=by
 refine⟨fun h=> ?_⟩;unfold LN at h;refine A3 A2 h0 [8] 37 ?_;exact gc
def Uw:Hw:=([(8,[0,1,2,7,14,15,16],[],[832]),(25,[0,1,2,7,9,10,14,15,16,21,22,23],[9],[832,1280])],[(38,2,(O,.frz 1280))])
def mM:=fun a0 a1 a2 v1 (x4:Xb) v2 (k_:X->(V Y)->W (V (V Y)))=>∀{v5 v6} {zr},k_ v5 v6=N zr->Kh zD 214 Uw 25 [0,1,2,7,9,10,14,15,16,21,22,23] [9] [832,1280] ⟨[pI 0 a0,pL 1 rI a1,pL 2 zE a2,pW 7 832,pB 9,pW 10 1280,pL 14 zE a2,pI 15 (a2.length:X),pI 16 v1,pL 21 zE a2,pI 22 (a2.length:X),pI 23 v5],[(9,(dm x4.row))],[(832,1,zA (rL rB) v2),(1280,1,zA rB v6)]⟩ (A5 [6] [.sc (.o 1 (zA (rL rB) zr))])
def XJ:=fun a0 a1 a2 (k_:X->(V (V Y))->W (V (V Y)))=>∀{v1 v2} {zr},k_ v1 v2=N zr->Kh zD 214 Uw 8 [0,1,2,7,14,15,16] [] [832] ⟨[pI 0 a0,pL 1 rI a1,pL 2 zE a2,pW 7 832,pL 14 zE a2,pI 15 (a2.length:X),pI 16 v1],[],[(832,1,zA (rL rB) v2)]⟩ (A5 [6] [.sc (.o 1 (zA (rL rB) zr))])
def B0z{a0 a1 a2 v1 x4 v2}{Mq}(wT:XJ a0 a1 a2 Mq){n:Z}:mM a0 a1 a2 v1 x4 v2 (HC a0 a1 a2 v1 x4 v2 Mq n):=by
 induction n with
 | zero=>intro _ _ r h; cases h
 | succ n ih=>
  intro v5 v6 r h M hσ;rw[HC] at h;have s0:= @Aq (zA rB ([T]:V Y));have s1:=fun(r12:Y)=> @Aq (zA rB ([r12]:V Y))
  have s2:= @Aq (zA (rL rB) ([v6]:V (V Y)));have k0:= @wT;exact gc
def B00{a0 a1 a2}{n:Z}:XJ a0 a1 a2 (Gh a0 a1 a2 n):=by
 induction n with
 | zero=>intro _ _ r h; cases h
 | succ n ih=>
  intro v1 v2 r h M hσ;rw[Gh] at h;have s0:= @Aq (zA rB ([]:V Y));have k0:= @B0z;exact gc
instance C15:Ct 214 (∀{a0} {a1} {a2} {r},Pm a0 a1 a2=N r->FC zD 214 [.sc (.int .i64 a0),.sc (.sl (zA rI a1)),.sc (.sl (zA zE a2))] [.sc (.o 1 (zA (rL rB) r))]):=by
 refine⟨fun h=> ?_⟩;unfold Pm at h;refine A3 A2 Uw [6] 49 ?_;have s0:= @Aq (zA (rL rB) ([]:V (V Y)));have k0:= @B00;exact gc
def PB:Hw:=([(16,[0,1,2,8,23,24,25],[],[]),(33,[0,1,2,8,11],[],[]),(48,[0,1,2,8,11,12,44,45,46],[],[]),(80,[0,1,2,8,11],[],[])],[(72,8,(O,.frz 4480))])
def mP:=fun a0 a1 a2 v2 v6 (k_:W ((V X) × Y))=>∀{zr},k_=N zr->Kh zD 215 PB 80 [0,1,2,8,11] [] [] ⟨[pL 0 (rL rB) a0,pL 1 rI a1,pI 2 a2,pI 8 v2,pI 11 v6],[],[]⟩ (A5 [6,7] [.sc (.v (.sl (zA rI zr.1))),.sc (.v (.bool zr.2))])
def mO:=fun a0 a1 a2 v2 v6 (k_:Y->X->W ((V X) × Y))=>∀{v9 v10} {zr},k_ v9 v10=N zr->Kh zD 215 PB 48 [0,1,2,8,11,12,44,45,46] [] [] ⟨[pL 0 (rL rB) a0,pL 1 rI a1,pI 2 a2,pI 8 v2,pI 11 v6,(12,vc (aB v9)),pL 44 rI a1,pI 45 (a1.length:X),pI 46 v10],[],[]⟩ (A5 [6,7] [.sc (.v (.sl (zA rI zr.1))),.sc (.v (.bool zr.2))])
def Tr:=fun a0 a1 a2 v2 (k_:X->W ((V X) × Y))=>∀{v6} {zr},k_ v6=N zr->Kh zD 215 PB 33 [0,1,2,8,11] [] [] ⟨[pL 0 (rL rB) a0,pL 1 rI a1,pI 2 a2,pI 8 v2,pI 11 v6],[],[]⟩ (A5 [6,7] [.sc (.v (.sl (zA rI zr.1))),.sc (.v (.bool zr.2))])
def mN:=fun a0 a1 a2 (k_:X->X->W ((V X) × Y))=>∀{v2 v3} {zr},k_ v2 v3=N zr->Kh zD 215 PB 16 [0,1,2,8,23,24,25] [] [] ⟨[pL 0 (rL rB) a0,pL 1 rI a1,pI 2 a2,pI 8 v2,pL 23 rI a1,pI 24 (a1.length:X),pI 25 v3],[],[]⟩ (A5 [6,7] [.sc (.v (.sl (zA rI zr.1))),.sc (.v (.bool zr.2))])
def B01{rec_:(V (V Y))->(V X)->X->W ((V X) × Y)}(h_rec:∀(a0:V (V Y)) (a1:V X) (a2:X) zr,rec_ a0 a1 a2=N zr->FC zD 215 [.sc (.sl (zA (rL rB) a0)),.sc (.sl (zA rI a1)),.sc (.int .i64 a2)] [.sc (.v (.sl (zA rI zr.1))),.sc (.v (.bool zr.2))]){a0 a1 a2 v2 v6}{Dw}(bJ:Tr a0 a1 a2 v2 Dw):mP a0 a1 a2 v2 v6 (M4 rec_ a0 a1 a2 v2 v6 Dw):=by
 intro r h M hσ;unfold M4 at h;have:Ct 215 _:=⟨h_rec⟩;have k0:= @bJ;exact gc
def B03{rec_:(V (V Y))->(V X)->X->W ((V X) × Y)}(h_rec:∀(a0:V (V Y)) (a1:V X) (a2:X) zr,rec_ a0 a1 a2=N zr->FC zD 215 [.sc (.sl (zA (rL rB) a0)),.sc (.sl (zA rI a1)),.sc (.int .i64 a2)] [.sc (.v (.sl (zA rI zr.1))),.sc (.v (.bool zr.2))]){a0 a1 a2 v2 v6}{Dw}(bJ:Tr a0 a1 a2 v2 Dw){n:Z}:mO a0 a1 a2 v2 v6 (DH rec_ a0 a1 a2 v2 v6 Dw n):=by
 induction n with
 | zero=>intro _ _ r h; cases h
 | succ n ih=>
  intro v9 v10 r h M hσ;rw[DH] at h;have:Ct 215 _:=⟨h_rec⟩;have s0:= @Aq (zA rI ([]:V X));have s1:= @Aq (zA rI ([v6]:V X));have k0:= @B01;exact gc
def B04{rec_:(V (V Y))->(V X)->X->W ((V X) × Y)}(h_rec:∀(a0:V (V Y)) (a1:V X) (a2:X) zr,rec_ a0 a1 a2=N zr->FC zD 215 [.sc (.sl (zA (rL rB) a0)),.sc (.sl (zA rI a1)),.sc (.int .i64 a2)] [.sc (.v (.sl (zA rI zr.1))),.sc (.v (.bool zr.2))]){a0 a1 a2 v2}{n:Z}:Tr a0 a1 a2 v2 (Em rec_ a0 a1 a2 v2 n):=by
 induction n with
 | zero=>intro _ r h; cases h
 | succ n ih=>
  intro v6 r h M hσ;rw[Em] at h;have:Ct 215 _:=⟨h_rec⟩;have k0:= @B03;exact gc
def B05{rec_:(V (V Y))->(V X)->X->W ((V X) × Y)}(h_rec:∀(a0:V (V Y)) (a1:V X) (a2:X) zr,rec_ a0 a1 a2=N zr->FC zD 215 [.sc (.sl (zA (rL rB) a0)),.sc (.sl (zA rI a1)),.sc (.int .i64 a2)] [.sc (.v (.sl (zA rI zr.1))),.sc (.v (.bool zr.2))]){a0 a1 a2}{n:Z}:mN a0 a1 a2 (HD rec_ a0 a1 a2 n):=by
 induction n with
 | zero=>intro _ _ r h; cases h
 | succ n ih=>
  intro v2 v3 r h M hσ;rw[HD] at h;have:Ct 215 _:=⟨h_rec⟩;have k0:= @B04;exact gc
def A9e(rec_:(V (V Y))->(V X)->X->W ((V X) × Y))(a0:V (V Y))(a1:V X)(a2:X)(r:(V X) × Y)(h_rec:∀(a0:V (V Y)) (a1:V X) (a2:X) zr,rec_ a0 a1 a2=N zr->FC zD 215 [.sc (.sl (zA (rL rB) a0)),.sc (.sl (zA rI a1)),.sc (.int .i64 a2)] [.sc (.v (.sl (zA rI zr.1))),.sc (.v (.bool zr.2))])(h:Pn rec_ a0 a1 a2=N r):FC zD 215 [.sc (.sl (zA (rL rB) a0)),.sc (.sl (zA rI a1)),.sc (.int .i64 a2)] [.sc (.v (.sl (zA rI r.1))),.sc (.v (.bool r.2))]:=by
 unfold Pn at h;refine A3 A2 PB [6,7] 82 ?_;have:Ct 215 _:=⟨h_rec⟩;have k0:= @B05;exact gc
def A9f:∀(n:Z) (a0:V (V Y)) (a1:V X) (a2:X) (r:(V X) × Y),Cz n a0 a1 a2=N r->FC zD 215 [.sc (.sl (zA (rL rB) a0)),.sc (.sl (zA rI a1)),.sc (.int .i64 a2)] [.sc (.v (.sl (zA rI r.1))),.sc (.v (.bool r.2))]:=by
 intro n
 induction n with
 | zero=>intro _ _ _ r h; cases h
 | succ n ih=>intro a0 a1 a2 r h; rw[Cz] at h; exact A9e (Cz n) a0 a1 a2 r ih h
def A9d{a0}{a1}{a2}{r}(h:RX a0 a1 a2=N r):FC zD 215 [.sc (.sl (zA (rL rB) a0)),.sc (.sl (zA rI a1)),.sc (.int .i64 a2)] [.sc (.v (.sl (zA rI r.1))),.sc (.v (.bool r.2))]:=A9f bigN a0 a1 a2 r h
def Ux:Hw:=([(5,[0,1,2,21],[],[]),(16,[2,9,10],[],[])],[(11,4,(O,.frz 1600)),(26,3,(O,.frz 2176))])
def lZ:=fun a2 r6 (k_:X->W ((V X) × X × Y))=>∀{v7} {zr},k_ v7=N zr->Kh zD 192 Ux 16 [2,9,10] [] [] ⟨[pL 2 zE a2,pL 9 (rL rB) r6,pI 10 v7],[],[]⟩ (A5 [6,7,8] [.sc (.v (.sl (zA rI zr.1))),.sc (.v (.int .i64 zr.2.1)),.sc (.v (.bool zr.2.2))])
def lY:=fun a0 a1 a2 (k_:Y->W ((V X) × X × Y))=>∀{v4} {zr},k_ v4=N zr->Kh zD 192 Ux 5 [0,1,2,21] [] [] ⟨[pI 0 a0,pL 1 rI a1,pL 2 zE a2,(21,vc (aB v4))],[],[]⟩ (A5 [6,7,8] [.sc (.v (.sl (zA rI zr.1))),.sc (.v (.int .i64 zr.2.1)),.sc (.v (.bool zr.2.2))])
def B06{a2 r6}{n:Z}:lZ a2 r6 (JI a2 r6 n):=by
 induction n with
 | zero=>intro _ r h; cases h
 | succ n ih=>
  intro v7 r h M hσ S hS;refine ev hS ?_;rw[JI] at h;refine AA (Av ?_);obtain⟨h8,h⟩|⟨h8,h⟩:=ic h
  .refine sg ?_;refine AU (es:=zA rI ([]:V X)) ?_;obtain⟨r9,h9,h⟩:=ob h;refine sg ?_;refine AD (A9d h9) ?_;obtain⟨h10,h⟩|⟨h10,h⟩:=ic h
   .refine sg ?_;cases h;trivial
   .refine sg ?_;exact ih h sq kr
  .refine sg ?_;cases h;trivial
def B07{a0 a1 a2}:lY a0 a1 a2 (OU a0 a1 a2):=by
 intro v4 r h M hσ;unfold OU at h;have k0:= @B06;exact gc
instance C07:Ct 192 (∀{a0} {a1} {a2} {r},JH a0 a1 a2=N r->FC zD 192 [.sc (.int .i64 a0),.sc (.sl (zA rI a1)),.sc (.sl (zA zE a2))] [.sc (.v (.sl (zA rI r.1))),.sc (.v (.int .i64 r.2.1)),.sc (.v (.bool r.2.2))]):=by
 refine⟨fun h=> ?_⟩;unfold JH at h;refine A3 A2 Ux [6,7,8] 42 ?_;have k0:= @B07;exact gc
def vt:Hw:=([],[(13,3,(O,.frz 1152))])
instance A88:Ct 154 (∀{a0} {a1} {a2} {a3} {r},LZ a0 a1 a2 a3=N r->FC zD 154 [.ag (Xn.row a0),.ag (X4.row a1),.sc (.sl (zA X5.row a2)),.sc (.sl (zA X1.row a3))] [.sc (.v (.int .i64 r))]):=by
 refine⟨fun h=> ?_⟩;unfold LZ at h;refine A3 A2 vt [8] 39 ?_;exact gc
def Zu:Hw:=([(14,[1,2,14,15,16],[2],[])],[])
def lU:=fun a1 (a0:X4) (k_:X->W Y)=>∀{v3} {zr},k_ v3=N zr->Kh zD 216 Zu 14 [1,2,14,15,16] [2] [] ⟨[pL 1 X1.row a1,pB 2,pL 14 X1.row a1,pI 15 (a1.length:X),pI 16 v3],[(2,[aM X7.row a0.Points,aM X2.row a0.Segments])],[]⟩ (A5 [4] [.sc (.v (.bool zr))])
def B08{a1 a0}{n:Z}:lU a1 a0 (Hn a1 a0 n):=by
 induction n with
 | zero=>intro _ r h; cases h
 | succ n ih=>
  intro v3 r h M hσ S hS;refine ev hS ?_;rw[Hn] at h;refine AA (Av ?_);obtain⟨h4,h⟩|⟨h4,h⟩:=ic h
  .obtain⟨x5,h5,h⟩:=ob h;refine sg ?_;obtain⟨x6,h6,h⟩:=ob h;obtain⟨h7,h⟩|⟨h7,h⟩:=ic h
   .refine sg ?_;refine Py (by first | rfl | kernel_rfl) J ?_;refine sg ?_;cases h;exact t0
   .obtain⟨r9,h9,h⟩:=ob h;refine sg ?_;refine Pz (by first | rfl | kernel_rfl) ?_;refine AD (Ag GP h9) ?_;refine sg ?_;obtain⟨h10,h⟩|⟨h10,h⟩:=ic h
    .obtain⟨h11,h⟩|⟨h11,h⟩:=ic h
     .refine sg ?_;exact ih h sq kr
     .obtain⟨r12,h12,h⟩:=ob h;refine sg ?_;refine AD (Ag fx h12) ?_;obtain⟨x13,h13,h⟩:=ob h;obtain⟨r14,h14,h⟩:=ob h;refine sg ?_;refine AD (Ag fx h14) ?_;refine sg ?_;obtain⟨h15,h⟩|⟨h15,h⟩:=ic h
      .refine sg ?_;cases h;exact t0
      .obtain⟨h16,h⟩|⟨h16,h⟩:=ic h
       .refine sg ?_;cases h;exact t0
       .refine sg ?_;exact ih h sq kr
    .refine sg ?_;cases h;exact t0
  .refine sg ?_;cases h;exact t0
instance C05:Ct 216 (∀{a0} {a1} {r},OQ a0 a1=N r->FC zD 216 [.ag (X4.row a0),.sc (.sl (zA X1.row a1))] [.sc (.v (.bool r))]):=by
 refine⟨fun h=> ?_⟩;unfold OQ at h;refine A3 A2 Zu [4] 71 ?_;have k0:= @B08;exact gc
def Uy:Hw:=([(5,[1,2,3,6,23],[3,6],[]),(14,[1,2,3,6,25,26,27],[3,6],[])],[])
def lk:=fun a1 a2 (a0:X4) (k_:X->W (Xb × Y))=>∀{v5} {zr},k_ v5=N zr->Kh zD 193 Uy 14 [1,2,3,6,25,26,27] [3,6] [] ⟨[pL 1 X5.row a1,pL 2 X1.row a2,pB 3,pB 6,pL 25 X1.row a2,pI 26 (a2.length:X),pI 27 v5],[(3,[aM X7.row a0.Points,aM X2.row a0.Segments]),(6,[aI (0:X),aI (0:X),aI (0:X),aI (0:X)])],[]⟩ (A5 [.c 6 T 4,7] [.ag [.v (.int .i64 zr.1.From),.v (.int .i64 zr.1.To),.v (.int .i64 zr.1.A),.v (.int .i64 zr.1.B)],.sc (.v (.bool zr.2))])
def lj:=fun a1 a2 (a0:X4) (k_:Y->W (Xb × Y))=>∀{v3} {zr},k_ v3=N zr->Kh zD 193 Uy 5 [1,2,3,6,23] [3,6] [] ⟨[pL 1 X5.row a1,pL 2 X1.row a2,pB 3,pB 6,(23,vc (aB v3))],[(3,[aM X7.row a0.Points,aM X2.row a0.Segments]),(6,[aI (0:X),aI (0:X),aI (0:X),aI (0:X)])],[]⟩ (A5 [.c 6 T 4,7] [.ag [.v (.int .i64 zr.1.From),.v (.int .i64 zr.1.To),.v (.int .i64 zr.1.A),.v (.int .i64 zr.1.B)],.sc (.v (.bool zr.2))])
def B09{a1 a2 a0}{n:Z}:lk a1 a2 a0 (JM a1 a2 a0 n):=by
 induction n with
 | zero=>intro _ r h; cases h
 | succ n ih=>
  intro v5 r h M hσ;rw[JM] at h;exact gc
def B1a{a1 a2 a0}:lj a1 a2 a0 (P3 a1 a2 a0):=by
 intro v3 r h M hσ;unfold P3 at h;have k0:= @B09;exact gc
instance C1g:Ct 193 (∀{a0} {a1} {a2} {r},P2 a0 a1 a2=N r->FC zD 193 [.ag (X4.row a0),.sc (.sl (zA X5.row a1)),.sc (.sl (zA X1.row a2))] [.ag [.v (.int .i64 r.1.From),.v (.int .i64 r.1.To),.v (.int .i64 r.1.A),.v (.int .i64 r.1.B)],.sc (.v (.bool r.2))]):=by
 refine⟨fun h=> ?_⟩;unfold P2 at h;refine A3 A2 Uy [.c 6 T 4,7] 67 ?_;have k0:= @B1a;exact gc
def Zw:Hw:=([(16,[2,4,5,9,21,22,23],[4,5],[1280])],[(46,5,(O,.frz 1280))])
def lm:=fun a2 a3 (a0:Xn) (a1:X4) (k_:X->(V Xb)->W X)=>∀{v3 v4} {zr},k_ v3 v4=N zr->Kh zD 155 Zw 16 [2,4,5,9,21,22,23] [4,5] [1280] ⟨[pL 2 X5.row a2,pB 4,pB 5,pW 9 1280,pL 21 (rL X1.row) a3,pI 22 (a3.length:X),pI 23 v3],[(4,(dm a0.row)),(5,[aM X7.row a1.Points,aM X2.row a1.Segments])],[(1280,4,zA zE v4)]⟩ (A5 [8] [.sc (.v (.int .i64 zr))])
def B1b{a2 a3 a0 a1}{n:Z}:lm a2 a3 a0 a1 (Ht a2 a3 a0 a1 n):=by
 induction n with
 | zero=>intro _ _ r h; cases h
 | succ n ih=>
  intro v3 v4 r h M hσ;rw[Ht] at h;have s0:=fun(r9:Xb × Y)=> @Aq (zA zE ([r9.1]:V Xb))
  exact gc
instance A84:Ct 155 (∀{a0} {a1} {a2} {a3} {r},P4 a0 a1 a2 a3=N r->FC zD 155 [.ag (Xn.row a0),.ag (X4.row a1),.sc (.sl (zA X5.row a2)),.sc (.sl (zA (rL X1.row) a3))] [.sc (.v (.int .i64 r))]):=by
 refine⟨fun h=> ?_⟩;unfold P4 at h;refine A3 A2 Zw [8] 57 ?_;have s0:= @Aq (zA zE ([]:V Xb));have k0:= @B1b;exact gc
def Zy:Hw:=([(8,[2,3,4,5,9,13,14,15],[4,5],[768])],[])
def lO:=fun a2 a3 (a0:Xn) (a1:X4) (k_:X->(V X1)->W Y)=>∀{v1 v2} {zr},k_ v1 v2=N zr->Kh zD 111 Zy 8 [2,3,4,5,9,13,14,15] [4,5] [768] ⟨[pL 2 X5.row a2,pL 3 (rL X1.row) a3,pB 4,pB 5,pW 9 768,pL 13 (rL X1.row) a3,pI 14 (a3.length:X),pI 15 v1],[(4,(dm a0.row)),(5,[aM X7.row a1.Points,aM X2.row a1.Segments])],[(768,5,zA X1.row v2)]⟩ (A5 [8] [.sc (.v (.bool zr))])
def B1c{a2 a3 a0 a1}{n:Z}:lO a2 a3 a0 a1 (JB a2 a3 a0 a1 n):=by
 induction n with
 | zero=>intro _ _ r h; cases h
 | succ n ih=>
  intro v1 v2 r h M hσ S hS;refine ev hS ?_;rw[JB] at h;refine AA (Av ?_);obtain⟨h3,h⟩|⟨h3,h⟩:=ic h
  .obtain⟨x4,h4,h⟩:=ob h;obtain⟨h5,h⟩:=AR h;refine sg ?_;exact ih h sq kr
  .obtain⟨r6,h6,h⟩:=ob h;refine sg ?_;refine Ui (Ag A88 h6) (by first | rfl | kernel_rfl) (Br J) J (uf J) ?_;obtain⟨r7,h7,h⟩:=ob h;refine sg ?_;refine AD (Ag GP h7) ?_;refine sg ?_;obtain⟨h8,h⟩|⟨h8,h⟩:=ic h
   .obtain⟨r9,h9,h⟩:=ob h;refine sg ?_;refine CO (Ag A84 h9) ?_;obtain⟨r10,h10,h⟩:=ob h;refine sg ?_;refine Pz (by first | rfl | kernel_rfl) ?_;refine AD (Ag GP h10) ?_;refine sg ?_;cases h;exact t0
   .refine sg ?_;refine Py (by first | rfl | kernel_rfl) J ?_;refine sg ?_;cases h;exact t0
instance A80:Ct 111 (∀{a0} {a1} {a2} {a3} {r},ON a0 a1 a2 a3=N r->FC zD 111 [.ag (Xn.row a0),.ag (X4.row a1),.sc (.sl (zA X5.row a2)),.sc (.sl (zA (rL X1.row) a3))] [.sc (.v (.bool r))]):=by
 refine⟨fun h=> ?_⟩;unfold ON at h;refine A3 A2 Zy [8] 41 ?_;have s0:= @Aq (zA X1.row ([]:V X1));have k0:= @B1c;exact gc
end Go.Vi
