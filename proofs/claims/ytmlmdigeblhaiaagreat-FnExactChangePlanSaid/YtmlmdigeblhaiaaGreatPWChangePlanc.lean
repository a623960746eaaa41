/-
Walks. No condition.
-/
import Derived.Test.YtmlmdigeblhaiaaGreatPNf
import Derived.Test.YtmlmdigeblhaiaaGreatChecked
import Derived.Test.YtmlmdigeblhaiaaGreatPVi49
import Derived.KernelRfl
import Derived.Test.YtmlmdigeblhaiaaGreatPWChangePlanb
namespace Go.Vi
open Go.Proofs
set_option linter.all false
set_option maxRecDepth 4000
set_option maxHeartbeats 2000000
open Nat renaming reduceBEq → B, reduceMul → C, reduceAdd → E, reduceDiv → F, le_of_ble_eq_true → uf
open Int renaming reduceBEq → G
attribute [local irreducible] go B0 Gz
open List renaming map → I, all_eq_true → zD, cons_append → zE, nil_append → zF
open Tryz renaming prog → zA
open Int renaming toNat → zB
open Xc renaming row → zC
open Xd renaming row → zG
open Bool renaming true → T, false → L
open Option renaming some → N, none → O
open _root_ renaming List → V, Option → W, Int → X, Bool → Y, Nat → Z, rfl → J
def B6w:V (V Z × AItem):= [([],(O,.mv 135 (S 0))),([],(O,.bslice 136 1 [.int .i64 0] 0 [])),([],(O,.mv 137 (S 1))),([1,2],(O,.app 138 1 8 (S 136) (S 137))),([],(O,.mv 139 (S 10))),([4],(O,.bslice 140 1 [.int .i64 0] 1 [(0,(S 139))])),([3,5,3],(O,.app 141 1 8 (S 138) (S 140))),([],(O,.mv 142 (S 2))),([],(O,.faddr 143 (S 11) 2)),([8],(O,.load 144 (S 143) L 1)),([7,9],(O,.bin 145 .add (S 142) (S 144))),([0,6,10,6],(O,.call 146 67 [(S 135),(S 141),(S 145)]))]
def Me:Hw:=([(8,[0,1,2,6],[99999999999],[90000]),(18,[0,1,2,7,45,46,47],[99999999999],[90000,2816]),(46,[0,1,2,6,103,104,105],[99999999999],[90000]),(63,[0,1,2,6,10,11,12,103,104,105,110,111,112],[99999999999,11],[90000])],[(33,0,(O,.frz 2816))])
abbrev EB(a1:V X)(a2 v18:X)(x17:V X0)(x38:X0)(wo1_ wo3_ wo6_:AV)(c0_ c1_:Y)(c2_ c3_:Y)(c4_ c5_:Y)(c6_ c7_:Y)(c8_ c9_:Y)(c10_ c11_:Y)(bx_:V (Z × V AC))(rs_:Rows):St:=⟨[(0,vc (.pb 99999999999 0)),(1,vc (aL (I rI a1))),(2,vc (aI a2)),(6,vc (aI (a1.length:X))),(10,vc (aI v18)),(11,vc (.pb 11 0)),(103,vc (aL (I X0.row x17))),(104,vc (aI (x17.length:X))),(105,vc (aI v18)),(135,bif c0_ then vc (.pb 99999999999 0) else .undef),(136,bif c1_ then wo1_ else .undef),(137,bif c2_ then vc (aL (I rI a1)) else .undef),(138,bif c3_ then wo3_ else .undef),(139,bif c4_ then vc (aI v18) else .undef),(140,bif c5_ then vc (.own 8960) else .undef),(141,bif c6_ then wo6_ else .undef),(142,bif c7_ then vc (aI a2) else .undef),(143,bif c8_ then vc (.pb 11 2) else .undef),(144,bif c9_ then vc (aI x38.Cost) else .undef),(145,bif c10_ then vc (aI (IntKind.i64.wrap (a2+x38.Cost))) else .undef),(146,bif c11_ then .tup [] else .undef)],bx_,rs_⟩
abbrev Wj(a1:V X)(a2 v18:X)(x17:V X0)(x38:X0)(r51:Xe):St:=(EB a1 a2 v18 x17 x38 (vc (.undef)) (vc (.undef)) (vc (aL (I rI (a1++([v18]:V X))))) T T T T T T T T T T T T [(99999999999,([aI r51.h.Forecast.Tide.Mean,aL (I zC r51.h.Forecast.Tide.Parts),aL (I X9.row r51.h.Forecast.Surges),aL (I X7.row r51.h.Chart.Points),aL (I X2.row r51.h.Chart.Segments),aL (I X5.row r51.h.Fleet),aI r51.h.Regime.Gap,aB r51.h.Regime.NoMeet]++dm r51.h.Crew.row++ [aL (I (rL X0.row) r51.lists),aL (I (rL (rL (rL rB))) r51.clash),aL (I rI r51.rest),.own 90000,aI r51.cost,aB r51.found])),(11,[aI x38.Start,aI x38.Arrival,aI x38.Cost,aL (I X1.row x38.Passages)])] [(90000,1,I rI r51.best),(8960,1,I rI ([v18]:V X))])
def CX:=fun(a1:V X) a2 v18 (x17:V X0) (x38:X0) r51 (f:Z) (c0:Y) (c1:Y) (c2:Y) (c3:Y) (c4:Y) (c5:Y) (c6:Y) (c7:Y) (c8:Y) (c9:Y) (c10:Y) (c11:Y) c12 c13 c14 c15 c16=>Dl zA B6w (Wj a1 a2 v18 x17 x38 r51) f [c0,c1,c2,c3,c4,c5,c6,c7,c8,c9,c10,c11] (EB a1 a2 v18 x17 x38 (vc ((c12))) (vc ((c13))) (vc ((c14))) c0 c1 c2 c3 c4 c5 c6 c7 c8 c9 c10 c11 [(99999999999,c15),(11,[aI x38.Start,aI x38.Arrival,aI x38.Cost,aL (I X1.row x38.Passages)])] c16)
def HP:=fun(rec_:Xe->(V X)->X->W Xe) (a1:V X) a2 v18 v19 v20 v21 v22 v23 v24 v25 v26 v27 v28 v29 v30 v31 v32 v33 v34 v35 (x38:X0) v36 r51=>(∀(a0:Xe) (a1:V X) (a2:X) zr,rec_ a0 a1 a2=N zr->FCz zA 67 [.p,.d (.sc (.sl (I rI a1))),.d (.sc (.int .i64 a2))] (C4 a0) (C5 a0) (C4 zr) (C5 zr) [])/\((Ab ([]:V X).length a1.length 8)=T)/\((Ab a1.length ([v18]:V X).length 8)=T)/\(rec_ (⟨(⟨(⟨(⟨v19,v20⟩:Xm),v21⟩:Xd),(⟨v22,v23⟩:X4),v24,(⟨v25,v26⟩:Xi),(⟨v27,v28,v29,v30⟩:Xn)⟩:X3),v31,v32,v33,v36,v34,v35⟩:Xe) (a1++([v18]:V X)) (IntKind.i64.wrap (a2+x38.Cost))=N r51)
def B1d{rec_ a1 a2 v18 x17 v19 v20 v21 v22 v23 v24 v25 v26 v27 v28 v29 v30 v31 v32 v33 v34 v35 x38 v36 r51}(H:HP rec_ a1 a2 v18 v19 v20 v21 v22 v23 v24 v25 v26 v27 v28 v29 v30 v31 v32 v33 v34 v35 x38 v36 r51):∀(f:Z) (b7 b8 b9:Y),CX a1 a2 v18 x17 x38 r51 f T T T T T T T b7 b8 b9 T T .undef .undef (aL (I rI (a1++([v18]:V X)))) ([aI r51.h.Forecast.Tide.Mean,aL (I zC r51.h.Forecast.Tide.Parts),aL (I X9.row r51.h.Forecast.Surges),aL (I X7.row r51.h.Chart.Points),aL (I X2.row r51.h.Chart.Segments),aL (I X5.row r51.h.Fleet),aI r51.h.Regime.Gap,aB r51.h.Regime.NoMeet]++dm r51.h.Crew.row++ [aL (I (rL X0.row) r51.lists),aL (I (rL (rL (rL rB))) r51.clash),aL (I rI r51.rest),.own 90000,aI r51.cost,aB r51.found]) [(90000,1,I rI r51.best),(8960,1,I rI ([v18]:V X))]:=by
 obtain⟨h_rec,h49,h50,h51⟩:=id H;unfold CX EB;intro f
 induction f with
 | zero=>
  intro b7 b8 b9 h;obtain rfl:b7=T:=zD.1 h b7 d0;obtain rfl:b8=T:=zD.1 h b8 d0;obtain rfl:b9=T:=zD.1 h b9 d0;rfl
 | succ f ih=>
  intros;refine Ae ⟨?_,?_,?_,?_,?_,?_,?_,?_,?_,?_,?_,?_,⟨⟩⟩<;>try exact gi
def B1e{rec_ a1 a2 v18 x17 v19 v20 v21 v22 v23 v24 v25 v26 v27 v28 v29 v30 v31 v32 v33 v34 v35 x38 v36 r51}(H:HP rec_ a1 a2 v18 v19 v20 v21 v22 v23 v24 v25 v26 v27 v28 v29 v30 v31 v32 v33 v34 v35 x38 v36 r51):∀(f:Z) (b0 b7:Y) (b8 b9 b10:Y),CX a1 a2 v18 x17 x38 r51 f b0 T T T T T T b7 b8 b9 b10 L .undef .undef (.own 8704) [aI v19,aL (I zC v20),aL (I X9.row v21),aL (I X7.row v22),aL (I X2.row v23),aL (I X5.row v24),aI v25,aB v26,aI v27,aI v28,aI v29,aL (I rI v30),aL (I (rL X0.row) v31),aL (I (rL (rL (rL rB))) v32),aL (I rI v33),.own 90000,aI v34,aB v35] [(90000,1,I rI v36),(8704,1,I rI (a1++([v18]:V X))),(8960,1,I rI ([v18]:V X))]:=by
 obtain⟨h_rec,hg49,hg50,hr51⟩:=id H;unfold CX EB;intro f
 induction f with
 | zero=>intros; intro h; simp at h
 | succ f ih=>
  intros;refine Ae ⟨?_,?_,?_,?_,?_,?_,?_,?_,?_,?_,?_,?_,⟨⟩⟩<;>try exact gi
  .intro h0 hw;obtain rfl:=hq hw 0 rfl rfl;obtain rfl:=hq hw 10 rfl rfl;refine⟨[(O,.frz 8704)],[],J,J,?_⟩;try simp only[A7,A8,zF,zE,A4,B,C,E,F,G,U]
   refine Gn ?_;try simp only[A4,B,C,E,F,G,U]
   refine HO (h_rec _ _ _ _ hr51) 99999999999 [90000] rfl J J J d4 J J J ?_;try simp only[A4,B,C,E,F,G,U]
   exact B1d H ..
def gV{rec_ a1 a2 v18 x17 v19 v20 v21 v22 v23 v24 v25 v26 v27 v28 v29 v30 v31 v32 v33 v34 v35 x38 v36 r51}(H:HP rec_ a1 a2 v18 v19 v20 v21 v22 v23 v24 v25 v26 v27 v28 v29 v30 v31 v32 v33 v34 v35 x38 v36 r51):∀(f:Z) (b0 b7:Y) (b8 b9 b10:Y),CX a1 a2 v18 x17 x38 r51 f b0 T T T T T L b7 b8 b9 b10 L .undef (.own 8704) (.own 8704) [aI v19,aL (I zC v20),aL (I X9.row v21),aL (I X7.row v22),aL (I X2.row v23),aL (I X5.row v24),aI v25,aB v26,aI v27,aI v28,aI v29,aL (I rI v30),aL (I (rL X0.row) v31),aL (I (rL (rL (rL rB))) v32),aL (I rI v33),.own 90000,aI v34,aB v35] [(90000,1,I rI v36),(8704,1,I rI a1),(8960,1,I rI ([v18]:V X))]:=by
 obtain⟨h_rec,hg49,hg50,hr51⟩:=id H;unfold CX EB;intro f
 induction f with
 | zero=>intros; intro h; simp at h
 | succ f ih=>
  intros;refine Ae ⟨?_,?_,?_,?_,?_,?_,?_,?_,?_,?_,?_,?_,⟨⟩⟩<;>try exact gi
  .intro h0 hw;refine np ?_;try simp only[hg50,A7,A8,A4,B,C,E,F,G,U]
   exact B1e H ..
def B1g{rec_ a1 a2 v18 x17 v19 v20 v21 v22 v23 v24 v25 v26 v27 v28 v29 v30 v31 v32 v33 v34 v35 x38 v36 r51}(H:HP rec_ a1 a2 v18 v19 v20 v21 v22 v23 v24 v25 v26 v27 v28 v29 v30 v31 v32 v33 v34 v35 x38 v36 r51):∀(f:Z) (b0 b4:Y) (b7 b8:Y) (b9 b10:Y),CX a1 a2 v18 x17 x38 r51 f b0 T T T b4 L L b7 b8 b9 b10 L .undef (.own 8704) (.own 8704) [aI v19,aL (I zC v20),aL (I X9.row v21),aL (I X7.row v22),aL (I X2.row v23),aL (I X5.row v24),aI v25,aB v26,aI v27,aI v28,aI v29,aL (I rI v30),aL (I (rL X0.row) v31),aL (I (rL (rL (rL rB))) v32),aL (I rI v33),.own 90000,aI v34,aB v35] [(90000,1,I rI v36),(8704,1,I rI a1)]:=by
 obtain⟨h_rec,hg49,hg50,hr51⟩:=id H;unfold CX EB;intro f
 induction f with
 | zero=>intros; intro h; simp at h
 | succ f ih=>
  intros;refine Ae ⟨?_,?_,?_,?_,?_,?_,?_,?_,?_,?_,?_,?_,⟨⟩⟩<;>try exact gi
  .intro h0 hw;obtain rfl:=hq hw 4 rfl rfl;refine np ?_;try simp only[A7,A8,A4,B,C,E,F,G,U]
   refine As (I rI ([v18]:V X)) ?_;try simp only[A4,B,C,E,F,G,U]
   exact gV H ..
def gW{rec_ a1 a2 v18 x17 v19 v20 v21 v22 v23 v24 v25 v26 v27 v28 v29 v30 v31 v32 v33 v34 v35 x38 v36 r51}(H:HP rec_ a1 a2 v18 v19 v20 v21 v22 v23 v24 v25 v26 v27 v28 v29 v30 v31 v32 v33 v34 v35 x38 v36 r51):∀(f:Z) (b0 b2:Y) (b7 b8:Y) (b9 b10:Y),CX a1 a2 v18 x17 x38 r51 f b0 T b2 L T T L b7 b8 b9 b10 L (.own 8704) (.own 8704) (.own 8704) [aI v19,aL (I zC v20),aL (I X9.row v21),aL (I X7.row v22),aL (I X2.row v23),aL (I X5.row v24),aI v25,aB v26,aI v27,aI v28,aI v29,aL (I rI v30),aL (I (rL X0.row) v31),aL (I (rL (rL (rL rB))) v32),aL (I rI v33),.own 90000,aI v34,aB v35] [(90000,1,I rI v36),(8704,1,I rI ([]:V X)),(8960,1,I rI ([v18]:V X))]:=by
 obtain⟨h_rec,hg49,hg50,hr51⟩:=id H;unfold CX EB;intro f
 induction f with
 | zero=>intros; intro h; simp at h
 | succ f ih=>
  intros;refine Ae ⟨?_,?_,?_,?_,?_,?_,?_,?_,?_,?_,?_,?_,⟨⟩⟩<;>try exact gi
  .intro h0 hw;obtain rfl:=hq hw 2 rfl rfl;refine np ?_;try simp only[hg49,A7,A8,A4,B,C,E,F,G,U]
   exact gV H ..
def B1h{rec_ a1 a2 v18 x17 v19 v20 v21 v22 v23 v24 v25 v26 v27 v28 v29 v30 v31 v32 v33 v34 v35 x38 v36 r51}(H:HP rec_ a1 a2 v18 v19 v20 v21 v22 v23 v24 v25 v26 v27 v28 v29 v30 v31 v32 v33 v34 v35 x38 v36 r51):∀(f:Z) (b0 b2:Y) (b4 b7:Y) (b8 b9 b10:Y),CX a1 a2 v18 x17 x38 r51 f b0 T b2 L b4 L L b7 b8 b9 b10 L (.own 8704) (.own 8704) (.own 8704) [aI v19,aL (I zC v20),aL (I X9.row v21),aL (I X7.row v22),aL (I X2.row v23),aL (I X5.row v24),aI v25,aB v26,aI v27,aI v28,aI v29,aL (I rI v30),aL (I (rL X0.row) v31),aL (I (rL (rL (rL rB))) v32),aL (I rI v33),.own 90000,aI v34,aB v35] [(90000,1,I rI v36),(8704,1,I rI ([]:V X))]:=by
 obtain⟨h_rec,hg49,hg50,hr51⟩:=id H;unfold CX EB;intro f
 induction f with
 | zero=>intros; intro h; simp at h
 | succ f ih=>
  intros;refine Ae ⟨?_,?_,?_,?_,?_,?_,?_,?_,?_,?_,?_,?_,⟨⟩⟩<;>try exact gi
  .intro h0 hw;obtain rfl:=hq hw 2 rfl rfl;refine np ?_;try simp only[hg49,A7,A8,A4,B,C,E,F,G,U]
   exact B1g H ..
  .intro h0 hw;obtain rfl:=hq hw 4 rfl rfl;refine np ?_;try simp only[A7,A8,A4,B,C,E,F,G,U]
   refine As (I rI ([v18]:V X)) ?_;try simp only[A4,B,C,E,F,G,U]
   exact gW H ..
def B1i{rec_ a1 a2 v18 x17 v19 v20 v21 v22 v23 v24 v25 v26 v27 v28 v29 v30 v31 v32 v33 v34 v35 x38 v36 r51}(H:HP rec_ a1 a2 v18 v19 v20 v21 v22 v23 v24 v25 v26 v27 v28 v29 v30 v31 v32 v33 v34 v35 x38 v36 r51):∀(f:Z) (b0 b2:Y) (b7 b8:Y) (b9 b10:Y),CX a1 a2 v18 x17 x38 r51 f b0 L b2 L T T L b7 b8 b9 b10 L (.own 8704) (.own 8704) (.own 8704) [aI v19,aL (I zC v20),aL (I X9.row v21),aL (I X7.row v22),aL (I X2.row v23),aL (I X5.row v24),aI v25,aB v26,aI v27,aI v28,aI v29,aL (I rI v30),aL (I (rL X0.row) v31),aL (I (rL (rL (rL rB))) v32),aL (I rI v33),.own 90000,aI v34,aB v35] [(90000,1,I rI v36),(8960,1,I rI ([v18]:V X))]:=by
 obtain⟨h_rec,hg49,hg50,hr51⟩:=id H;unfold CX EB;intro f
 induction f with
 | zero=>intros; intro h; simp at h
 | succ f ih=>
  intros;refine Ae ⟨?_,?_,?_,?_,?_,?_,?_,?_,?_,?_,?_,?_,⟨⟩⟩<;>try exact gi
  .intro h0 hw;refine kp [0,1,2,6,10,11,103,104,105,135,136,137,138,139,140,141,142,143,144,145,146] [99999999999,11] [90000,8704,8960] ?_;try simp only[A7,A8,zF,zE,A4,B,C,E,F,G,U]
   refine As (I rI ([]:V X)) ?_;try simp only[A4,B,C,E,F,G,U]
   exact gW H ..
def B1j{rec_ a1 a2 v18 x17 v19 v20 v21 v22 v23 v24 v25 v26 v27 v28 v29 v30 v31 v32 v33 v34 v35 x38 v36 r51}(H:HP rec_ a1 a2 v18 v19 v20 v21 v22 v23 v24 v25 v26 v27 v28 v29 v30 v31 v32 v33 v34 v35 x38 v36 r51):∀(f:Z) (b0 b2:Y) (b4 b7:Y) (b8 b9 b10:Y),CX a1 a2 v18 x17 x38 r51 f b0 L b2 L b4 L L b7 b8 b9 b10 L (.own 8704) (.own 8704) (.own 8704) [aI v19,aL (I zC v20),aL (I X9.row v21),aL (I X7.row v22),aL (I X2.row v23),aL (I X5.row v24),aI v25,aB v26,aI v27,aI v28,aI v29,aL (I rI v30),aL (I (rL X0.row) v31),aL (I (rL (rL (rL rB))) v32),aL (I rI v33),.own 90000,aI v34,aB v35] [(90000,1,I rI v36)]:=by
 obtain⟨h_rec,hg49,hg50,hr51⟩:=id H;unfold CX EB;intro f
 induction f with
 | zero=>intros; intro h; simp at h
 | succ f ih=>
  intros;refine Ae ⟨?_,?_,?_,?_,?_,?_,?_,?_,?_,?_,?_,?_,⟨⟩⟩<;>try exact gi
  .intro h0 hw;refine np ?_;try simp only[A7,A8,A4,B,C,E,F,G,U]
   refine As (I rI ([]:V X)) ?_;try simp only[A4,B,C,E,F,G,U]
   exact B1h H ..
  .intro h0 hw;obtain rfl:=hq hw 4 rfl rfl;refine np ?_;try simp only[A7,A8,A4,B,C,E,F,G,U]
   refine As (I rI ([v18]:V X)) ?_;try simp only[A4,B,C,E,F,G,U]
   exact B1i H ..
def mW:=fun a1 a2 (a0:Xe) v4 (k_:X->(V X0)->W Xe)=>∀{v6 v7} {zr},k_ v6 v7=N zr->Kh zA 67 Me 18 [0,1,2,7,45,46,47] [99999999999] [90000,2816] ⟨[(0,vc (.pb 99999999999 0)),pL 1 rI a1,pI 2 a2,pW 7 2816,pL 45 rI a1,pI 46 (a1.length:X),pI 47 v6],[(99999999999,([aI a0.h.Forecast.Tide.Mean,aM zC a0.h.Forecast.Tide.Parts,aM X9.row a0.h.Forecast.Surges,aM X7.row a0.h.Chart.Points,aM X2.row a0.h.Chart.Segments,aM X5.row a0.h.Fleet,aI a0.h.Regime.Gap,aB a0.h.Regime.NoMeet]++dm a0.h.Crew.row++ [aM (rL X0.row) a0.lists,aL (I (rL (rL (rL rB))) a0.clash),aM rI a0.rest,.own 90000,aI a0.cost,aB v4]))],[(90000,1,I rI a0.best),(2816,4,I X0.row v7)]⟩ (Dk [] [] (C4 zr) (C5 zr))
def mX:=fun a1 a2 v18 x17 v19 v20 v21 v22 v23 v24 v25 v26 v27 v28 v29 v30 v31 v32 v33 v34 v35 (x38:X0) v36 (k_:Y->X->W Xe)=>∀{v39 v40} {zr},k_ v39 v40=N zr->Kh zA 67 Me 63 [0,1,2,6,10,11,12,103,104,105,110,111,112] [99999999999,11] [90000] ⟨[(0,vc (.pb 99999999999 0)),pL 1 rI a1,pI 2 a2,pI 6 (a1.length:X),pI 10 v18,pB 11,(12,vc (aB v39)),pL 103 X0.row x17,pI 104 (x17.length:X),pI 105 v18,pL 110 rI a1,pI 111 (a1.length:X),pI 112 v40],[(99999999999,[aI v19,aM zC v20,aM X9.row v21,aM X7.row v22,aM X2.row v23,aM X5.row v24,aI v25,aB v26,aI v27,aI v28,aI v29,aM rI v30,aM (rL X0.row) v31,aL (I (rL (rL (rL rB))) v32),aM rI v33,.own 90000,aI v34,aB v35]),(11,[aI x38.Start,aI x38.Arrival,aI x38.Cost,aM X1.row x38.Passages])],[(90000,1,I rI v36)]⟩ (Dk [] [] (C4 zr) (C5 zr))
def XO:=fun a1 a2 x17 (k_:X->X->(V Xc)->(V X9)->(V X7)->(V X2)->(V X5)->X->Y->X->X->X->(V X)->(V (V X0))->(V (V (V (V Y))))->(V X)->X->Y->(V X)->W Xe)=>∀{v18 v19 v20 v21 v22 v23 v24 v25 v26 v27 v28 v29 v30 v31 v32 v33 v34 v35 v36} {zr},k_ v18 v19 v20 v21 v22 v23 v24 v25 v26 v27 v28 v29 v30 v31 v32 v33 v34 v35 v36=N zr->Kh zA 67 Me 46 [0,1,2,6,103,104,105] [99999999999] [90000] ⟨[(0,vc (.pb 99999999999 0)),pL 1 rI a1,pI 2 a2,pI 6 (a1.length:X),pL 103 X0.row x17,pI 104 (x17.length:X),pI 105 v18],[(99999999999,[aI v19,aM zC v20,aM X9.row v21,aM X7.row v22,aM X2.row v23,aM X5.row v24,aI v25,aB v26,aI v27,aI v28,aI v29,aM rI v30,aM (rL X0.row) v31,aL (I (rL (rL (rL rB))) v32),aM rI v33,.own 90000,aI v34,aB v35])],[(90000,1,I rI v36)]⟩ (Dk [] [] (C4 zr) (C5 zr))
def mV:=fun a1 a2 (a0:Xe) (k_:Y->W Xe)=>∀{v4} {zr},k_ v4=N zr->Kh zA 67 Me 8 [0,1,2,6] [99999999999] [90000] ⟨[(0,vc (.pb 99999999999 0)),pL 1 rI a1,pI 2 a2,pI 6 (a1.length:X)],[(99999999999,([aI a0.h.Forecast.Tide.Mean,aM zC a0.h.Forecast.Tide.Parts,aM X9.row a0.h.Forecast.Surges,aM X7.row a0.h.Chart.Points,aM X2.row a0.h.Chart.Segments,aM X5.row a0.h.Fleet,aI a0.h.Regime.Gap,aB a0.h.Regime.NoMeet]++dm a0.h.Crew.row++ [aM (rL X0.row) a0.lists,aL (I (rL (rL (rL rB))) a0.clash),aM rI a0.rest,.own 90000,aI a0.cost,aB v4]))],[(90000,1,I rI a0.best)]⟩ (Dk [] [] (C4 zr) (C5 zr))
def B1k{rec_:Xe->(V X)->X->W Xe}(h_rec:∀(a0:Xe) (a1:V X) (a2:X) zr,rec_ a0 a1 a2=N zr->FCz zA 67 [.p,.d (.sc (.sl (I rI a1))),.d (.sc (.int .i64 a2))] (C4 a0) (C5 a0) (C4 zr) (C5 zr) []){a1 a2 a0 v4}{n:Z}:mW a1 a2 a0 v4 (Ds rec_ a1 a2 a0 v4 n):=by
 induction n with
 | zero=>intro _ _ r h; cases h
 | succ n ih=>
  intro v6 v7 r h M hσ S hS;refine ev hS ?_;rw[Ds] at h;refine AA (Av ?_);obtain⟨h8,h⟩|⟨h8,h⟩:=ic h
  .obtain⟨x9,h9,h⟩:=ob h;obtain⟨x10,h10,h⟩:=ob h;obtain⟨x11,h11,h⟩:=ob h;refine sg ?_;refine AU (es:=I X0.row ([x11]:V X0)) ?_;obtain⟨h12,h⟩:=AR h;refine sg ?_;exact ih h sq kr
  .obtain⟨r13,h13,h⟩:=ob h;refine sg ?_;refine CO (Ag A8v h13) ?_;obtain⟨r14,h14,h⟩:=ob h;refine sg ?_;refine B8 (Ag A80 h14) J (Br J) J (uf J) ?_;refine sg ?_;obtain⟨h15,h⟩|⟨h15,h⟩:=ic h
   .refine sg ?_;refine AU (es:=I rI ([]:V X)) ?_;obtain⟨h16,h⟩:=AR h;refine sg ?_;cases h;exact⟨trivial,[5440],d4,d4,J,J⟩
   .refine sg ?_;cases h;exact⟨trivial,[90000],d4,d4,J,J⟩
def B1l{rec_:Xe->(V X)->X->W Xe}(h_rec:∀(a0:Xe) (a1:V X) (a2:X) zr,rec_ a0 a1 a2=N zr->FCz zA 67 [.p,.d (.sc (.sl (I rI a1))),.d (.sc (.int .i64 a2))] (C4 a0) (C5 a0) (C4 zr) (C5 zr) []){a1 a2 v18 x17 v19 v20 v21 v22 v23 v24 v25 v26 v27 v28 v29 v30 v31 v32 v33 v34 v35 x38 v36}{Kg}(bK:XO a1 a2 x17 Kg){n:Z}:mX a1 a2 v18 x17 v19 v20 v21 v22 v23 v24 v25 v26 v27 v28 v29 v30 v31 v32 v33 v34 v35 x38 v36 (DI rec_ a1 a2 v18 x17 v19 v20 v21 v22 v23 v24 v25 v26 v27 v28 v29 v30 v31 v32 v33 v34 v35 x38 v36 Kg n):=by
 induction n with
 | zero=>intro _ _ r h; cases h
 | succ n ih=>
  intro v39 v40 r h M hσ S hS;refine ev hS ?_;rw[DI] at h;refine AA (Av ?_);obtain⟨h41,h⟩|⟨h41,h⟩:=ic h
  .obtain⟨x42,h42,h⟩:=ob h;obtain⟨x43,h43,h⟩:=ob h;obtain⟨x44,h44,h⟩:=ob h;obtain⟨x45,h45,h⟩:=ob h;obtain⟨x46,h46,h⟩:=ob h;obtain⟨h47,h⟩|⟨h47,h⟩:=ic h
   .refine sg ?_;exact ih h sq kr
   .refine sg ?_;exact ih h sq kr
  .obtain⟨h48,h⟩|⟨h48,h⟩:=ic h
   .refine sg ?_;obtain⟨h49,h⟩:=AR h;obtain⟨h50,h⟩:=AR h;obtain⟨r51,h51,h⟩:=ob h;refine DL (ks:= [0,1,2,6,10,11,103,104,105]) (bs:= [99999999999,11]) (rs:= [90000]) (τ:=(Wj a1 a2 v18 x17 x38 r51)) J (B1j ⟨h_rec,h49,h50,h51⟩ _ L L L L L L L) ?_;simp only[Wj,EB,A7];refine sg ?_;exact bK h sq kr
   .refine sg ?_;exact bK h sq kr
def B1m{rec_:Xe->(V X)->X->W Xe}(h_rec:∀(a0:Xe) (a1:V X) (a2:X) zr,rec_ a0 a1 a2=N zr->FCz zA 67 [.p,.d (.sc (.sl (I rI a1))),.d (.sc (.int .i64 a2))] (C4 a0) (C5 a0) (C4 zr) (C5 zr) []){a1 a2 x17}{n:Z}:XO a1 a2 x17 (F1 rec_ a1 a2 x17 n):=by
 induction n with
 | zero=>intro _ _ _ _ _ _ _ _ _ _ _ _ _ _ _ _ _ _ _ r h; cases h
 | succ n ih=>
  intro v18 v19 v20 v21 v22 v23 v24 v25 v26 v27 v28 v29 v30 v31 v32 v33 v34 v35 v36 r h M hσ S hS;refine ev hS ?_;rw[F1] at h;refine AA (Av ?_);obtain⟨h37,h⟩|⟨h37,h⟩:=ic h
  .obtain⟨x38,h38,h⟩:=ob h;refine sg ?_;exact B1l h_rec ih h sq kr
  .refine sg ?_;cases h;exact⟨trivial,[90000],d4,d4,J,J⟩
def gX{rec_:Xe->(V X)->X->W Xe}(h_rec:∀(a0:Xe) (a1:V X) (a2:X) zr,rec_ a0 a1 a2=N zr->FCz zA 67 [.p,.d (.sc (.sl (I rI a1))),.d (.sc (.int .i64 a2))] (C4 a0) (C5 a0) (C4 zr) (C5 zr) []){a1 a2 a0}:mV a1 a2 a0 (HI rec_ a1 a2 a0):=by
 intro v4 r h M hσ;unfold HI at h;have s0:= @Aq (I X0.row ([]:V X0));have k0:= @B1k; have k1:= @B1m;exact gc
def rk:AF zA 67=N ((By zA 67 Me).strip,[],148):=by kernel_rfl
def A9j(rec_:Xe->(V X)->X->W Xe)(a0:Xe)(a1:V X)(a2:X)(r:Xe)(h_rec:∀(a0:Xe) (a1:V X) (a2:X) zr,rec_ a0 a1 a2=N zr->FCz zA 67 [.p,.d (.sc (.sl (I rI a1))),.d (.sc (.int .i64 a2))] (C4 a0) (C5 a0) (C4 zr) (C5 zr) [])(h:S0 rec_ a0 a1 a2=N r):FCz zA 67 [.p,.d (.sc (.sl (I rI a1))),.d (.sc (.int .i64 a2))] (C4 a0) (C5 a0) (C4 r) (C5 r) []:=by
 unfold S0 at h;refine QO (M:=⟨[(0,vc (.pb 99999999999 0)),(1,vc (aL (I rI a1))),(2,vc (aI a2))],[(99999999999,[aI a0.h.Forecast.Tide.Mean,aL (I zC a0.h.Forecast.Tide.Parts),aL (I X9.row a0.h.Forecast.Surges),aL (I X7.row a0.h.Chart.Points),aL (I X2.row a0.h.Chart.Segments),aL (I X5.row a0.h.Fleet),aI a0.h.Regime.Gap,aB a0.h.Regime.NoMeet,aI a0.h.Crew.Tugs,aI a0.h.Crew.Pilots,aI a0.h.Crew.Rest,aL (I rI a0.h.Crew.Moves),aL (I (rL X0.row) a0.lists),aL (I (rL (rL (rL rB))) a0.clash),aL (I rI a0.rest),.own 90000,aI a0.cost,aB a0.found])],[(90000,1,I rI a0.best)]⟩) A2 rk J J J J ?_;refine BC Me ?_;intro S hS;refine ev hS ?_;refine sg ?_;obtain⟨h1,h⟩|⟨h1,h⟩:=ic h
 .obtain⟨x2,h2,h⟩:=ob h;obtain⟨h3,h⟩|⟨h3,h⟩:=ic h
  .refine sg ?_;cases h;exact⟨trivial,[90000],d4,d4,J,J⟩
  .refine sg ?_;exact gX h_rec h sq kr
 .refine sg ?_;exact gX h_rec h sq kr
def A9k:∀(n:Z) (a0:Xe) (a1:V X) (a2:X) (r:Xe),BW n a0 a1 a2=N r->FCz zA 67 [.p,.d (.sc (.sl (I rI a1))),.d (.sc (.int .i64 a2))] (C4 a0) (C5 a0) (C4 r) (C5 r) []:=by
 intro n
 induction n with
 | zero=>intro _ _ _ r h; cases h
 | succ n ih=>intro a0 a1 a2 r h; rw[BW] at h; exact A9j (BW n) a0 a1 a2 r ih h
def A9i{a0}{a1}{a2}{r}(h:Ud a0 a1 a2=N r):FCz zA 67 [.p,.d (.sc (.sl (I rI a1))),.d (.sc (.int .i64 a2))] (C4 a0) (C5 a0) (C4 r) (C5 r) []:=A9k bigN a0 a1 a2 r h
def ZA:Hw:=([(8,[1,4,5,6,7,8],[20],[896,1152,149440])],[(6,0,(O,.ownb 20 15 149440 1)),(30,2,(O,.frz 896)),(30,3,(O,.frz 1152)),(30,4,(O,.frz 3776))])
def mT:=fun a1 (a0:X3) r1 (k_:X->(V X)->W ((V X) × X × Y))=>∀{v3 v4} {zr},k_ v3 v4=N zr->Kh zA 26 ZA 8 [1,4,5,6,7,8] [20] [896,1152,149440] ⟨[pL 1 (rL X0.row) a1,(4,vc (.nil)),pI 5 (0:X),(6,vc (aB L)),(7,vc (.pb 20 0)),pI 8 v3],[(20,([aI a0.Forecast.Tide.Mean,aM zC a0.Forecast.Tide.Parts,aM X9.row a0.Forecast.Surges,aM X7.row a0.Chart.Points,aM X2.row a0.Chart.Segments,aM X5.row a0.Fleet,aI a0.Regime.Gap,aB a0.Regime.NoMeet]++dm a0.Crew.row++ [aM (rL X0.row) a1,.own 896,.own 1152,.own 149440,aI (0:X),aB L]))],[(896,1,I (rL (rL (rL rB))) r1),(1152,1,I rI v4),(149440,1,I rI ([]:V X))]⟩ (A5 [4,5,6] [.sc (.o 1 (I rI zr.1)),.sc (.v (.int .i64 zr.2.1)),.sc (.v (.bool zr.2.2))])
def B1n{a1 a0 r1}{n:Z}:mT a1 a0 r1 (K4 a1 a0 r1 n):=by
 induction n with
 | zero=>intro _ _ r h; cases h
 | succ n ih=>
  intro v3 v4 r h M hσ S hS;refine ev hS ?_;rw[K4] at h;refine AA (Av ?_);obtain⟨h5,h⟩|⟨h5,h⟩:=ic h
  .obtain⟨x6,h6,h⟩:=ob h;obtain⟨r7,h7,h⟩:=ob h;refine sg ?_;refine AD (Ag A8y h7) ?_;obtain⟨h8,h⟩|⟨h8,h⟩:=ic h
   .refine sg ?_;cases h;trivial
   .obtain⟨x9,h9,h⟩:=ob h;have h9n:=Ah h9;obtain⟨x10,h10,h⟩:=ob h;obtain⟨x11,h11,h⟩:=ob h;have h11n:=Ah h11;refine sg ?_;refine AM (row:=rI) (y:=(IntKind.i64.wrap (x9+x10.Cost))) J J h11n J J (by rfl) ?_;refine sg ?_;exact ih h sq kr
  .refine sg ?_;refine AU (es:=I rI ([]:V X)) ?_;refine sg ?_;refine S8 ?_;obtain⟨r12,h12,h⟩:=ob h;refine sg ?_;refine HO (A9i h12) 20 [149440] rfl J J J d4 J J J ?_;obtain⟨h13,h⟩|⟨h13,h⟩:=ic h
   .refine sg ?_;cases h;trivial
   .refine sg ?_;cases h;trivial
instance C2a:Ct 26 (∀{a0} {a1} {r},M6 a0 a1=N r->FC zA 26 [.ag (X3.row a0),.sc (.sl (I (rL X0.row) a1))] [.sc (.o 1 (I rI r.1)),.sc (.v (.int .i64 r.2.1)),.sc (.v (.bool r.2.2))]):=by
 refine⟨fun{a0} {a1} {r} h=> ?_⟩;unfold M6 at h;refine A3 A2 ZA [4,5,6] 74 ?_;intro S hS;refine ev hS ?_;obtain⟨r1,h1,h⟩:=ob h;refine sg ?_;refine CO (Ag A9h h1) ?_;obtain⟨n2,hn2,h⟩:=ob h;refine sg ?_;refine Uj (m:= .row 18 1 (I rI (List.replicate n2 (0:X)))) (cH J J hn2 J (Qn J)) J (Vh J) ?_;refine sg ?_;refine Gp (cs':= [aI a0.Forecast.Tide.Mean,aL (I zC a0.Forecast.Tide.Parts),aL (I X9.row a0.Forecast.Surges),aL (I X7.row a0.Chart.Points),aL (I X2.row a0.Chart.Segments),aL (I X5.row a0.Fleet),aI a0.Regime.Gap,aB a0.Regime.NoMeet,aI a0.Crew.Tugs,aI a0.Crew.Pilots,aI a0.Crew.Rest,aL (I rI a0.Crew.Moves),aL (I (rL X0.row) a1),.own 896,.own 1152,.own 149440,aI (0:X),aB L]) J J J J ?_;refine sg ?_;exact B1n h sq kr
def B6t:V (V Z × AItem):= [([],(O,.mv 59 (S 14))),([],(O,.load 60 (S 3) T 12)),([],(O,.load 61 (S 16) T 5)),([],(O,.mv 62 (S 2))),([],(O,.mv 63 (S 15))),([3,4],(O,.iaddr 64 (S 62) (S 63) 4)),([5],(O,.load 65 (S 64) T 4)),([1,2,6],(O,.call 66 28 [(S 60),(S 61),(S 65)])),([],(O,.mv 67 (S 11))),([],(O,.mv 68 (S 15))),([8,9],(O,.iaddr 69 (S 67) (S 68) 1)),([10],(O,.load 70 (S 69) L 1)),([7,11],(O,.iaddr 71 (S 66) (S 70) 4)),([12],(O,.load 72 (S 71) T 4)),([13],(O,.bslice 73 4 [.int .i64 0,.int .i64 0,.int .i64 0,.sl []] 1 [(0,(S 72))])),([0,14,7],(O,.app 74 4 48 (S 59) (S 73))),([15,15,0,1,2,3,4,5,6,7,8,9,10,11,12,13,14,15],(O,.mv 14 (S 74)))]
def Sb:Hw:=([(5,[1,2,3,27],[3],[]),(14,[1,2,3,28,29,30],[3],[]),(49,[2,3,11,12,14,52,53,54],[3],[2880,3264])],[])
abbrev Ia(a2:V X0)(r12:(V X) × X × Y)(a1:V X8)(a0:X3)(v14:X)(x17:X8)(x18:X0)(x20:X)(x21:X0)(ws14_ wo0_ wu16_:AV)(c0_ c1_:Y)(c2_ c3_:Y)(c4_ c5_:Y)(c6_ c7_:Y)(c8_ c9_:Y)(c10_ c11_:Y)(c12_ c13_:Y)(c14_ c15_:Y)(bx_:V (Z × V AC))(rs_:Rows):St:=⟨[(2,vc (aL (I X0.row a2))),(3,vc (.pb 3 0)),(11,vc (.own 2880)),(12,vc (aI r12.2.1)),(14,ws14_),(15,vc (aI v14)),(16,vc (.pb 16 0)),(52,vc (aL (I X8.row a1))),(53,vc (aI (a1.length:X))),(54,vc (aI v14)),(59,bif c0_ then wo0_ else .undef),(60,bif c1_ then va ([aI a0.Forecast.Tide.Mean,aL (I zC a0.Forecast.Tide.Parts),aL (I X9.row a0.Forecast.Surges),aL (I X7.row a0.Chart.Points),aL (I X2.row a0.Chart.Segments),aL (I X5.row a0.Fleet),aI a0.Regime.Gap,aB a0.Regime.NoMeet]++dm a0.Crew.row) else .undef),(61,bif c2_ then va (dm x17.row) else .undef),(62,bif c3_ then vc (aL (I X0.row a2)) else .undef),(63,bif c4_ then vc (aI v14) else .undef),(64,bif c5_ then vc (.dat (.pd [.int .i64 x18.Start,.int .i64 x18.Arrival,.int .i64 x18.Cost,.sl (I X1.row x18.Passages)])) else .undef),(65,bif c6_ then va [aI x18.Start,aI x18.Arrival,aI x18.Cost,aL (I X1.row x18.Passages)] else .undef),(66,bif c7_ then vc (.own 4224) else .undef),(67,bif c8_ then vc (.own 2880) else .undef),(68,bif c9_ then vc (aI v14) else .undef),(69,bif c10_ then vc (.pe 2880 (zB v14) 0) else .undef),(70,bif c11_ then vc (aI x20) else .undef),(71,bif c12_ then vc (.pe 4224 (zB x20) 0) else .undef),(72,bif c13_ then va [aI x21.Start,aI x21.Arrival,aI x21.Cost,aL (I X1.row x21.Passages)] else .undef),(73,bif c14_ then vc (.own 4672) else .undef),(74,bif c15_ then vc (.own 3264) else .undef),(14,wu16_)],bx_,rs_⟩
abbrev Wg(a2:V X0)(r12:(V X) × X × Y)(a1:V X8)(a0:X3)(v14:X)(v15:V X0)(x17:X8)(x18:X0)(r19:(V X0))(x20:X)(x21:X0):St:=(Ia a2 r12 a1 a0 v14 x17 x18 x20 x21 (vc (.own 3264)) (vc (.undef)) (vc (.own 3264)) T T T T T T T T T T T T T T T T [(3,([aI a0.Forecast.Tide.Mean,aL (I zC a0.Forecast.Tide.Parts),aL (I X9.row a0.Forecast.Surges),aL (I X7.row a0.Chart.Points),aL (I X2.row a0.Chart.Segments),aL (I X5.row a0.Fleet),aI a0.Regime.Gap,aB a0.Regime.NoMeet]++dm a0.Crew.row)),(16,(dm x17.row))] [(2880,1,I rI r12.1),(3264,4,I X0.row (v15++([x21]:V X0))),(4224,4,I X0.row r19),(4672,4,I X0.row ([x21]:V X0))])
def Fv:=fun a2 (r12:(V X) × X × Y) a1 a0 v14 (v15:V X0) x17 x18 r19 x20 x21 (f:Z) (c0:Y) (c1:Y) (c2:Y) (c3:Y) (c4:Y) (c5:Y) (c6:Y) (c7:Y) (c8:Y) (c9:Y) (c10:Y) (c11:Y) (c12:Y) (c13:Y) (c14:Y) (c15:Y) (c16:Y) c17 c18 c19 c20=>Dl zA B6t (Wg a2 r12 a1 a0 v14 v15 x17 x18 r19 x20 x21) f [c0,c1,c2,c3,c4,c5,c6,c7,c8,c9,c10,c11,c12,c13,c14,c15,c16] (Ia a2 r12 a1 a0 v14 x17 x18 x20 x21 (vc ((c17))) (vc ((c18))) ((c19)) c0 c1 c2 c3 c4 c5 c6 c7 c8 c9 c10 c11 c12 c13 c14 c15 [(3,([aI a0.Forecast.Tide.Mean,aL (I zC a0.Forecast.Tide.Parts),aL (I X9.row a0.Forecast.Surges),aL (I X7.row a0.Chart.Points),aL (I X2.row a0.Chart.Segments),aL (I X5.row a0.Fleet),aI a0.Regime.Gap,aB a0.Regime.NoMeet]++dm a0.Crew.row)),(16,(dm x17.row))] c20)
def PJ:=fun a2 (r12:(V X) × X × Y) a1 a0 v14 (v15:V X0) x17 x18 r19 x20 x21=>(ix a2 v14=N x18)/\(Hk a0 x17 x18=N r19)/\(ix r12.1 v14=N x20)/\(ix r19 x20=N x21)/\((Ab v15.length ([x21]:V X0).length 48)=T)/\(ix a1 v14=N x17)
def SJ{P:Program}{o:AItem}{Q:Xl->St->Prop}{M:St}(c:V Z)(h:go P [.ops [o,(O,.keep [2,3,11,12,14,15,16,52,53,54,59,60,61,62,63,64,65,66,67,68,69,70,71,72,73,74,14] [3,16] c)]] Q .normal (N M)):∃pre post:V AItem,pre.all (fun i=>i.2.idle)=T/\post.all (fun i=>i.2.idle)=T/\go P [.ops (pre++o::post)] Q .normal (N M):=kp _ _ c h
def B1o{a2 r12 a1 a0 v14 v15 x17 x18 r19 x20 x21}(H:PJ a2 r12 a1 a0 v14 v15 x17 x18 r19 x20 x21):∀(f:Z),Fv a2 r12 a1 a0 v14 v15 x17 x18 r19 x20 x21 f T T T T T T T T T T T T T T T T T (.own 3264) .undef (vc (.own 3264)) [(2880,1,I rI r12.1),(3264,4,I X0.row (v15++([x21]:V X0))),(4224,4,I X0.row r19),(4672,4,I X0.row ([x21]:V X0))]:=by
 obtain⟨h18,h19,h20,h21,h22,h17⟩:=id H;unfold Fv Ia;intro f;have h18n:=Ah h18;have h20n:=Ah h20;have h21n:=Ah h21;have h17n:=Ah h17
 induction f with
 | zero=>intro h; rfl
 | succ f ih=>
  refine Ae ⟨?_,?_,?_,?_,?_,?_,?_,?_,?_,?_,?_,?_,?_,?_,?_,?_,?_,⟨⟩⟩<;>try first | (intro h; cases h; done)
def B1p{a2 r12 a1 a0 v14 v15 x17 x18 r19 x20 x21}(H:PJ a2 r12 a1 a0 v14 v15 x17 x18 r19 x20 x21):∀(f:Z) (b3 b4:Y) (b5 b8:Y) (b9 b10:Y) (b11 b12:Y),Fv a2 r12 a1 a0 v14 v15 x17 x18 r19 x20 x21 f T T T b3 b4 b5 T T b8 b9 b10 b11 b12 T T T L .undef .undef (vc (.undef)) [(2880,1,I rI r12.1),(3264,4,I X0.row (v15++([x21]:V X0))),(4224,4,I X0.row r19),(4672,4,I X0.row ([x21]:V X0))]:=by
 obtain⟨hx18,hr19,hx20,hx21,hg22,hx17⟩:=id H;unfold Fv Ia;intro f;have hx18n:=Ah hx18;have hx20n:=Ah hx20;have hx21n:=Ah hx21;have hx17n:=Ah hx17
 induction f with
 | zero=>intros; intro h; simp at h
 | succ f ih=>
  intros;refine Ae ⟨?_,?_,?_,?_,?_,?_,?_,?_,?_,?_,?_,?_,?_,?_,?_,?_,?_,⟨⟩⟩<;>try exact gj
  .intro h0 hw;obtain rfl:=hq hw 3 rfl rfl;obtain rfl:=hq hw 4 rfl rfl;obtain rfl:=hq hw 5 rfl rfl;obtain rfl:=hq hw 8 rfl rfl;obtain rfl:=hq hw 9 rfl rfl;obtain rfl:=hq hw 10 rfl rfl;obtain rfl:=hq hw 11 rfl rfl;obtain rfl:=hq hw 12 rfl rfl;refine SJ [2880,3264,4224,4672] ?_;try simp only[A7,A8,zF,zE,A4,B,C,E,F,G,U]
   exact B1o H ..
def B1q{a2 r12 a1 a0 v14 v15 x17 x18 r19 x20 x21}(H:PJ a2 r12 a1 a0 v14 v15 x17 x18 r19 x20 x21):∀(f:Z) (b0 b3:Y) (b4 b5:Y) (b8 b9:Y) (b10 b11 b12:Y),Fv a2 r12 a1 a0 v14 v15 x17 x18 r19 x20 x21 f b0 T T b3 b4 b5 T T b8 b9 b10 b11 b12 T T L L (.own 3264) (.own 3264) (vc (.own 3264)) [(2880,1,I rI r12.1),(3264,4,I X0.row v15),(4224,4,I X0.row r19),(4672,4,I X0.row ([x21]:V X0))]:=by
 obtain⟨hx18,hr19,hx20,hx21,hg22,hx17⟩:=id H;unfold Fv Ia;intro f;have hx18n:=Ah hx18;have hx20n:=Ah hx20;have hx21n:=Ah hx21;have hx17n:=Ah hx17
 induction f with
 | zero=>intros; intro h; simp at h
 | succ f ih=>
  intros;refine Ae ⟨?_,?_,?_,?_,?_,?_,?_,?_,?_,?_,?_,?_,?_,?_,?_,?_,?_,⟨⟩⟩<;>try exact gj
  .intro h0 hw;obtain rfl:=hq hw 0 rfl rfl;refine SJ [2880,3264,4224,4672] ?_;try simp only[hg22,A7,A8,zF,zE,A4,B,C,E,F,G,U]
   exact B1p H ..
def B1r{a2 r12 a1 a0 v14 v15 x17 x18 r19 x20 x21}(H:PJ a2 r12 a1 a0 v14 v15 x17 x18 r19 x20 x21):∀(f:Z) (b0 b3:Y) (b4 b5:Y) (b8 b9:Y) (b10 b11:Y) (b12 b13:Y),Fv a2 r12 a1 a0 v14 v15 x17 x18 r19 x20 x21 f b0 T T b3 b4 b5 T T b8 b9 b10 b11 b12 b13 L L L (.own 3264) (.own 3264) (vc (.own 3264)) [(2880,1,I rI r12.1),(3264,4,I X0.row v15),(4224,4,I X0.row r19)]:=by
 obtain⟨hx18,hr19,hx20,hx21,hg22,hx17⟩:=id H;unfold Fv Ia;intro f;have hx18n:=Ah hx18;have hx20n:=Ah hx20;have hx21n:=Ah hx21;have hx17n:=Ah hx17
 induction f with
 | zero=>intros; intro h; simp at h
 | succ f ih=>
  intros;refine Ae ⟨?_,?_,?_,?_,?_,?_,?_,?_,?_,?_,?_,?_,?_,?_,?_,?_,?_,⟨⟩⟩<;>try exact gj
  .intro h0 hw;obtain rfl:=hq hw 13 rfl rfl;refine SJ [2880,3264,4224,4672] ?_;try simp only[A7,A8,zF,zE,A4,B,C,E,F,G,U]
   refine As (I X0.row ([x21]:V X0)) ?_;try simp only[A4,B,C,E,F,G,U]
   exact B1q H ..
def B1s{a2 r12 a1 a0 v14 v15 x17 x18 r19 x20 x21}(H:PJ a2 r12 a1 a0 v14 v15 x17 x18 r19 x20 x21):∀(f:Z) (b0 b1:Y) (b2 b3:Y) (b4 b5:Y) (b6 b8:Y) (b9 b10 b11:Y),Fv a2 r12 a1 a0 v14 v15 x17 x18 r19 x20 x21 f b0 b1 b2 b3 b4 b5 b6 L b8 b9 b10 b11 L L L L L (.own 3264) (.own 3264) .undef [(2880,1,I rI r12.1),(3264,4,I X0.row v15)]:=by
 obtain⟨hx18,hr19,hx20,hx21,hg22,hx17⟩:=id H;unfold Fv Ia;intro f;have hx18n:=Ah hx18;have hx20n:=Ah hx20;have hx21n:=Ah hx21;have hx17n:=Ah hx17
 induction f with
 | zero=>intros; intro h; simp at h
 | succ f ih=>
  intros;refine Ae ⟨?_,?_,?_,?_,?_,?_,?_,?_,?_,?_,?_,?_,?_,?_,?_,?_,?_,⟨⟩⟩<;>try exact gj
  .intro h0 hw;obtain rfl:=hq hw 1 rfl rfl;obtain rfl:=hq hw 2 rfl rfl;obtain rfl:=hq hw 6 rfl rfl;refine SJ [2880,3264,4224] ?_;try simp only[A7,A8,zF,zE,A4,B,C,E,F,G,U]
   refine K9 (Ag A8z hr19) J (by simp only[St.fresh,List.all_cons,List.all_nil,Cu]; simp[AV.cells,V1.cells,AC.uses]) (uf J) ?_;try simp only[A4,B,C,E,F,G,U]
   exact B1r H ..
def lH:=fun a2 (r12:(V X) × X × Y) a1 (a0:X3) (k_:X->(V X0)->W ((V X0) × X × Y))=>∀{v14 v15} {zr},k_ v14 v15=N zr->Kh zA 7 Sb 49 [2,3,11,12,14,52,53,54] [3] [2880,3264] ⟨[pL 2 X0.row a2,pB 3,pW 11 2880,pI 12 r12.2.1,pW 14 3264,pL 52 X8.row a1,pI 53 (a1.length:X),pI 54 v14],[(3,([aI a0.Forecast.Tide.Mean,aM zC a0.Forecast.Tide.Parts,aM X9.row a0.Forecast.Surges,aM X7.row a0.Chart.Points,aM X2.row a0.Chart.Segments,aM X5.row a0.Fleet,aI a0.Regime.Gap,aB a0.Regime.NoMeet]++dm a0.Crew.row))],[(2880,1,I rI r12.1),(3264,4,I X0.row v15)]⟩ (A5 [6,7,8] [.sc (.o 4 (I X0.row zr.1)),.sc (.v (.int .i64 zr.2.1)),.sc (.v (.bool zr.2.2))])
def lG:=fun a1 a2 (a0:X3) (k_:X->W ((V X0) × X × Y))=>∀{v5} {zr},k_ v5=N zr->Kh zA 7 Sb 14 [1,2,3,28,29,30] [3] [] ⟨[pL 1 X8.row a1,pL 2 X0.row a2,pB 3,pL 28 X0.row a2,pI 29 (a2.length:X),pI 30 v5],[(3,([aI a0.Forecast.Tide.Mean,aM zC a0.Forecast.Tide.Parts,aM X9.row a0.Forecast.Surges,aM X7.row a0.Chart.Points,aM X2.row a0.Chart.Segments,aM X5.row a0.Fleet,aI a0.Regime.Gap,aB a0.Regime.NoMeet]++dm a0.Crew.row))],[]⟩ (A5 [6,7,8] [.sc (.o 4 (I X0.row zr.1)),.sc (.v (.int .i64 zr.2.1)),.sc (.v (.bool zr.2.2))])
def lF:=fun a1 a2 (a0:X3) (k_:Y->W ((V X0) × X × Y))=>∀{v3} {zr},k_ v3=N zr->Kh zA 7 Sb 5 [1,2,3,27] [3] [] ⟨[pL 1 X8.row a1,pL 2 X0.row a2,pB 3,(27,vc (aB v3))],[(3,([aI a0.Forecast.Tide.Mean,aM zC a0.Forecast.Tide.Parts,aM X9.row a0.Forecast.Surges,aM X7.row a0.Chart.Points,aM X2.row a0.Chart.Segments,aM X5.row a0.Fleet,aI a0.Regime.Gap,aB a0.Regime.NoMeet]++dm a0.Crew.row))],[]⟩ (A5 [6,7,8] [.sc (.o 4 (I X0.row zr.1)),.sc (.v (.int .i64 zr.2.1)),.sc (.v (.bool zr.2.2))])
def B1t{a2 r12 a1 a0}{n:Z}:lH a2 r12 a1 a0 (Jw a2 r12 a1 a0 n):=by
 induction n with
 | zero=>intro _ _ r h; cases h
 | succ n ih=>
  intro v14 v15 r h M hσ S hS;refine ev hS ?_;rw[Jw] at h;refine AA (Av ?_);obtain⟨h16,h⟩|⟨h16,h⟩:=ic h
  .obtain⟨x17,h17,h⟩:=ob h;refine sg ?_;obtain⟨x18,h18,h⟩:=ob h;obtain⟨r19,h19,h⟩:=ob h;obtain⟨x20,h20,h⟩:=ob h;obtain⟨x21,h21,h⟩:=ob h;obtain⟨h22,h⟩:=AR h;have h20n:=Ah h20;have h21n:=Ah h21;refine DL (ks:= [2,3,11,12,14,15,16,52,53,54]) (bs:= [3,16]) (rs:= [2880,3264]) (τ:=(Wg a2 r12 a1 a0 v14 v15 x17 x18 r19 x20 x21)) J (B1s ⟨h18,h19,h20,h21,h22,h17⟩ _ L L L L L L L L L L L) ?_;simp only[Wg,Ia,A7];refine sg ?_;exact ih h sq kr
  .refine sg ?_;cases h;trivial
def B1u{a1 a2 a0}{n:Z}:lG a1 a2 a0 (Hj a1 a2 a0 n):=by
 induction n with
 | zero=>intro _ r h; cases h
 | succ n ih=>
  intro v5 r h M hσ;rw[Hj] at h;have s0:= @Aq (I X0.row ([]:V X0));have k0:= @B1t;exact gc
def B1w{a1 a2 a0}:lF a1 a2 a0 (OI a1 a2 a0):=by
 intro v3 r h M hσ;unfold OI at h;have k0:= @B1u;exact gc
def A8w{a0}{a1}{a2}{r}(h:OH a0 a1 a2=N r):FC zA 7 [.ag (X3.row a0),.sc (.sl (I X8.row a1)),.sc (.sl (I X0.row a2))] [.sc (.o 4 (I X0.row r.1)),.sc (.v (.int .i64 r.2.1)),.sc (.v (.bool r.2.2))]:=by
 unfold OH at h;refine A3 A2 Sb [6,7,8] 78 ?_;have k0:= @B1w;exact gc
instance B88:Ct 82 (∀{a0} {a1} {a2} {r},BK a0 a1 a2=N r->FC zA 82 [.sc (.int .i64 a0),.sc (.int .i64 a1),.sc (.int .i64 a2)] [.sc (.v (.bool r))]):=by
 refine⟨fun h=> ?_⟩;unfold BK at h;refine A3 A2 h0 [6] 15 ?_;exact gc
instance B80:Ct 222 (∀{a0} {r},Lo a0=N r->FC zA 222 [.sc (.int .i64 a0)] [.sc (.v (.bool r))]):=by
 refine⟨fun h=> ?_⟩;unfold Lo at h;refine A3 A2 h0 [2] 10 ?_;exact gc
instance B8a:Ct 199 (∀{a0} {r},Nq a0=N r->FC zA 199 [.ag (zC a0)] [.sc (.v (.bool r))]):=by
 refine⟨fun h=> ?_⟩;unfold Nq at h;refine A3 A2 h0 [2] 19 ?_;exact gc
def ZB:Hw:=([(14,[16,17,18],[],[])],[])
def jH:=fun(a0:Xm) (k_:X->W Y)=>∀{v4} {zr},k_ v4=N zr->Kh zA 169 ZB 14 [16,17,18] [] [] ⟨[pL 16 zC a0.Parts,pI 17 (a0.Parts.length:X),pI 18 v4],[],[]⟩ (A5 [2] [.sc (.v (.bool zr))])
def B1x{a0}{n:Z}:jH a0 (IS a0 n):=by
 induction n with
 | zero=>intro _ r h; cases h
 | succ n ih=>
  intro v4 r h M hσ;rw[IS] at h;exact gc
instance B8q:Ct 169 (∀{a0} {r},NA a0=N r->FC zA 169 [.ag (Xm.row a0)] [.sc (.v (.bool r))]):=by
 refine⟨fun h=> ?_⟩;unfold NA at h;refine A3 A2 ZB [2] 26 ?_;have k0:= @B1x;exact gc
instance fm:Ct 37 (∀{a0} {r},CP a0=N r->FC zA 37 [.sc (.int .i64 a0)] [.sc (.v (.bool r))]):=by
 refine⟨fun h=> ?_⟩;unfold CP at h;refine A3 A2 h0 [2] 5 ?_;exact gc
instance B8p:Ct 170 (∀{a0} {r},Nz a0=N r->FC zA 170 [.ag (X9.row a0)] [.sc (.v (.bool r))]):=by
 refine⟨fun h=> ?_⟩;unfold Nz at h;refine A3 A2 h0 [2] 23 ?_;exact gc
def ZC:Hw:=([(14,[1,25,26,27],[1],[])],[])
def io:=fun(a0:Xd) (k_:X->W Y)=>∀{v7} {zr},k_ v7=N zr->Kh zA 124 ZC 14 [1,25,26,27] [1] [] ⟨[pB 1,pL 25 X9.row a0.Surges,pI 26 (a0.Surges.length:X),pI 27 v7],[(1,[aI a0.Tide.Mean,aM zC a0.Tide.Parts,aM X9.row a0.Surges])],[]⟩ (A5 [2] [.sc (.v (.bool zr))])
def B1y{a0}{n:Z}:io a0 (H3 a0 n):=by
 induction n with
 | zero=>intro _ r h; cases h
 | succ n ih=>
  intro v7 r h M hσ;rw[H3] at h;exact gc
instance A7o:Ct 124 (∀{a0} {r},H2 a0=N r->FC zA 124 [.ag (zG a0)] [.sc (.v (.bool r))]):=by
 refine⟨fun h=> ?_⟩;unfold H2 at h;refine A3 A2 ZC [2] 52 ?_;have k0:= @B1y;exact gc
def Sc:Hw:=([(14,[0,3],[],[]),(25,[0,3,4],[],[]),(32,[0,3],[],[])],[])
def iv:=fun a0 v3 (k_:W Y)=>∀{zr},k_=N zr->Kh zA 171 Sc 32 [0,3] [] [] ⟨[(0,vc (aS a0)),pI 3 v3],[],[]⟩ (A5 [2] [.sc (.v (.bool zr))])
def iu:=fun a0 v3 (k_:Y->W Y)=>∀{v7} {zr},k_ v7=N zr->Kh zA 171 Sc 25 [0,3,4] [] [] ⟨[(0,vc (aS a0)),pI 3 v3,(4,vc (aB v7))],[],[]⟩ (A5 [2] [.sc (.v (.bool zr))])
def Tm:=fun a0 (k_:X->W Y)=>∀{v3} {zr},k_ v3=N zr->Kh zA 171 Sc 14 [0,3] [] [] ⟨[(0,vc (aS a0)),pI 3 v3],[],[]⟩ (A5 [2] [.sc (.v (.bool zr))])
def B1z{a0 v3}{F5}(bE:Tm a0 F5):iv a0 v3 (Ni a0 v3 F5):=by
 intro r h M hσ;unfold Ni at h;have k0:= @bE;exact gc
def B10{a0 v3}{F5}(bE:Tm a0 F5):iu a0 v3 (Nh a0 v3 F5):=by
 intro v7 r h M hσ;unfold Nh at h;have k0:= @B1z;exact gc
def B11{a0}{n:Z}:Tm a0 (H4 a0 n):=by
 induction n with
 | zero=>intro _ r h; cases h
 | succ n ih=>
  intro v3 r h M hσ;rw[H4] at h;have k0:= @B10;exact gc
instance B72:Ct 171 (∀{a0} {r},La a0=N r->FC zA 171 [.sc (.str a0)] [.sc (.v (.bool r))]):=by
 refine⟨fun h=> ?_⟩;unfold La at h;refine A3 A2 Sc [2] 43 ?_;have k0:= @B11;exact gc
def ZD:Hw:=([(6,[1,8,9,10],[],[])],[])
def jD:=fun a1 (a0:X4) (k_:X->W X)=>∀{v1} {zr},k_ v1=N zr->Kh zA 172 ZD 6 [1,8,9,10] [] [] ⟨[(1,vc (aS a1)),pL 8 X7.row a0.Points,pI 9 (a0.Points.length:X),pI 10 v1],[],[]⟩ (A5 [4] [.sc (.v (.int .i64 zr))])
def B12{a1 a0}{n:Z}:jD a1 a0 (IP a1 a0 n):=by
 induction n with
 | zero=>intro _ r h; cases h
 | succ n ih=>
  intro v1 r h M hσ;rw[IP] at h;exact gc
instance B8f:Ct 172 (∀{a0} {a1} {r},Nt a0 a1=N r->FC zA 172 [.ag (X4.row a0),.sc (.str a1)] [.sc (.v (.int .i64 r))]):=by
 refine⟨fun h=> ?_⟩;unfold Nt at h;refine A3 A2 ZD [4] 21 ?_;have k0:= @B12;exact gc
instance Tb:Ct 129 (∀{a0} {a1} {r},BD a0 a1=N r->FC zA 129 [.sc (.int .i64 a0),.sc (.int .i64 a1)] [.sc (.v (.bool r))]):=by
 refine⟨fun h=> ?_⟩;unfold BD at h;refine A3 A2 h0 [4] 12 ?_;exact gc
instance B8j:Ct 173 (∀{a0} {a1} {a2} {r},Nw a0 a1 a2=N r->FC zA 173 [.ag (X2.row a0),.sc (.int .i64 a1),.sc (.int .i64 a2)] [.sc (.v (.bool r))]):=by
 refine⟨fun h=> ?_⟩;unfold Nw at h;refine A3 A2 h0 [6] 29 ?_;exact gc
def Sd:Hw:=([(14,[1,20,21,22],[1],[]),(37,[1,41,42,43],[1],[]),(59,[1,6,41,42,43,86,87,88],[1,6],[])],[])
def ib:=fun(a0:X4) v11 (x13:X2) y24 y25 (k_:X->W Y)=>∀{v26} {zr},k_ v26=N zr->Kh zA 125 Sd 59 [1,6,41,42,43,86,87,88] [1,6] [] ⟨[pB 1,pB 6,pL 41 X2.row a0.Segments,pI 42 (a0.Segments.length:X),pI 43 v11,pL 86 X2.row y24,pI 87 y25,pI 88 v26],[(1,[aM X7.row a0.Points,aM X2.row a0.Segments]),(6,(dm x13.row))],[]⟩ (A5 [2] [.sc (.v (.bool zr))])
def WU:=fun(a0:X4) (k_:X->W Y)=>∀{v11} {zr},k_ v11=N zr->Kh zA 125 Sd 37 [1,41,42,43] [1] [] ⟨[pB 1,pL 41 X2.row a0.Segments,pI 42 (a0.Segments.length:X),pI 43 v11],[(1,[aM X7.row a0.Points,aM X2.row a0.Segments])],[]⟩ (A5 [2] [.sc (.v (.bool zr))])
def iZ:=fun(a0:X4) (k_:X->W Y)=>∀{v3} {zr},k_ v3=N zr->Kh zA 125 Sd 14 [1,20,21,22] [1] [] ⟨[pB 1,pL 20 X7.row a0.Points,pI 21 (a0.Points.length:X),pI 22 v3],[(1,[aM X7.row a0.Points,aM X2.row a0.Segments])],[]⟩ (A5 [2] [.sc (.v (.bool zr))])
def B13{a0 v11 x13 y24 y25}{PO}(wA:WU a0 PO){n:Z}:ib a0 v11 x13 y24 y25 (Iy a0 v11 x13 y24 y25 PO n):=by
 induction n with
 | zero=>intro _ r h; cases h
 | succ n ih=>
  intro v26 r h M hσ;rw[Iy] at h;have k0:= @wA;exact gc
def B14{a0}{n:Z}:WU a0 (EK a0 n):=by
 induction n with
 | zero=>intro _ r h; cases h
 | succ n ih=>
  intro v11 r h M hσ;rw[EK] at h;have k0:= @B13;exact gc
def B15{a0}{n:Z}:iZ a0 (Ix a0 n):=by
 induction n with
 | zero=>intro _ r h; cases h
 | succ n ih=>
  intro v3 r h M hσ;rw[Ix] at h;have k0:= @B14;exact gc
instance A7k:Ct 125 (∀{a0} {r},DD a0=N r->FC zA 125 [.ag (X4.row a0)] [.sc (.v (.bool r))]):=by
 refine⟨fun h=> ?_⟩;unfold DD at h;refine A3 A2 Sd [2] 100 ?_;have k0:= @B15;exact gc
instance B8l:Ct 174 (∀{a0} {r},EO a0=N r->FC zA 174 [.ag (X5.row a0)] [.sc (.v (.bool r))]):=by
 refine⟨fun h=> ?_⟩;unfold EO at h;refine A3 A2 h0 [2] 26 ?_;exact gc
def ZE:Hw:=([(6,[1,7,8,9],[],[])],[])
def jF:=fun a1 a0 (k_:X->W X)=>∀{v1} {zr},k_ v1=N zr->Kh zA 175 ZE 6 [1,7,8,9] [] [] ⟨[(1,vc (aS a1)),pL 7 X5.row a0,pI 8 (a0.length:X),pI 9 v1],[],[]⟩ (A5 [4] [.sc (.v (.int .i64 zr))])
def B16{a1 a0}{n:Z}:jF a1 a0 (IR a1 a0 n):=by
 induction n with
 | zero=>intro _ r h; cases h
 | succ n ih=>
  intro v1 r h M hσ;rw[IR] at h;exact gc
instance B8k:Ct 175 (∀{a0} {a1} {r},Nx a0 a1=N r->FC zA 175 [.sc (.sl (I X5.row a0)),.sc (.str a1)] [.sc (.v (.int .i64 r))]):=by
 refine⟨fun h=> ?_⟩;unfold Nx at h;refine A3 A2 ZE [4] 20 ?_;have k0:= @B16;exact gc
def ZF:Hw:=([(14,[0,8,9,10],[],[])],[])
def im:=fun a0 (k_:X->W Y)=>∀{v2} {zr},k_ v2=N zr->Kh zA 126 ZF 14 [0,8,9,10] [] [] ⟨[pL 0 X5.row a0,pL 8 X5.row a0,pI 9 (a0.length:X),pI 10 v2],[],[]⟩ (A5 [2] [.sc (.v (.bool zr))])
def B17{a0}{n:Z}:im a0 (IF a0 n):=by
 induction n with
 | zero=>intro _ r h; cases h
 | succ n ih=>
  intro v2 r h M hσ;rw[IF] at h;exact gc
instance B7w:Ct 126 (∀{a0} {r},L8 a0=N r->FC zA 126 [.sc (.sl (I X5.row a0))] [.sc (.v (.bool r))]):=by
 refine⟨fun h=> ?_⟩;unfold L8 at h;refine A3 A2 ZF [2] 27 ?_;have k0:= @B17;exact gc
instance B8h:Ct 127 (∀{a0} {r},Rj a0=N r->FC zA 127 [.ag (Xi.row a0)] [.sc (.v (.bool r))]):=by
 refine⟨fun h=> ?_⟩;unfold Rj at h;refine A3 A2 h0 [2] 6 ?_;exact gc
def ZG:Hw:=([(14,[8,9,10],[],[])],[])
def jX:=fun a0 (k_:X->W Y)=>∀{v2} {zr},k_ v2=N zr->Kh zA 176 ZG 14 [8,9,10] [] [] ⟨[pL 8 rI a0,pI 9 (a0.length:X),pI 10 v2],[],[]⟩ (A5 [2] [.sc (.v (.bool zr))])
def B18{a0}{n:Z}:jX a0 (Hc a0 n):=by
 induction n with
 | zero=>intro _ r h; cases h
 | succ n ih=>
  intro v2 r h M hσ;rw[Hc] at h;exact gc
instance B81:Ct 176 (∀{a0} {r},Hb a0=N r->FC zA 176 [.sc (.sl (I rI a0))] [.sc (.v (.bool r))]):=by
 refine⟨fun h=> ?_⟩;unfold Hb at h;refine A3 A2 ZG [2] 18 ?_;have k0:= @B18;exact gc
instance B7u:Ct 128 (∀{a0} {r},Nc a0=N r->FC zA 128 [.ag (Xn.row a0)] [.sc (.v (.bool r))]):=by
 refine⟨fun h=> ?_⟩;unfold Nc at h;refine A3 A2 h0 [2] 21 ?_;exact gc
instance B70:Ct 80 (∀{a0} {r},L9 a0=N r->FC zA 80 [.ag (X3.row a0)] [.sc (.v (.bool r))]):=by
 refine⟨fun h=> ?_⟩;unfold L9 at h;refine A3 A2 h0 [2] 26 ?_;exact gc
instance B8u:Ct 81 (∀{a0} {a1} {r},Li a0 a1=N r->FC zA 81 [.ag (X3.row a0),.ag (X8.row a1)] [.sc (.v (.bool r))]):=by
 refine⟨fun h=> ?_⟩;unfold Li at h;refine A3 A2 h0 [4] 47 ?_;exact gc
def Uz:Hw:=([(14,[1,2,17,18,19],[2],[]),(36,[1,2,6,17,18,19,30,31,32],[2,6],[])],[])
def iY:=fun a1 v4 (a0:X3) (x6:X8) y10 y11 (k_:X->W Y)=>∀{v12} {zr},k_ v12=N zr->Kh zA 36 Uz 36 [1,2,6,17,18,19,30,31,32] [2,6] [] ⟨[pL 1 X8.row a1,pB 2,pB 6,pL 17 X8.row a1,pI 18 (a1.length:X),pI 19 v4,pL 30 X8.row y10,pI 31 y11,pI 32 v12],[(2,([aI a0.Forecast.Tide.Mean,aM zC a0.Forecast.Tide.Parts,aM X9.row a0.Forecast.Surges,aM X7.row a0.Chart.Points,aM X2.row a0.Chart.Segments,aM X5.row a0.Fleet,aI a0.Regime.Gap,aB a0.Regime.NoMeet]++dm a0.Crew.row)),(6,(dm x6.row))],[]⟩ (A5 [4] [.sc (.v (.bool zr))])
def WT:=fun a1 (a0:X3) (k_:X->W Y)=>∀{v4} {zr},k_ v4=N zr->Kh zA 36 Uz 14 [1,2,17,18,19] [2] [] ⟨[pL 1 X8.row a1,pB 2,pL 17 X8.row a1,pI 18 (a1.length:X),pI 19 v4],[(2,([aI a0.Forecast.Tide.Mean,aM zC a0.Forecast.Tide.Parts,aM X9.row a0.Forecast.Surges,aM X7.row a0.Chart.Points,aM X2.row a0.Chart.Segments,aM X5.row a0.Fleet,aI a0.Regime.Gap,aB a0.Regime.NoMeet]++dm a0.Crew.row))],[]⟩ (A5 [4] [.sc (.v (.bool zr))])
def B19{a1 v4 a0 x6 y10 y11}{PN}(vz:WT a1 a0 PN){n:Z}:iY a1 v4 a0 x6 y10 y11 (FJ a1 v4 a0 x6 y10 y11 PN n):=by
 induction n with
 | zero=>intro _ r h; cases h
 | succ n ih=>
  intro v12 r h M hσ;rw[FJ] at h;have k0:= @vz;exact gc
def B2a{a1 a0}{n:Z}:WT a1 a0 (Ec a1 a0 n):=by
 induction n with
 | zero=>intro _ r h; cases h
 | succ n ih=>
  intro v4 r h M hσ;rw[Ec] at h;have k0:= @B19;exact gc
instance A7i:Ct 36 (∀{a0} {a1} {r},Na a0 a1=N r->FC zA 36 [.ag (X3.row a0),.sc (.sl (I X8.row a1))] [.sc (.v (.bool r))]):=by
 refine⟨fun h=> ?_⟩;unfold Na at h;refine A3 A2 Uz [4] 43 ?_;have k0:= @B2a;exact gc
instance Wr:Ct 83 (∀{a0} {a1} {r},Iw a0 a1=N r->FC zA 83 [.ag (X3.row a0),.ag (X8.row a1)] [.sc (.v (.bool r))]):=by
 refine⟨fun h=> ?_⟩;unfold Iw at h;refine A3 A2 h0 [4] 12 ?_;exact gc
instance fh:Ct 223 (∀{a0} {a1} {r},Lf a0 a1=N r->FC zA 223 [.ag (X2.row a0),.sc (.int .i64 a1)] [.sc (.v (.int .i64 r))]):=by
 refine⟨fun h=> ?_⟩;unfold Lf at h;refine A3 A2 h0 [4] 18 ?_;exact gc
def UA:Hw:=([(20,[1,3,8,9,22,23,24],[3,8],[1344]),(44,[1,3,8,9,22,23,24,47],[3,8],[1344])],[])
def ig:=fun r14 a2 v6 (a0:X4) (v7:Xa) v8 (k_:Y->W ((V X) × Y))=>∀{v19} {zr},k_ v19=N zr->Kh zA 201 UA 44 [1,3,8,9,22,23,24,47] [3,8] [1344] ⟨[pI 1 r14,pB 3,pB 8,pW 9 1344,pL 22 rI a2,pI 23 (a2.length:X),pI 24 v6,(47,vc (aB v19))],[(3,[aM X7.row a0.Points,aM X2.row a0.Segments]),(8,[aB v7.i0,aB v7.i1,aB v7.i2,aB v7.i3,aB v7.i4,aB v7.i5,aB v7.i6,aB v7.i7])],[(1344,1,I rI v8)]⟩ (A5 [6,7] [.sc (.o 1 (I rI zr.1)),.sc (.v (.bool zr.2))])
def WW:=fun a2 (a0:X4) (k_:X->X->Xa->(V X)->W ((V X) × Y))=>∀{v5 v6 v7 v8} {zr},k_ v5 v6 v7 v8=N zr->Kh zA 201 UA 20 [1,3,8,9,22,23,24] [3,8] [1344] ⟨[pI 1 v5,pB 3,pB 8,pW 9 1344,pL 22 rI a2,pI 23 (a2.length:X),pI 24 v6],[(3,[aM X7.row a0.Points,aM X2.row a0.Segments]),(8,[aB v7.i0,aB v7.i1,aB v7.i2,aB v7.i3,aB v7.i4,aB v7.i5,aB v7.i6,aB v7.i7])],[(1344,1,I rI v8)]⟩ (A5 [6,7] [.sc (.o 1 (I rI zr.1)),.sc (.v (.bool zr.2))])
def gY{r14 a2 v6 a0 v7 v8}{Sy}(wB:WW a2 a0 Sy):ig r14 a2 v6 a0 v7 v8 (IA r14 a2 v6 a0 v7 v8 Sy):=by
 intro v19 r h M hσ S hS;refine ev hS ?_;refine Av ?_;unfold IA at h;obtain⟨h20,h⟩|⟨h20,h⟩:=ic h
 .refine sg ?_;cases h;trivial
 .obtain⟨h21,h⟩:=AR h;refine sg ?_;refine Pu J J h21 ?_;have hA22:BS [aB v7.i0,aB v7.i1,aB v7.i2,aB v7.i3,aB v7.i4,aB v7.i5,aB v7.i6,aB v7.i7] (zB r14) [aB T]= [aB ((Xa.set v7 (zB r14) T)).i0,aB ((Xa.set v7 (zB r14) T)).i1,aB ((Xa.set v7 (zB r14) T)).i2,aB ((Xa.set v7 (zB r14) T)).i3,aB ((Xa.set v7 (zB r14) T)).i4,aB ((Xa.set v7 (zB r14) T)).i5,aB ((Xa.set v7 (zB r14) T)).i6,aB ((Xa.set v7 (zB r14) T)).i7]:=Xa.set_eq v7 (FD h21);have hA22g:Cd [aB v7.i0,aB v7.i1,aB v7.i2,aB v7.i3,aB v7.i4,aB v7.i5,aB v7.i6,aB v7.i7] (zB r14+1)=T:=TH (FD h21);have hA22h:Cd [aB v7.i1,aB v7.i2,aB v7.i3,aB v7.i4,aB v7.i5,aB v7.i6,aB v7.i7] (zB r14)=T:=TI (c:=aB v7.i0) (FD h21);refine sg ?_;refine AU (es:=I rI ([r14]:V X)) ?_;obtain⟨h23,h⟩:=AR h;refine sg ?_;exact wB h sq kr
def B2b{a2 a0}{n:Z}:WW a2 a0 (GZ a2 a0 n):=by
 induction n with
 | zero=>intro _ _ _ _ r h; cases h
 | succ n ih=>
  intro v5 v6 v7 v8 r h M hσ S hS;refine ev hS ?_;rw[GZ] at h;refine AA (Av ?_);obtain⟨h9,h⟩|⟨h9,h⟩:=ic h
  .obtain⟨x10,h10,h⟩:=ob h;obtain⟨r11,h11,h⟩:=ob h;refine sg ?_;refine AD (Ag Tb h11) ?_;obtain⟨h12,h⟩|⟨h12,h⟩:=ic h
   .obtain⟨x13,h13,h⟩:=ob h;obtain⟨r14,h14,h⟩:=ob h;refine sg ?_;refine AD (Ag fh h14) ?_;obtain⟨h15,h⟩|⟨h15,h⟩:=ic h
    .refine sg ?_;exact gY ih h sq kr
    .obtain⟨h16,h⟩:=AR h;refine sg ?_;refine Pu J J h16 ?_;obtain⟨x17,h17,h⟩:=ob h;have h17n:=Ah h17;have hA18:([aB v7.i0,aB v7.i1,aB v7.i2,aB v7.i3,aB v7.i4,aB v7.i5,aB v7.i6,aB v7.i7]:V AC)[zB r14]?=N (aB x17):=Ye h17n;refine sg ?_;exact gY ih h sq kr
   .refine sg ?_;cases h;trivial
  .refine sg ?_;cases h;trivial
instance B7s:Ct 201 (∀{a0} {a1} {a2} {r},Iz a0 a1 a2=N r->FC zA 201 [.ag (X4.row a0),.sc (.int .i64 a1),.sc (.sl (I rI a2))] [.sc (.o 1 (I rI r.1)),.sc (.v (.bool r.2))]):=by
 refine⟨fun{a0} {a1} {a2} {r} h=> ?_⟩;unfold Iz at h;refine A3 A2 UA [6,7] 56 ?_;intro S hS;refine ev hS ?_;obtain⟨r1,h1,h⟩:=ob h;refine sg ?_;refine AD (Ag Tb h1) ?_;obtain⟨h2,h⟩|⟨h2,h⟩:=ic h
 .obtain⟨h3,h⟩:=AR h;refine sg ?_;refine Pu J J h3 ?_;have hA4:BS [aB L,aB L,aB L,aB L,aB L,aB L,aB L,aB L] (zB a1) [aB T]= [aB ((Xa.set (⟨L,L,L,L,L,L,L,L⟩:Xa) (zB a1) T)).i0,aB ((Xa.set (⟨L,L,L,L,L,L,L,L⟩:Xa) (zB a1) T)).i1,aB ((Xa.set (⟨L,L,L,L,L,L,L,L⟩:Xa) (zB a1) T)).i2,aB ((Xa.set (⟨L,L,L,L,L,L,L,L⟩:Xa) (zB a1) T)).i3,aB ((Xa.set (⟨L,L,L,L,L,L,L,L⟩:Xa) (zB a1) T)).i4,aB ((Xa.set (⟨L,L,L,L,L,L,L,L⟩:Xa) (zB a1) T)).i5,aB ((Xa.set (⟨L,L,L,L,L,L,L,L⟩:Xa) (zB a1) T)).i6,aB ((Xa.set (⟨L,L,L,L,L,L,L,L⟩:Xa) (zB a1) T)).i7]:=Xa.set_eq (⟨L,L,L,L,L,L,L,L⟩:Xa) (FD h3);have hA4g:Cd [aB L,aB L,aB L,aB L,aB L,aB L,aB L,aB L] (zB a1+1)=T:=TH (FD h3);have hA4h:Cd [aB L,aB L,aB L,aB L,aB L,aB L,aB L] (zB a1)=T:=TI (c:=aB L) (FD h3);refine sg ?_;refine AU (es:=I rI ([a1]:V X)) ?_;refine sg ?_;exact B2b h sq kr
 .refine sg ?_;cases h;trivial
instance ff:Ct 179 (∀{a0} {a1} {a2} {r},Ed a0 a1 a2=N r->FC zA 179 [.ag (X4.row a0),.sc (.int .i64 a1),.sc (.sl (I rI a2))] [.sc (.o 1 (I rI r))]):=by
 refine⟨fun h=> ?_⟩;unfold Ed at h;refine A3 A2 h0 [6] 20 ?_;exact gc
instance B8i:Ct 202 (∀{a0} {a1} {a2} {r},FM a0 a1 a2=N r->FC zA 202 [.ag (X4.row a0),.sc (.int .i64 a1),.sc (.sl (I rI a2))] [.sc (.v (.bool r))]):=by
 refine⟨fun h=> ?_⟩;unfold FM at h;refine A3 A2 h0 [6] 20 ?_;exact gc
instance fi:Ct 203 (∀{a0} {a1} {r},FN a0 a1=N r->FC zA 203 [.ag (X5.row a0),.ag (X2.row a1)] [.sc (.v (.int .i64 r))]):=by
 refine⟨fun h=> ?_⟩;unfold FN at h;refine A3 A2 h0 [4] 12 ?_;exact gc
instance B83:Ct 224 (∀{a0} {a1} {a2} {r},IY a0 a1 a2=N r->FC zA 224 [.ag (X4.row a0),.sc (.int .i64 a1),.ag (X5.row a2)] [.sc (.v (.bool r))]):=by
 refine⟨fun h=> ?_⟩;unfold IY at h;refine A3 A2 h0 [6] 20 ?_;exact gc
instance B8n:Ct 255 (∀{a0} {r},Rl a0=N r->FC zA 255 [.ag (X5.row a0)] [.sc (.v (.int .i64 r))]):=by
 refine⟨fun h=> ?_⟩;unfold Rl at h;refine A3 A2 h0 [2] 11 ?_;exact gc
instance B8m:Ct 244 (∀{a0} {r},Rk a0=N r->FC zA 244 [.ag (X5.row a0)] [.sc (.v (.int .i64 r))]):=by
 refine⟨fun h=> ?_⟩;unfold Rk at h;refine A3 A2 h0 [2] 9 ?_;exact gc
instance B74:Ct 227 (∀{a0} {a1} {a2} {r},Nk a0 a1 a2=N r->FC zA 227 [.ag (X4.row a0),.sc (.int .i64 a1),.ag (X5.row a2)] [.sc (.v (.int .i64 r))]):=by
 refine⟨fun h=> ?_⟩;unfold Nk at h;refine A3 A2 h0 [6] 21 ?_;exact gc
def Se:Hw:=([(10,[0,3,4,5],[],[384]),(35,[0,3,4,5],[],[384]),(36,[0,3,4,5],[],[384])],[])
def jh:=fun F_a0 caps_a0 v2 (k_:Y->(V X6)->W (V X6))=>∀{v11 v12} {zr},k_ v11 v12=N zr->Kh zA 241 Se 36 [0,3,4,5] [] [384] ⟨[(0,vc (.dat (.clo F_a0 caps_a0))),pW 3 384,(4,vc (aB v11)),pI 5 v2],[],[(384,2,I X6.row v12)]⟩ (A5 [2] [.sc (.o 2 (I X6.row zr))])
def jg:=fun F_a0 caps_a0 v2 (k_:(V X6)->W (V X6))=>∀{v9} {zr},k_ v9=N zr->Kh zA 241 Se 35 [0,3,4,5] [] [384] ⟨[(0,vc (.dat (.clo F_a0 caps_a0))),pW 3 384,(4,vc (aB T)),pI 5 v2],[],[(384,2,I X6.row v9)]⟩ (A5 [2] [.sc (.o 2 (I X6.row zr))])
def Tp:=fun F_a0 caps_a0 (k_:Y->X->(V X6)->W (V X6))=>∀{v1 v2 v3} {zr},k_ v1 v2 v3=N zr->Kh zA 241 Se 10 [0,3,4,5] [] [384] ⟨[(0,vc (.dat (.clo F_a0 caps_a0))),pW 3 384,(4,vc (aB v1)),pI 5 v2],[],[(384,2,I X6.row v3)]⟩ (A5 [2] [.sc (.o 2 (I X6.row zr))])
def gZ{a0:X->W Y}{F_a0 caps_a0}(hF_a0:BQ zA F_a0=T)(h_a0:∀z0 zr,a0 z0=N zr->FC zA F_a0 ([.sc (.int .i64 z0)]++caps_a0.map .sc) [.sc (.v (.bool zr))]){v2}{Gv}(bG:Tp F_a0 caps_a0 Gv):jh F_a0 caps_a0 v2 (J4 a0 v2 Gv):=by
 intro v11 v12 r h M hσ;unfold J4 at h;have k0:= @bG;exact gc
def ga{a0:X->W Y}{F_a0 caps_a0}(hF_a0:BQ zA F_a0=T)(h_a0:∀z0 zr,a0 z0=N zr->FC zA F_a0 ([.sc (.int .i64 z0)]++caps_a0.map .sc) [.sc (.v (.bool zr))]){v2}{Gv}(bG:Tp F_a0 caps_a0 Gv):jg F_a0 caps_a0 v2 (Ls a0 v2 Gv):=by
 intro v9 r h M hσ;unfold Ls at h;have s0:=fun(x10:X6)=> @EA _ X6.row ((⟨x10.From,v2⟩:X6))
 have k0:= @gZ;exact gc
def B2c{a0:X->W Y}{F_a0 caps_a0}(hF_a0:BQ zA F_a0=T)(h_a0:∀z0 zr,a0 z0=N zr->FC zA F_a0 ([.sc (.int .i64 z0)]++caps_a0.map .sc) [.sc (.v (.bool zr))]){n:Z}:Tp F_a0 caps_a0 (FX a0 n):=by
 induction n with
 | zero=>intro _ _ _ r h; cases h
 | succ n ih=>
  intro v1 v2 v3 r h M hσ S hS;refine ev hS ?_;rw[FX] at h;refine AA (Av ?_);obtain⟨h4,h⟩|⟨h4,h⟩:=ic h
  .obtain⟨r5,h5,h⟩:=ob h;refine sg ?_;refine ua (h_a0 _ _ h5) hF_a0 J J (Br J) J (uf J) ?_;obtain⟨h6,h⟩|⟨h6,h⟩:=ic h
   .obtain⟨h7,h⟩|⟨h7,h⟩:=ic h
    .refine sg ?_;exact ga hF_a0 h_a0 ih h sq kr
    .refine sg ?_;refine AU (es:=I X6.row ([(⟨v2,(0:X)⟩:X6)]:V X6)) ?_;obtain⟨h8,h⟩:=AR h;refine sg ?_;exact ga hF_a0 h_a0 ih h sq kr
   .refine sg ?_;exact gZ hF_a0 h_a0 ih h sq kr
  .refine sg ?_;cases h;exact t0
def A77{a0}{r}(F_a0:FuncId)(caps_a0:V D)(hF_a0:BQ zA F_a0=T)(h_a0:∀z0 zr,a0 z0=N zr->FC zA F_a0 ([.sc (.int .i64 z0)]++caps_a0.map .sc) [.sc (.v (.bool zr))])(h:NT a0=N r):FC zA 241 [.sc (.clo F_a0 caps_a0)] [.sc (.o 2 (I X6.row r))]:=by
 unfold NT at h;refine A3 A2 Se [2] 30 ?_;have s0:= @Aq (I X6.row ([]:V X6));have k0:= @B2c;exact gc
instance B8s:Ct 259 (∀{a0} {a1} {r},NB a0 a1=N r->FC zA 259 [.sc (.int .i64 a0),.sc (.int .i64 a1)] [.sc (.v (.int .i64 r))]):=by
 refine⟨fun h=> ?_⟩;unfold NB at h;refine A3 A2 h0 [4] 46 ?_;exact gc
def ZI:Hw:=([(8,[1,5,11,12,13],[],[])],[])
def jI:=fun a1 (a0:Xm) (k_:X->X->W X)=>∀{v1 v2} {zr},k_ v1 v2=N zr->Kh zA 253 ZI 8 [1,5,11,12,13] [] [] ⟨[pI 1 a1,pI 5 v1,pL 11 zC a0.Parts,pI 12 (a0.Parts.length:X),pI 13 v2],[],[]⟩ (A5 [4] [.sc (.v (.int .i64 zr))])
def B2d{a1 a0}{n:Z}:jI a1 a0 (IT a1 a0 n):=by
 induction n with
 | zero=>intro _ _ r h; cases h
 | succ n ih=>
  intro v1 v2 r h M hσ;rw[IT] at h;exact gc
instance B8r:Ct 253 (∀{a0} {a1} {r},Rn a0 a1=N r->FC zA 253 [.ag (Xm.row a0),.sc (.int .i64 a1)] [.sc (.v (.int .i64 r))]):=by
 refine⟨fun h=> ?_⟩;unfold Rn at h;refine A3 A2 ZI [4] 32 ?_;have k0:= @B2d;exact gc
def ZJ:Hw:=([(8,[1,5,9,10,11],[],[])],[])
def ip:=fun a1 (a0:Xd) (k_:X->X->W X)=>∀{v1 v2} {zr},k_ v1 v2=N zr->Kh zA 254 ZJ 8 [1,5,9,10,11] [] [] ⟨[pI 1 a1,pI 5 v1,pL 9 X9.row a0.Surges,pI 10 (a0.Surges.length:X),pI 11 v2],[],[]⟩ (A5 [4] [.sc (.v (.int .i64 zr))])
def B2e{a1 a0}{n:Z}:ip a1 a0 (FL a1 a0 n):=by
 induction n with
 | zero=>intro _ _ r h; cases h
 | succ n ih=>
  intro v1 v2 r h M hσ;rw[FL] at h;exact gc
instance B7y:Ct 254 (∀{a0} {a1} {r},Nf a0 a1=N r->FC zA 254 [.ag (zG a0),.sc (.int .i64 a1)] [.sc (.v (.int .i64 r))]):=by
 refine⟨fun h=> ?_⟩;unfold Nf at h;refine A3 A2 ZJ [4] 23 ?_;have k0:= @B2e;exact gc
instance B7x:Ct 243 (∀{a0} {a1} {r},Nd a0 a1=N r->FC zA 243 [.ag (zG a0),.sc (.int .i64 a1)] [.sc (.v (.int .i64 r))]):=by
 refine⟨fun h=> ?_⟩;unfold Nd at h;refine A3 A2 h0 [4] 18 ?_;exact gc
def B2f{a0}{c0}{c1}{r}(h:Ri a0 c0 c1=N r):FC zA 242 [.sc (.int .i64 a0),.sc (.pd (zG c0)),.sc (.pd (rI c1))] [.sc (.v (.bool r))]:=by
 unfold Ri at h;refine A3 A2 h0 [4] 10 ?_;exact gc
instance B75:Ct 226 (∀{a0} {a1} {r},Nl a0 a1=N r->FC zA 226 [.ag (zG a0),.sc (.int .i64 a1)] [.sc (.o 2 (I X6.row r))]):=by
 refine⟨fun{a0} {a1} {r} h=> ?_⟩;unfold Nl at h;refine A3 A2 h0 [4] 10 ?_;intro S hS;refine ev hS ?_;obtain⟨r1,hr1,h⟩:=ob h;refine sg ?_;refine AD (Ag A7o hr1) ?_;obtain⟨hb2,h⟩|⟨hb2,h⟩:=ic h
 .obtain⟨r3,hr3,h⟩:=ob h;refine sg ?_;refine B8 (A77 242 [.pd (zG a0),.pd (rI a1)] (by kernel_rfl) (fun z0 zr zh=>B2f zh) hr3) J (BL J ⟨AQ,⟨⟩⟩) J (uf J) ?_;refine sg ?_;cases h;exact t0
 .refine sg ?_;cases h;exact t0
instance B76:Ct 228 (∀{a0} {a1} {a2} {r},Nm a0 a1 a2=N r->FC zA 228 [.ag (X4.row a0),.sc (.int .i64 a1),.ag (X5.row a2)] [.sc (.v (.int .i64 r))]):=by
 refine⟨fun h=> ?_⟩;unfold Nm at h;refine A3 A2 h0 [6] 30 ?_;exact gc
def ZK:Hw:=([(6,[0,5,6,7],[],[])],[])
def jJ:=fun a0 (k_:X->W Y)=>∀{v1} {zr},k_ v1=N zr->Kh zA 229 ZK 6 [0,5,6,7] [] [] ⟨[pL 0 X6.row a0,pL 5 X6.row a0,pI 6 (a0.length:X),pI 7 v1],[],[]⟩ (A5 [2] [.sc (.v (.bool zr))])
def B2g{a0}{n:Z}:jJ a0 (FP a0 n):=by
 induction n with
 | zero=>intro _ r h; cases h
 | succ n ih=>
  intro v1 r h M hσ;rw[FP] at h;exact gc
instance B8t:Ct 229 (∀{a0} {r},Lg a0=N r->FC zA 229 [.sc (.sl (I X6.row a0))] [.sc (.v (.bool r))]):=by
 refine⟨fun h=> ?_⟩;unfold Lg at h;refine A3 A2 ZK [2] 44 ?_;have k0:= @B2g;exact gc
def ZL:Hw:=([(16,[1,5,17,18,19],[],[1024])],[])
def jG:=fun a1 a0 (k_:X->(V X6)->W (V X6))=>∀{v5 v6} {zr},k_ v5 v6=N zr->Kh zA 225 ZL 16 [1,5,17,18,19] [] [1024] ⟨[pI 1 a1,pW 5 1024,pL 17 X6.row a0,pI 18 (a0.length:X),pI 19 v5],[],[(1024,2,I X6.row v6)]⟩ (A5 [4] [.sc (.o 2 (I X6.row zr))])
def B2h{a1 a0}{n:Z}:jG a1 a0 (FO a1 a0 n):=by
 induction n with
 | zero=>intro _ _ r h; cases h
 | succ n ih=>
  intro v5 v6 r h M hσ;rw[FO] at h;have s0:=fun(x8:X6)=> @Aq (I X6.row ([(⟨x8.From,(IntKind.i64.wrap (x8.To - a1))⟩:X6)]:V X6))
  exact gc
instance B8o:Ct 225 (∀{a0} {a1} {r},Rm a0 a1=N r->FC zA 225 [.sc (.sl (I X6.row a0)),.sc (.int .i64 a1)] [.sc (.o 2 (I X6.row r))]):=by
 refine⟨fun h=> ?_⟩;unfold Rm at h;refine A3 A2 ZL [4] 42 ?_;have s0:= @Aq (I X6.row ([]:V X6));have k0:= @B2h;exact gc
instance A7r:Ct 204 (∀{a0} {a1} {a2} {a3} {r},Ny a0 a1 a2 a3=N r->FC zA 204 [.ag (zG a0),.ag (X4.row a1),.sc (.int .i64 a2),.ag (X5.row a3)] [.sc (.o 2 (I X6.row r))]):=by
 refine⟨fun h=> ?_⟩;unfold Ny at h;refine A3 A2 h0 [8] 30 ?_;exact gc
def UB:Hw:=([(5,[3,4,5,6,7,10,34],[5,6,7,10],[]),(16,[4,5,6,7,10,12,43,44,45],[5,6,7,10,12],[140288,140352,140416])],[(11,3,(O,.ownb 12 0 140288 1)),(11,4,(O,.ownb 12 1 140352 1)),(11,5,(O,.ownb 12 2 140416 1)),(14,6,(O,.frz 2560))])
def je:=fun a4 (a0:Xd) (a1:X4) (a2:X5) y11 y12 (k_:X->(V Y)->(V X)->(V (V X6))->W (Xk × Y))=>∀{v13 v14 v15 v16} {zr},k_ v13 v14 v15 v16=N zr->Kh zA 180 UB 16 [4,5,6,7,10,12,43,44,45] [5,6,7,10,12] [140288,140352,140416] ⟨[pL 4 rI a4,pB 5,pB 6,pB 7,pB 10,pB 12,pL 43 rI y11,pI 44 y12,pI 45 v13],[(5,[aI a0.Tide.Mean,aM zC a0.Tide.Parts,aM X9.row a0.Surges]),(6,[aM X7.row a1.Points,aM X2.row a1.Segments]),(7,(dm a2.row)),(10,[.nil,.nil,.nil]),(12,[.own 140288,.own 140352,.own 140416])],[(140288,1,I rB v14),(140352,1,I rI v15),(140416,1,I (rL X6.row) v16)]⟩ (A5 [.c 10 T 3,11] [.ag [.o 1 (I rB zr.1.waits),.o 1 (I rI zr.1.minutes),.o 1 (I (rL X6.row) zr.1.sure)],.sc (.v (.bool zr.2))])
def jd:=fun a3 a4 (a0:Xd) (a1:X4) (a2:X5) (k_:Y->W (Xk × Y))=>∀{v7} {zr},k_ v7=N zr->Kh zA 180 UB 5 [3,4,5,6,7,10,34] [5,6,7,10] [] ⟨[pI 3 a3,pL 4 rI a4,pB 5,pB 6,pB 7,pB 10,(34,vc (aB v7))],[(5,[aI a0.Tide.Mean,aM zC a0.Tide.Parts,aM X9.row a0.Surges]),(6,[aM X7.row a1.Points,aM X2.row a1.Segments]),(7,(dm a2.row)),(10,[.nil,.nil,.nil])],[]⟩ (A5 [.c 10 T 3,11] [.ag [.o 1 (I rB zr.1.waits),.o 1 (I rI zr.1.minutes),.o 1 (I (rL X6.row) zr.1.sure)],.sc (.v (.bool zr.2))])
def B2j{a4 a0 a1 a2 y11 y12}{n:Z}:je a4 a0 a1 a2 y11 y12 (J2 a4 a0 a1 a2 y11 y12 n):=by
 induction n with
 | zero=>intro _ _ _ _ r h; cases h
 | succ n ih=>
  intro v13 v14 v15 v16 r h M hσ S hS;refine ev hS ?_;rw[J2] at h;refine AA (Av ?_);obtain⟨h17,h⟩|⟨h17,h⟩:=ic h
  .obtain⟨x18,h18,h⟩:=ob h;obtain⟨x19,h19,h⟩:=ob h;refine sg ?_;refine AU (es:=I rB ([x19.Wait]:V Y)) ?_;obtain⟨h20,h⟩:=AR h;obtain⟨x21,h21,h⟩:=ob h;obtain⟨x22,h22,h⟩:=ob h;obtain⟨r23,h23,h⟩:=ob h;refine sg ?_;refine CO (Ag fi h23) ?_;refine sg ?_;refine AU (es:=I rI ([r23]:V X)) ?_;obtain⟨h24,h⟩:=AR h;obtain⟨r25,h25,h⟩:=ob h;refine sg ?_;refine CO (FC.asV (rs':= [.sc (.v (.sl (I X6.row r25)))]) (Ag A7r h25) J) ?_;refine sg ?_;refine AU (es:=I (rL X6.row) ([r25]:V (V X6))) ?_;obtain⟨h26,h⟩:=AR h;refine sg ?_;exact ih h sq kr
  .refine sg ?_;cases h;try simp only[Qq,B,C,E,F,G,U]
   trivial
def B2k{a3 a4 a0 a1 a2}:jd a3 a4 a0 a1 a2 (J1 a3 a4 a0 a1 a2):=by
 intro v7 r h M hσ S hS;refine ev hS ?_;refine Av ?_;unfold J1 at h;obtain⟨h8,h⟩|⟨h8,h⟩:=ic h
 .refine sg ?_;cases h;try simp only[Qq,B,C,E,F,G,U]
  trivial
 .refine sg ?_;refine Gp (cs':= [.own 140288,.nil,.nil]) J J J J ?_;refine sg ?_;refine Gp (cs':= [.own 140288,.own 140352,.nil]) J J J J ?_;refine sg ?_;refine Gp (cs':= [.own 140288,.own 140352,.own 140416]) J J J J ?_;obtain⟨r9,h9,h⟩:=ob h;refine sg ?_;refine AD (Ag ff h9) ?_;obtain⟨p10,h10,h⟩:=ob h;refine sg ?_;exact B2j h sq kr
instance B86:Ct 180 (∀{a0} {a1} {a2} {a3} {a4} {r},FW a0 a1 a2 a3 a4=N r->FC zA 180 [.ag (zG a0),.ag (X4.row a1),.ag (X5.row a2),.sc (.int .i64 a3),.sc (.sl (I rI a4))] [.ag [.o 1 (I rB r.1.waits),.o 1 (I rI r.1.minutes),.o 1 (I (rL X6.row) r.1.sure)],.sc (.v (.bool r.2))]):=by
 refine⟨fun h=> ?_⟩;unfold FW at h;refine A3 A2 UB [.c 10 T 3,11] 91 ?_;have k0:= @B2k;exact gc
def ZM:Hw:=([(7,[2,3,4,6,28],[3,4,6],[])],[])
def jK:=fun a2 (a0:X3) (a1:X8) (k_:Y->W (Xk × Y))=>∀{v4} {zr},k_ v4=N zr->Kh zA 133 ZM 7 [2,3,4,6,28] [3,4,6] [] ⟨[pL 2 rI a2,pB 3,pB 4,pB 6,(28,vc (aB v4))],[(3,([aI a0.Forecast.Tide.Mean,aM zC a0.Forecast.Tide.Parts,aM X9.row a0.Forecast.Surges,aM X7.row a0.Chart.Points,aM X2.row a0.Chart.Segments,aM X5.row a0.Fleet,aI a0.Regime.Gap,aB a0.Regime.NoMeet]++dm a0.Crew.row)),(4,(dm a1.row)),(6,[.nil,.nil,.nil])],[]⟩ (A5 [.c 6 T 3,7] [.ag [.o 1 (I rB zr.1.waits),.o 1 (I rI zr.1.minutes),.o 1 (I (rL X6.row) zr.1.sure)],.sc (.v (.bool zr.2))])
def gb{a2 a0 a1}:jK a2 a0 a1 (FR a2 a0 a1):=by
 intro v4 r h M hσ;unfold FR at h;exact gc
instance A7s:Ct 133 (∀{a0} {a1} {a2} {r},FQ a0 a1 a2=N r->FC zA 133 [.ag (X3.row a0),.ag (X8.row a1),.sc (.sl (I rI a2))] [.ag [.o 1 (I rB r.1.waits),.o 1 (I rI r.1.minutes),.o 1 (I (rL X6.row) r.1.sure)],.sc (.v (.bool r.2))]):=by
 refine⟨fun{a0} {a1} {a2} {r} h=> ?_⟩;unfold FQ at h;refine A3 A2 ZM [.c 6 T 3,7] 46 ?_;intro S hS;refine ev hS ?_;obtain⟨r1,h1,h⟩:=ob h;refine sg ?_;refine AD (Ag ff h1) ?_;refine sg ?_;obtain⟨h2,h⟩|⟨h2,h⟩:=ic h
 .refine sg ?_;exact gb h sq kr
 .obtain⟨x3,h3,h⟩:=ob h;have h3n:=Ah h3;refine sg ?_;exact gb h sq kr
def ZN:Hw:=([(6,[1,7,8,9],[],[])],[])
def ir:=fun a1 a0 (k_:X->W Y)=>∀{v1} {zr},k_ v1=N zr->Kh zA 205 ZN 6 [1,7,8,9] [] [] ⟨[pI 1 a1,pL 7 X6.row a0,pI 8 (a0.length:X),pI 9 v1],[],[]⟩ (A5 [4] [.sc (.v (.bool zr))])
def B2l{a1 a0}{n:Z}:ir a1 a0 (IH a1 a0 n):=by
 induction n with
 | zero=>intro _ r h; cases h
 | succ n ih=>
  intro v1 r h M hσ;rw[IH] at h;exact gc
instance B71:Ct 205 (∀{a0} {a1} {r},Ng a0 a1=N r->FC zA 205 [.sc (.sl (I X6.row a0)),.sc (.int .i64 a1)] [.sc (.v (.bool r))]):=by
 refine⟨fun h=> ?_⟩;unfold Ng at h;refine A3 A2 ZN [4] 20 ?_;have k0:= @B2l;exact gc
def ZO:Hw:=([(14,[1,10,11,12],[],[])],[])
def iy:=fun a1 a0 (k_:X->W X)=>∀{v3} {zr},k_ v3=N zr->Kh zA 206 ZO 14 [1,10,11,12] [] [] ⟨[pI 1 a1,pL 10 X6.row a0,pI 11 (a0.length:X),pI 12 v3],[],[]⟩ (A5 [4] [.sc (.v (.int .i64 zr))])
def B2m{a1 a0}{n:Z}:iy a1 a0 (IK a1 a0 n):=by
 induction n with
 | zero=>intro _ r h; cases h
 | succ n ih=>
  intro v3 r h M hσ;rw[IK] at h;exact gc
instance A7p:Ct 206 (∀{a0} {a1} {r},Nn a0 a1=N r->FC zA 206 [.sc (.sl (I X6.row a0)),.sc (.int .i64 a1)] [.sc (.v (.int .i64 r))]):=by
 refine⟨fun h=> ?_⟩;unfold Nn at h;refine A3 A2 ZO [4] 25 ?_;have k0:= @B2m;exact gc
def UC:Hw:=([(16,[2,6,7],[2],[1152]),(32,[2,6,7,9,59],[2],[1152])],[])
def jf:=fun v4 r10 (a0:Xk) v5 (k_:Y->W ((V X) × Y))=>∀{v14} {zr},k_ v14=N zr->Kh zA 181 UC 32 [2,6,7,9,59] [2] [1152] ⟨[pB 2,pW 6 1152,pI 7 v4,pI 9 r10,(59,vc (aB v14))],[(2,(dm a0.row))],[(1152,1,I rI v5)]⟩ (A5 [4,5] [.sc (.o 1 (I rI zr.1)),.sc (.v (.bool zr.2))])
def Xw:=fun(a0:Xk) (k_:X->(V X)->W ((V X) × Y))=>∀{v4 v5} {zr},k_ v4 v5=N zr->Kh zA 181 UC 16 [2,6,7] [2] [1152] ⟨[pB 2,pW 6 1152,pI 7 v4],[(2,(dm a0.row))],[(1152,1,I rI v5)]⟩ (A5 [4,5] [.sc (.o 1 (I rI zr.1)),.sc (.v (.bool zr.2))])
def WF{v4 r10 a0 v5}{SB}(wH:Xw a0 SB):jf v4 r10 a0 v5 (J3 v4 r10 a0 v5 SB):=by
 intro v14 r h M hσ;unfold J3 at h;have s0:= @Aq (I rI ([r10]:V X));have k0:= @wH;exact gc
def B2n{a0}{n:Z}:Xw a0 (ES a0 n):=by
 induction n with
 | zero=>intro _ _ r h; cases h
 | succ n ih=>
  intro v4 v5 r h M hσ S hS;refine ev hS ?_;rw[ES] at h;refine AA (Av ?_);obtain⟨h6,h⟩|⟨h6,h⟩:=ic h
  .obtain⟨x7,h7,h⟩:=ob h;have h7n:=Ah h7;obtain⟨x8,h8,h⟩:=ob h;obtain⟨x9,h9,h⟩:=ob h;obtain⟨r10,h10,h⟩:=ob h;refine sg ?_;refine AD (Ag A7p h10) ?_;obtain⟨h11,h⟩|⟨h11,h⟩:=ic h
   .refine sg ?_;exact WF ih h sq kr
   .obtain⟨h12,h⟩|⟨h12,h⟩:=ic h
    .obtain⟨x13,h13,h⟩:=ob h;refine sg ?_;exact WF ih h sq kr
    .refine sg ?_;exact WF ih h sq kr
  .refine sg ?_;cases h;trivial
instance B87:Ct 181 (∀{a0} {a1} {r},NR a0 a1=N r->FC zA 181 [.ag (Xk.row a0),.sc (.int .i64 a1)] [.sc (.o 1 (I rI r.1)),.sc (.v (.bool r.2))]):=by
 refine⟨fun{a0} {a1} {r} h=> ?_⟩;unfold NR at h;refine A3 A2 UC [4,5] 65 ?_;have s0:= @Aq (I rI ([a1]:V X));have k0:= @B2n;exact gc
def ZQ:Hw:=([(18,[1,5,6,8,13,14,40,41,42],[6,8],[2432,2496])],[])
def jB:=fun a1 a5 a4 (a0:X4) (a2:X5) r6 (k_:X->(V X1)->W (V X1))=>∀{v7 v8} {zr},k_ v7 v8=N zr->Kh zA 182 ZQ 18 [1,5,6,8,13,14,40,41,42] [6,8] [2432,2496] ⟨[pI 1 a1,pL 5 rI a5,pB 6,pB 8,pW 13 2432,pW 14 2496,pL 40 rI a4,pI 41 (a4.length:X),pI 42 v7],[(6,[aM X7.row a0.Points,aM X2.row a0.Segments]),(8,(dm a2.row))],[(2432,1,I rI r6),(2496,5,I X1.row v8)]⟩ (A5 [12] [.sc (.o 5 (I X1.row zr))])
def B2o{a1 a5 a4 a0 a2 r6}{n:Z}:jB a1 a5 a4 a0 a2 r6 (IM a1 a5 a4 a0 a2 r6 n):=by
 induction n with
 | zero=>intro _ _ r h; cases h
 | succ n ih=>
  intro v7 v8 r h M hσ S hS;refine ev hS ?_;rw[IM] at h;refine AA (Av ?_);obtain⟨h9,h⟩|⟨h9,h⟩:=ic h
  .obtain⟨x10,h10,h⟩:=ob h;obtain⟨x11,h11,h⟩:=ob h;obtain⟨r12,h12,h⟩:=ob h;refine sg ?_;refine AD (Ag fm h12) ?_;obtain⟨h13,h⟩|⟨h13,h⟩:=ic h
   .obtain⟨x14,h14,h⟩:=ob h;obtain⟨x15,h15,h⟩:=ob h;have h15n:=Ah h15;obtain⟨r16,h16,h⟩:=ob h;refine sg ?_;refine CO (Ag fi h16) ?_;refine sg ?_;refine AU (es:=I X1.row ([(⟨a1,x10,(x15==x14.A),x11,(IntKind.i64.wrap (x11+r16))⟩:X1)]:V X1)) ?_;obtain⟨h17,h⟩:=AR h;refine sg ?_;exact ih h sq kr
   .refine sg ?_;cases h;exact t0
  .refine sg ?_;cases h;exact t0
instance B8d:Ct 182 (∀{a0} {a1} {a2} {a3} {a4} {a5} {r},Ns a0 a1 a2 a3 a4 a5=N r->FC zA 182 [.ag (X4.row a0),.sc (.int .i64 a1),.ag (X5.row a2),.sc (.int .i64 a3),.sc (.sl (I rI a4)),.sc (.sl (I rI a5))] [.sc (.o 5 (I X1.row r))]):=by
 refine⟨fun h=> ?_⟩;unfold Ns at h;refine A3 A2 ZQ [12] 85 ?_;have s0:= @Aq (I X1.row ([]:V X1));have k0:= @B2o;exact gc
def ZR:Hw:=([(16,[2,5,11,12,13],[2],[])],[])
def jE:=fun a1 (a0:X4) (k_:X->X->W X)=>∀{v3 v4} {zr},k_ v3 v4=N zr->Kh zA 178 ZR 16 [2,5,11,12,13] [2] [] ⟨[pB 2,pI 5 v3,pL 11 rI a1,pI 12 (a1.length:X),pI 13 v4],[(2,[aM X7.row a0.Points,aM X2.row a0.Segments])],[]⟩ (A5 [4] [.sc (.v (.int .i64 zr))])
def B2p{a1 a0}{n:Z}:jE a1 a0 (IQ a1 a0 n):=by
 induction n with
 | zero=>intro _ _ r h; cases h
 | succ n ih=>
  intro v3 v4 r h M hσ;rw[IQ] at h;exact gc
instance fe:Ct 178 (∀{a0} {a1} {r},H6 a0 a1=N r->FC zA 178 [.ag (X4.row a0),.sc (.sl (I rI a1))] [.sc (.v (.int .i64 r))]):=by
 refine⟨fun h=> ?_⟩;unfold H6 at h;refine A3 A2 ZR [4] 33 ?_;have k0:= @B2p;exact gc
instance B7r:Ct 183 (∀{a0} {a1} {a2} {a3} {r},N8 a0 a1 a2 a3=N r->FC zA 183 [.ag (X4.row a0),.ag (X5.row a1),.sc (.sl (I rI a2)),.sc (.sl (I rI a3))] [.sc (.v (.int .i64 r))]):=by
 refine⟨fun h=> ?_⟩;unfold N8 at h;refine A3 A2 h0 [8] 55 ?_;exact gc
def B6p:V (V Z × AItem):= [([],(O,.load 72 (S 16) T 4)),([],(O,.faddr 73 (S 16) 1)),([1],(O,.load 74 (S 73) L 1)),([2],(O,.bin 75 .leq (S 74) (K 2880))),([0,0],(O,.store (S 10) (S 72) 4)),([3,4,0,1,2,3,4],(O,.mv 11 (S 75)))]
def ZS:Hw:=([(24,[10,16,60,61,62],[10,16],[2752])],[])
abbrev Qx(a4 r5 v7:X)(c0_ c1_:Y)(c2_ c3_ c5_:Y)(bx_:V (Z × V AC))(rs_:Rows):St:=⟨[(10,vc (.pb 10 0)),(16,vc (.pb 16 0)),(72,bif c0_ then va [aI a4,aI r5,aI v7,.own 2752] else .undef),(73,bif c1_ then vc (.pb 16 1) else .undef),(74,bif c2_ then vc (aI r5) else .undef),(75,bif c3_ then vc (aB (decide (r5<=(2880:X)))) else .undef),(11,bif c5_ then vc (aB (decide (r5<=(2880:X)))) else .undef)],bx_,rs_⟩
abbrev Wc(a4 r5:X)(r4:(V X1))(v7:X):St:=(Qx a4 r5 v7 T T T T T [(10,[aI a4,aI r5,aI v7,.own 2752]),(16,[aI a4,aI r5,aI v7,.own 2752])] [(2752,5,I X1.row r4)])
def Tk:=fun a4 r5 r4 v7 (f:Z) (c0:Y) (c1:Y) (c2:Y) (c3:Y) (c4:Y) (c5:Y) c6 c7 c8 c9=>Dl zA B6p (Wc a4 r5 r4 v7) f [c0,c1,c2,c3,c4,c5] (Qx a4 r5 v7 c0 c1 c2 c3 c5 [(10,[aI c6,aI c7,aI c8,(c9)]),(16,[aI a4,aI r5,aI v7,.own 2752])] [(2752,5,I X1.row r4)])
def bC:Prop:=True
def B2q{a4 r5 r4 v7}(H:bC):∀(f:Z) (b1 b2:Y) (b3 b5:Y),Tk a4 r5 r4 v7 f T b1 b2 b3 T b5 a4 r5 v7 (.own 2752):=by
 unfold Tk Qx;intro f
 induction f with
 | zero=>
  intro b1 b2 b3 b5 h;obtain rfl:b1=T:=zD.1 h b1 d0;obtain rfl:b2=T:=zD.1 h b2 d0;obtain rfl:b3=T:=zD.1 h b3 d0;obtain rfl:b5=T:=zD.1 h b5 d0;rfl
 | succ f ih=>
  intros;refine Ae ⟨?_,?_,?_,?_,?_,?_,⟨⟩⟩<;>try exact gi
def B2r{a4 r5 r4 v7}(H:bC):∀(f:Z) (b0 b1:Y) (b2 b3:Y),Tk a4 r5 r4 v7 f b0 b1 b2 b3 L L (0:X) (0:X) (0:X) .nil:=by
 unfold Tk Qx;intro f
 induction f with
 | zero=>intros; intro h; simp at h
 | succ f ih=>
  intros;refine Ae ⟨?_,?_,?_,?_,?_,?_,⟨⟩⟩<;>try exact gi
  .intro h0 hw;obtain rfl:=hq hw 0 rfl rfl;refine np ?_;try simp only[A7,A8,A4,B,C,E,F,G,U]
   exact B2q H ..
def jY:=fun(a2:Xk) a4 r5 r4 (k_:X->X->W (X0 × Y))=>∀{v6 v7} {zr},k_ v6 v7=N zr->Kh zA 134 ZS 24 [10,16,60,61,62] [10,16] [2752] ⟨[pB 10,pB 16,pL 60 rI a2.minutes,pI 61 (a2.minutes.length:X),pI 62 v6],[(10,[aI (0:X),aI (0:X),aI (0:X),.nil]),(16,[aI a4,aI r5,aI v7,.own 2752])],[(2752,5,I X1.row r4)]⟩ (A5 [.c 10 T 4,11] [.ag [.v (.int .i64 zr.1.Start),.v (.int .i64 zr.1.Arrival),.v (.int .i64 zr.1.Cost),.o 5 (I X1.row zr.1.Passages)],.sc (.v (.bool zr.2))])
def B2s{a2 a4 r5 r4}{n:Z}:jY a2 a4 r5 r4 (ER a2 a4 r5 r4 n):=by
 induction n with
 | zero=>intro _ _ r h; cases h
 | succ n ih=>
  intro v6 v7 r h M hσ S hS;refine ev hS ?_;rw[ER] at h;refine AA (Av ?_);obtain⟨h8,h⟩|⟨h8,h⟩:=ic h
  .obtain⟨x9,h9,h⟩:=ob h;refine sg ?_;exact ih h sq kr
  .refine sg ?_;refine DL (ks:= [10,16]) (bs:= [10,16]) (rs:= [2752]) (τ:=(Wc a4 r5 r4 v7)) J (B2r ⟨⟩ _ L L L L) ?_;simp only[Wc,Qx,A7];refine sg ?_;cases h;try simp only[Qq,B,C,E,F,G,U]
   trivial
instance fo:Ct 134 (∀{a0} {a1} {a2} {a3} {a4} {r},EQ a0 a1 a2 a3 a4=N r->FC zA 134 [.ag (X3.row a0),.ag (X8.row a1),.ag (Xk.row a2),.sc (.sl (I rI a3)),.sc (.int .i64 a4)] [.ag [.v (.int .i64 r.1.Start),.v (.int .i64 r.1.Arrival),.v (.int .i64 r.1.Cost),.o 5 (I X1.row r.1.Passages)],.sc (.v (.bool r.2))]):=by
 refine⟨fun h=> ?_⟩;unfold EQ at h;refine A3 A2 ZS [.c 10 T 4,11] 76 ?_;have k0:= @B2s;exact gc
def ZT:Hw:=([(5,[2,3,4,5,8,25],[4,5,8],[])],[])
def iz:=fun a2 a3 (a0:X3) (a1:X8) (k_:Y->W (X0 × Y))=>∀{v4} {zr},k_ v4=N zr->Kh zA 130 ZT 5 [2,3,4,5,8,25] [4,5,8] [] ⟨[pL 2 rI a2,pI 3 a3,pB 4,pB 5,pB 8,(25,vc (aB v4))],[(4,([aI a0.Forecast.Tide.Mean,aM zC a0.Forecast.Tide.Parts,aM X9.row a0.Forecast.Surges,aM X7.row a0.Chart.Points,aM X2.row a0.Chart.Segments,aM X5.row a0.Fleet,aI a0.Regime.Gap,aB a0.Regime.NoMeet]++dm a0.Crew.row)),(5,(dm a1.row)),(8,[aI (0:X),aI (0:X),aI (0:X),.nil])],[]⟩ (A5 [.c 8 T 4,9] [.ag [.v (.int .i64 zr.1.Start),.v (.int .i64 zr.1.Arrival),.v (.int .i64 zr.1.Cost),.o 5 (I X1.row zr.1.Passages)],.sc (.v (.bool zr.2))])
def B2u{a2 a3 a0 a1}:iz a2 a3 a0 a1 (Np a2 a3 a0 a1):=by
 intro v4 r h M hσ;unfold Np at h;exact gc
instance B77:Ct 130 (∀{a0} {a1} {a2} {a3} {r},Lb a0 a1 a2 a3=N r->FC zA 130 [.ag (X3.row a0),.ag (X8.row a1),.sc (.sl (I rI a2)),.sc (.int .i64 a3)] [.ag [.v (.int .i64 r.1.Start),.v (.int .i64 r.1.Arrival),.v (.int .i64 r.1.Cost),.o 5 (I X1.row r.1.Passages)],.sc (.v (.bool r.2))]):=by
 refine⟨fun h=> ?_⟩;unfold Lb at h;refine A3 A2 ZT [.c 8 T 4,9] 50 ?_;have k0:= @B2u;exact gc
def Ra:Xf:=EF [XX [0,1,12,13] [] []] (EF [bn 14 .lss 13 12] (XZ 14 0 1 (EF [mv 15 13,mv 5 15] (QV (.drw [o0 (mv 16 0),o0 (mv 17 5),o0 (ia 18 16 17 5),o0 (lw 19 18 5),o0 (mv 20 1),o0 (mv 21 5),o0 (ia 22 20 21 5),o0 (lw 23 22 5),o0 (O,.geq 24 T [.i,.i,.b,.i,.i] (S 19) (S 23))]) (XU 24 (KK [GR 4 L])))) (XW 25 13)))
def TY:Xf:=(KK [GR 4 T])
def YK:Xf:=(EF [GR 4 L] (Y0 [mv 6 0,ln 7 6,mv 8 1,ln 9 8,bn 10 .neq 7 9] 10 (KK [GR 4 L]) (QV (EF [mv 11 0,ln 12 11,XY 13 0] (XS 0 Ra)) TY)))
def lB:=fun a0 a1 (k_:X->W Y)=>∀{v2} {zr},k_ v2=N zr->Kp zA [0,1,12,13] [] [] ⟨[pL 0 X1.row a0,pL 1 X1.row a1,pI 12 (a0.length:X),pI 13 v2],[],[]⟩ (.code (.loop Ra):: [.blk 0,.code TY]) (A5 [4] [.sc (.v (.bool zr))])
def wq3{a0 a1}{n:Z}:lB a0 a1 (Ju a0 a1 n):=by
 induction n with
 | zero=>intro _ r h; cases h
 | succ n ih=>
  intro v2 r h M hσ;rw[Ju] at h;refine AA ?_;obtain⟨h3,h⟩|⟨h3,h⟩:=ic h
  .try simp only[hσ,h3,Ra,B,C,E,F,G,U]
   refine CC ?_;obtain⟨x4,h4,h⟩:=ob h;obtain⟨x5,h5,h⟩:=ob h;obtain⟨h6,h⟩|⟨h6,h⟩:=ic h
   .try simp only[h3,h4,h5,h6,B,C,E,F,G,U]
    refine ih h ?_;try simp only[h3,h4,h5,h6,B,C,E,F,G,U,pL,aM,List.map_nil]
   .try simp only[h3,h4,h5,h6,B,C,E,F,G,U]
    cases h;exact t0
  .try simp only[hσ,h3,Ra,TY,B,C,E,F,G,U]
   cases h;exact t0
instance C0s:Ct 135 (∀{a0} {a1} {r},RL a0 a1=N r->FC zA 135 [.sc (.sl (I X1.row a0)),.sc (.sl (I X1.row a1))] [.sc (.v (.bool r))]):=by
 refine⟨fun{a0} {a1} {r} h=> ?_⟩;unfold RL at h;refine WP A2 YK [4] 26 ?_;simp only[YK,B,C,E,F,G,U];obtain⟨h1,h⟩|⟨h1,h⟩:=ic h
 .try simp only[h1,B,C,E,F,G,U]
  cases h;exact t0
 .try simp only[h1,B,C,E,F,G,U]
  refine wq3 h ?_;try simp only[h1,B,C,E,F,G,U,pL,aM,List.map_nil]
instance fg:Ct 87 (∀{a0} {a1} {r},EN a0 a1=N r->FC zA 87 [.ag (X0.row a0),.ag (X0.row a1)] [.sc (.v (.bool r))]):=by
 refine⟨fun h=> ?_⟩;unfold EN at h;refine A3 A2 h0 [4] 31 ?_;exact gc
def ZU:Hw:=([(8,[3,4,5,7,14,15,16],[3,4,5],[768])],[])
def iw:=fun(a2:X0) (a0:X3) (a1:X8) (k_:X->(V X)->W Y)=>∀{v1 v2} {zr},k_ v1 v2=N zr->Kh zA 84 ZU 8 [3,4,5,7,14,15,16] [3,4,5] [768] ⟨[pB 3,pB 4,pB 5,pW 7 768,pL 14 X1.row a2.Passages,pI 15 (a2.Passages.length:X),pI 16 v1],[(3,([aI a0.Forecast.Tide.Mean,aM zC a0.Forecast.Tide.Parts,aM X9.row a0.Forecast.Surges,aM X7.row a0.Chart.Points,aM X2.row a0.Chart.Segments,aM X5.row a0.Fleet,aI a0.Regime.Gap,aB a0.Regime.NoMeet]++dm a0.Crew.row)),(4,(dm a1.row)),(5,[aI a2.Start,aI a2.Arrival,aI a2.Cost,aM X1.row a2.Passages])],[(768,1,I rI v2)]⟩ (A5 [6] [.sc (.v (.bool zr))])
def B2v{a2 a0 a1}{n:Z}:iw a2 a0 a1 (IJ a2 a0 a1 n):=by
 induction n with
 | zero=>intro _ _ r h; cases h
 | succ n ih=>
  intro v1 v2 r h M hσ;rw[IJ] at h;have s0:=fun(x4:X1)=> @Aq (I rI ([x4.Segment]:V X))
  exact gc
instance fb:Ct 84 (∀{a0} {a1} {a2} {r},II a0 a1 a2=N r->FC zA 84 [.ag (X3.row a0),.ag (X8.row a1),.ag (X0.row a2)] [.sc (.v (.bool r))]):=by
 refine⟨fun h=> ?_⟩;unfold II at h;refine A3 A2 ZU [6] 41 ?_;have s0:= @Aq (I rI ([]:V X));have k0:= @B2v;exact gc
instance B8w:Ct 131 (∀{a0} {r},ND a0=N r->FC zA 131 [.sc (.sl (I X1.row a0))] [.sc (.o 5 (I X1.row r))]):=by
 refine⟨fun h=> ?_⟩;unfold ND at h;refine A3 A2 h0 [2] 8 ?_;have s0:= @DR _ X1.row (⟨(0:X),(0:X),L,(0:X),(0:X)⟩:X1);exact gc
instance fk:Ct 85 (∀{a0} {r},NI a0=N r->FC zA 85 [.ag (X0.row a0)] [.ag [.v (.int .i64 r.Start),.v (.int .i64 r.Arrival),.v (.int .i64 r.Cost),.o 5 (I X1.row r.Passages)]]):=by
 refine⟨fun h=> ?_⟩;unfold NI at h;refine A3 A2 h0 [.c 2 T 4] 13 ?_;exact gc
instance Ta:Ct 137 (∀{a0} {r},Ee a0=N r->FC zA 137 [.sc (.sl (I rI a0))] [.sc (.o 1 (I rI r))]):=by
 refine⟨fun h=> ?_⟩;unfold Ee at h;refine A3 A2 h0 [2] 8 ?_;have s0:= @DR _ rI (0:X);exact gc
end Go.Vi
