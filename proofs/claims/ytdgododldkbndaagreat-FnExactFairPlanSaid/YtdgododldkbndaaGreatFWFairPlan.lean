/-
Walks. No condition.
-/
import Derived.Test.YtdgododldkbndaaGreatFNf
import Derived.Test.YtdgododldkbndaaGreatChecked
import Derived.Test.YtdgododldkbndaaGreatFVi41
import Derived.KernelRfl
import Derived.Test.YtdgododldkbndaaGreatFWFairPlanc
namespace Go.Vi
open Go.Proofs
set_option linter.all false
set_option maxRecDepth 4000
set_option maxHeartbeats 2000000
open Nat renaming reduceBEq → C, reduceMul → E, reduceAdd → F, reduceDiv → G, le_of_ble_eq_true → uf
open Int renaming reduceBEq → H
attribute [local irreducible] go Bd J4
open List renaming map → Y, length_set → I, map_nil → zD, all_eq_true → zF, cons_append → zG, nil_append → zH, all_cons → zI, all_nil → zJ
open Tryz renaming prog → Z
open Int renaming reduceNegSucc → zA, reduceOfNat → zC
open Xc renaming row → zB
open Xa renaming row → zE
open IntKind renaming wrap → zK
open Bool renaming true → T, false → L
open Option renaming some → N, none → O
open _root_ renaming List → P, Option → Q, Int → U, Bool → V, Nat → W, rfl → X
/- 66:impl_planner_search -/
def OP:P (P W × AItem):= [([],(O,.mv 40 (S 0))),([],(O,.mv 41 (S 0))),([],(O,.mv 42 (S 0))),([],(O,.mv 43 (S 0))),([3],(O,.nilc 44 (S 43))),([4],(O,.faddr 45 (S 44) 15)),([5],(O,.load 46 (S 45) L 1)),([6],(O,.call 47 109 [(S 46)])),([],(O,.load 48 (S 2) T 2)),([0,0,3,4,5,6,7],(O,.nilc 49 (S 40))),([9,0,3,4,5,6,7],(O,.faddr 50 (S 49) 16)),([10,7,7,0,3,4,5,6,7],(O,.store (S 50) (S 47) 1)),([1,0,1,3,4,5,6,7,8,9,10,11],(O,.nilc 51 (S 41))),([12,0,1,3,4,5,6,7,8,9,10,11],(O,.faddr 52 (S 51) 17)),([13,8,11,0,1,3,4,5,6,7,8,9,10,11],(O,.store (S 52) (S 48) 2)),([2,0,1,2,3,4,5,6,7,8,9,10,11,12,13,14],(O,.nilc 53 (S 42))),([15,0,1,2,3,4,5,6,7,8,9,10,11,12,13,14],(O,.faddr 54 (S 53) 19)),([16,14,0,1,2,3,4,5,6,7,8,9,10,11,12,13,14],(O,.store (S 54) (KB T) 1))]
def G5:P (P W × AItem):= [([],(O,.mv 79 (S 0))),([],(O,.mv 80 (S 0))),([],(O,.mv 81 (S 0))),([2],(O,.nilc 82 (S 81))),([3],(O,.faddr 83 (S 82) 14)),([4],(O,.load 84 (S 83) L 1)),([],(O,.load 85 (S 5) T 4)),([6],(O,.bslice 86 4 [.int .i64 0,.int .i64 0,.int .i64 0,.sl []] 1 [(0,(S 85))])),([5,7],(O,.app 87 4 48 (S 84) (S 86))),([],(O,.mv 88 (S 0))),([9],(O,.nilc 89 (S 88))),([10],(O,.faddr 90 (S 89) 15)),([11],(O,.load 91 (S 90) L 1)),([],(O,.mv 92 (S 4))),([13],(O,.bslice 93 1 [.int .i64 0] 1 [(0,(S 92))])),([12,14,8],(O,.app 94 1 8 (S 91) (S 93))),([0,0,2,3,4,5,6,7,8,12,15],(O,.nilc 95 (S 79))),([16,0,2,3,4,5,6,7,8,12,15],(O,.faddr 96 (S 95) 14)),([17,8,15,0,2,3,4,5,6,7,8,12,15],(O,.store (S 96) (S 87) 1)),([1,0,1,2,3,4,5,6,7,8,9,10,11,12,13,14,15,16,17,18],(O,.nilc 97 (S 80))),([19,0,1,2,3,4,5,6,7,8,9,10,11,12,13,14,15,16,17,18],(O,.faddr 98 (S 97) 15)),([20,15,18,0,1,2,3,4,5,6,7,8,9,10,11,12,13,14,15,16,17,18],(O,.store (S 98) (S 94) 1))]
def Jr:P (P W × AItem):= [([],(O,.mv 101 (S 0))),([],(O,.mv 102 (S 0))),([],(O,.mv 103 (S 0))),([2],(O,.nilc 104 (S 103))),([3],(O,.faddr 105 (S 104) 14)),([4],(O,.load 106 (S 105) L 1)),([],(O,.mv 107 (S 3))),([5,6],(O,.slc 108 4 (S 106) O (N (S 107)) O)),([],(O,.mv 109 (S 0))),([8],(O,.nilc 110 (S 109))),([9],(O,.faddr 111 (S 110) 15)),([10],(O,.load 112 (S 111) L 1)),([],(O,.mv 113 (S 3))),([11,12],(O,.slc 114 1 (S 112) O (N (S 113)) O)),([0,0,2,3,4,5,6,7,11],(O,.nilc 115 (S 101))),([14,0,2,3,4,5,6,7,11],(O,.faddr 116 (S 115) 14)),([15,7,0,2,3,4,5,6,7,11],(O,.store (S 116) (S 108) 1)),([1,0,1,2,3,4,5,6,7,8,9,10,11,12,13,14,15,16],(O,.nilc 117 (S 102))),([17,0,1,2,3,4,5,6,7,8,9,10,11,12,13,14,15,16],(O,.faddr 118 (S 117) 15)),([18,13,16,0,1,2,3,4,5,6,7,8,9,10,11,12,13,14,15,16],(O,.store (S 118) (S 114) 1))]
def Q8:Hw:=([(8,[0,2],[99999999999,2],[90000,90001,90002]),(21,[0,3,61,62,63],[99999999999],[90000,90001,90002])],[])
abbrev CT(r1:Xj)(c0_ c1_:V)(c2_ c3_:V)(c4_ c5_:V)(c6_ c7_:V)(c8_ c9_:V)(c10_ c12_:V)(c13_ c15_ c16_:V)(bx_:P (W × P AC))(rs_:Rows):St:=⟨[(0,vc (.pb 99999999999 0)),(2,vc (.pb 2 0)),(40,bif c0_ then vc (.pb 99999999999 0) else .undef),(41,bif c1_ then vc (.pb 99999999999 0) else .undef),(42,bif c2_ then vc (.pb 99999999999 0) else .undef),(43,bif c3_ then vc (.pb 99999999999 0) else .undef),(44,bif c4_ then vc (.pb 99999999999 0) else .undef),(45,bif c5_ then vc (.pb 99999999999 15) else .undef),(46,bif c6_ then vc (.own 90001) else .undef),(47,bif c7_ then vc (.own 3008) else .undef),(48,bif c8_ then va [aI r1.i0,aI r1.i1] else .undef),(49,bif c9_ then vc (.pb 99999999999 0) else .undef),(50,bif c10_ then vc (.pb 99999999999 16) else .undef),(51,bif c12_ then vc (.pb 99999999999 0) else .undef),(52,bif c13_ then vc (.pb 99999999999 17) else .undef),(53,bif c15_ then vc (.pb 99999999999 0) else .undef),(54,bif c16_ then vc (.pb 99999999999 19) else .undef)],bx_,rs_⟩
abbrev Jo(F_w0:FuncId)(caps_w0:P D)(a0:Xe)(r1:Xj)(r7:(P U)):St:=(CT r1 T T T T T T T T T T T T T T T [(99999999999,([aI a0.h.Forecast.Tide.Mean,aL (Y zB a0.h.Forecast.Tide.Parts),aL (Y X9.row a0.h.Forecast.Surges),aL (Y X7.row a0.h.Chart.Points),aL (Y X2.row a0.h.Chart.Segments),aL (Y X4.row a0.h.Fleet),aI a0.h.Regime.Gap,aB a0.h.Regime.NoMeet]++dm a0.h.Crew.row++ [aL (Y (rL X0.row) a0.choices),.dat (.clo F_w0 caps_w0),.own 90000,.own 90001,.own 3008,aI r1.i0,aI r1.i1,aB T])),(2,[aI r1.i0,aI r1.i1])] [(90000,4,Y X0.row a0.plan),(90001,1,Y rI a0.choice),(90002,1,Y rI a0.best),(3008,1,Y rI r7)])
theorem A3k(F_w0:FuncId)(caps_w0:P D)(a0:Xe)(r1:Xj)(v5:V)(r7)(h7:BD a0.choice=N r7):∀(f:W) (b15:V),Ae Z OP (Jo F_w0 caps_w0 a0 r1 r7) f [T,T,T,T,T,T,T,T,T,T,T,T,T,T,T,b15,T,T] (CT r1 T T T T T T T T T T T T T b15 T [(99999999999,([aI a0.h.Forecast.Tide.Mean,aL (Y zB a0.h.Forecast.Tide.Parts),aL (Y X9.row a0.h.Forecast.Surges),aL (Y X7.row a0.h.Chart.Points),aL (Y X2.row a0.h.Chart.Segments),aL (Y X4.row a0.h.Fleet),aI a0.h.Regime.Gap,aB a0.h.Regime.NoMeet]++dm a0.h.Crew.row++ [aL (Y (rL X0.row) a0.choices),.dat (.clo F_w0 caps_w0),.own 90000,.own 90001,.own 3008,aI r1.i0,aI r1.i1,aB T])),(2,[aI r1.i0,aI r1.i1])] [(90000,4,Y X0.row a0.plan),(90001,1,Y rI a0.choice),(90002,1,Y rI a0.best),(3008,1,Y rI r7)]):=by
 intro f
 induction f with
 | zero=>
  intro b15 h;obtain rfl:b15=T:=zF.1 h b15 (by simp);rfl
 | succ f ih=>
  intro b15;refine Aj ⟨?_,?_,?_,?_,?_,?_,?_,?_,?_,?_,?_,?_,?_,?_,?_,?_,?_,?_,⟨⟩⟩<;>try first | (intro h; cases h; done) | (intro h0 hw; obtain rfl:=hz h0 rfl; refine np ?_; simp only[CT,A6,A7,A2,C,E,F,G,H,J]; exact ih _)
theorem A3l(F_w0:FuncId)(caps_w0:P D)(a0:Xe)(r1:Xj)(v5:V)(r7)(h7:BD a0.choice=N r7):∀(f:W) (b2 b12:V) (b15 b16:V),Ae Z OP (Jo F_w0 caps_w0 a0 r1 r7) f [T,T,b2,T,T,T,T,T,T,T,T,T,b12,T,T,b15,b16,L] (CT r1 T T b2 T T T T T T T T b12 T b15 b16 [(99999999999,([aI a0.h.Forecast.Tide.Mean,aL (Y zB a0.h.Forecast.Tide.Parts),aL (Y X9.row a0.h.Forecast.Surges),aL (Y X7.row a0.h.Chart.Points),aL (Y X2.row a0.h.Chart.Segments),aL (Y X4.row a0.h.Fleet),aI a0.h.Regime.Gap,aB a0.h.Regime.NoMeet]++dm a0.h.Crew.row++ [aL (Y (rL X0.row) a0.choices),.dat (.clo F_w0 caps_w0),.own 90000,.own 90001,.own 3008,aI r1.i0,aI r1.i1,aB v5])),(2,[aI r1.i0,aI r1.i1])] [(90000,4,Y X0.row a0.plan),(90001,1,Y rI a0.choice),(90002,1,Y rI a0.best),(3008,1,Y rI r7)]):=by
 intro f
 induction f with
 | zero=>intro b2 b12 b15 b16 h; simp at h
 | succ f ih=>
  intro b2 b12 b15 b16;refine Aj ⟨?_,?_,?_,?_,?_,?_,?_,?_,?_,?_,?_,?_,?_,?_,?_,?_,?_,?_,⟨⟩⟩<;>try first | (intro h; cases h; done) | (intro h0 hw; obtain rfl:=hz h0 rfl; (try obtain rfl:=hq hw 2 rfl rfl); (try obtain rfl:=hq hw 12 rfl rfl); (try obtain rfl:=hq hw 15 rfl rfl); refine np ?_; simp only[CT,A6,A7,A2,C,E,F,G,H,J]; exact ih _ _ _ _)
  ·intro h0 hw;obtain rfl:=hq hw 2 rfl rfl;obtain rfl:=hq hw 12 rfl rfl;obtain rfl:=hq hw 16 rfl rfl;refine np ?_;try simp only[CT,A6,A7,A2,C,E,F,G,H,J]
   exact A3k F_w0 caps_w0 a0 r1 v5 r7 h7 _ b15
theorem A3m(F_w0:FuncId)(caps_w0:P D)(a0:Xe)(r1:Xj)(v5:V)(r7)(h7:BD a0.choice=N r7):∀(f:W) (b1 b2:V) (b8 b9:V) (b12 b13:V),Ae Z OP (Jo F_w0 caps_w0 a0 r1 r7) f [T,b1,b2,T,T,T,T,T,b8,b9,T,T,b12,b13,L,L,L,L] (CT r1 T b1 b2 T T T T T b8 b9 T b12 b13 L L [(99999999999,([aI a0.h.Forecast.Tide.Mean,aL (Y zB a0.h.Forecast.Tide.Parts),aL (Y X9.row a0.h.Forecast.Surges),aL (Y X7.row a0.h.Chart.Points),aL (Y X2.row a0.h.Chart.Segments),aL (Y X4.row a0.h.Fleet),aI a0.h.Regime.Gap,aB a0.h.Regime.NoMeet]++dm a0.h.Crew.row++ [aL (Y (rL X0.row) a0.choices),.dat (.clo F_w0 caps_w0),.own 90000,.own 90001,.own 3008,aI a0.least.i0,aI a0.least.i1,aB v5])),(2,[aI r1.i0,aI r1.i1])] [(90000,4,Y X0.row a0.plan),(90001,1,Y rI a0.choice),(90002,1,Y rI a0.best),(3008,1,Y rI r7)]):=by
 intro f
 induction f with
 | zero=>intro b1 b2 b8 b9 b12 b13 h; simp at h
 | succ f ih=>
  intro b1 b2 b8 b9 b12 b13;refine Aj ⟨?_,?_,?_,?_,?_,?_,?_,?_,?_,?_,?_,?_,?_,?_,?_,?_,?_,?_,⟨⟩⟩<;>try first | (intro h; cases h; done) | (intro _ hw; simp at hw; done) | (intro h0 hw; obtain rfl:=hz h0 rfl; (try obtain rfl:=hq hw 1 rfl rfl); (try obtain rfl:=hq hw 8 rfl rfl); (try obtain rfl:=hq hw 9 rfl rfl); (try obtain rfl:=hq hw 12 rfl rfl); refine np ?_; simp only[CT,A6,A7,A2,C,E,F,G,H,J]; exact ih _ _ _ _ _ _)
  ·intro h0 hw;obtain rfl:=hq hw 1 rfl rfl;obtain rfl:=hq hw 8 rfl rfl;obtain rfl:=hq hw 9 rfl rfl;obtain rfl:=hq hw 13 rfl rfl;refine np ?_;try simp only[CT,A6,A7,A2,C,E,F,G,H,J]
   exact A3l F_w0 caps_w0 a0 r1 v5 r7 h7 _ b2 b12 L L
theorem A3n(F_w0:FuncId)(caps_w0:P D)(a0:Xe)(r1:Xj)(v5:V)(r7)(h7:BD a0.choice=N r7):∀(f:W) (b0 b1:V) (b2 b3:V) (b4 b5:V) (b8 b9 b10:V),Ae Z OP (Jo F_w0 caps_w0 a0 r1 r7) f [b0,b1,b2,b3,b4,b5,T,T,b8,b9,b10,L,L,L,L,L,L,L] (CT r1 b0 b1 b2 b3 b4 b5 T T b8 b9 b10 L L L L [(99999999999,([aI a0.h.Forecast.Tide.Mean,aL (Y zB a0.h.Forecast.Tide.Parts),aL (Y X9.row a0.h.Forecast.Surges),aL (Y X7.row a0.h.Chart.Points),aL (Y X2.row a0.h.Chart.Segments),aL (Y X4.row a0.h.Fleet),aI a0.h.Regime.Gap,aB a0.h.Regime.NoMeet]++dm a0.h.Crew.row++ [aL (Y (rL X0.row) a0.choices),.dat (.clo F_w0 caps_w0),.own 90000,.own 90001,.own 90002,aI a0.least.i0,aI a0.least.i1,aB v5])),(2,[aI r1.i0,aI r1.i1])] [(90000,4,Y X0.row a0.plan),(90001,1,Y rI a0.choice),(90002,1,Y rI a0.best),(3008,1,Y rI r7)]):=by
 intro f
 induction f with
 | zero=>intro b0 b1 b2 b3 b4 b5 b8 b9 b10 h; simp at h
 | succ f ih=>
  intro b0 b1 b2 b3 b4 b5 b8 b9 b10;refine Aj ⟨?_,?_,?_,?_,?_,?_,?_,?_,?_,?_,?_,?_,?_,?_,?_,?_,?_,?_,⟨⟩⟩<;>try first | (intro h; cases h; done) | (intro _ hw; simp at hw; done) | (intro h0 hw; obtain rfl:=hz h0 rfl; (try obtain rfl:=hq hw 0 rfl rfl); (try obtain rfl:=hq hw 3 rfl rfl); (try obtain rfl:=hq hw 4 rfl rfl); (try obtain rfl:=hq hw 5 rfl rfl); (try obtain rfl:=hq hw 9 rfl rfl); refine np ?_; simp only[CT,A6,A7,A2,C,E,F,G,H,J]; exact ih _ _ _ _ _ _ _ _ _)
  ·intro h0 hw;obtain rfl:=hq hw 0 rfl rfl;obtain rfl:=hq hw 3 rfl rfl;obtain rfl:=hq hw 4 rfl rfl;obtain rfl:=hq hw 5 rfl rfl;obtain rfl:=hq hw 10 rfl rfl;refine np ?_;try simp only[CT,A6,A7,A2,C,E,F,G,H,J]
   exact A3m F_w0 caps_w0 a0 r1 v5 r7 h7 _ b1 b2 b8 b9 L L
theorem A3o(F_w0:FuncId)(caps_w0:P D)(a0:Xe)(r1:Xj)(v5:V)(r7)(h7:BD a0.choice=N r7):∀(f:W) (b0 b1:V) (b2 b3:V) (b4 b5:V) (b6 b8:V),Ae Z OP (Jo F_w0 caps_w0 a0 r1 r7) f [b0,b1,b2,b3,b4,b5,b6,L,b8,L,L,L,L,L,L,L,L,L] (CT r1 b0 b1 b2 b3 b4 b5 b6 L b8 L L L L L L [(99999999999,([aI a0.h.Forecast.Tide.Mean,aL (Y zB a0.h.Forecast.Tide.Parts),aL (Y X9.row a0.h.Forecast.Surges),aL (Y X7.row a0.h.Chart.Points),aL (Y X2.row a0.h.Chart.Segments),aL (Y X4.row a0.h.Fleet),aI a0.h.Regime.Gap,aB a0.h.Regime.NoMeet]++dm a0.h.Crew.row++ [aL (Y (rL X0.row) a0.choices),.dat (.clo F_w0 caps_w0),.own 90000,.own 90001,.own 90002,aI a0.least.i0,aI a0.least.i1,aB v5])),(2,[aI r1.i0,aI r1.i1])] [(90000,4,Y X0.row a0.plan),(90001,1,Y rI a0.choice),(90002,1,Y rI a0.best)]):=by
 intro f
 induction f with
 | zero=>intro b0 b1 b2 b3 b4 b5 b6 b8 h; simp at h
 | succ f ih=>
  intro b0 b1 b2 b3 b4 b5 b6 b8;refine Aj ⟨?_,?_,?_,?_,?_,?_,?_,?_,?_,?_,?_,?_,?_,?_,?_,?_,?_,?_,⟨⟩⟩<;>try first | (intro _ hw; simp at hw; done) | (intro h0 hw; obtain rfl:=hz h0 rfl; (try obtain rfl:=hq hw 3 rfl rfl); (try obtain rfl:=hq hw 4 rfl rfl); (try obtain rfl:=hq hw 5 rfl rfl); refine np ?_; simp only[CT,A6,A7,A2,C,E,F,G,H,J]; exact ih _ _ _ _ _ _ _ _)
  ·intro h0 hw;obtain rfl:=hq hw 6 rfl rfl;refine np ?_;try simp only[CT,A6,A7,A2,C,E,F,G,H,J]
   refine Cf (Ac QO h7) X (CN X ⟨CB,⟨⟩⟩) (by simp only[St.fresh,zI,zJ,Ak]; simp[AV.cells,V1.cells,AC.uses]) (uf X) ?_;try simp only[A2,C,E,F,G,H,J]
   exact A3n F_w0 caps_w0 a0 r1 v5 r7 h7 _ b0 b1 b2 b3 b4 b5 b8 L L
abbrev Bg(a0:Xe)(x8:P X0)(v9:U)(x19:X0)(wo5_ wo12_:AV)(c0_ c1_:V)(c2_ c3_:V)(c4_ c5_:V)(c6_ c7_:V)(c8_ c9_:V)(c10_ c11_:V)(c12_ c13_:V)(c14_ c15_:V)(c16_ c17_:V)(c19_ c20_:V)(bx_:P (W × P AC))(rs_:Rows):St:=⟨[(0,vc (.pb 99999999999 0)),(3,vc (aI (a0.plan.length:U))),(4,vc (aI v9)),(5,vc (.pb 5 0)),(61,vc (aL (Y X0.row x8))),(62,vc (aI (x8.length:U))),(63,vc (aI v9)),(79,bif c0_ then vc (.pb 99999999999 0) else .undef),(80,bif c1_ then vc (.pb 99999999999 0) else .undef),(81,bif c2_ then vc (.pb 99999999999 0) else .undef),(82,bif c3_ then vc (.pb 99999999999 0) else .undef),(83,bif c4_ then vc (.pb 99999999999 14) else .undef),(84,bif c5_ then wo5_ else .undef),(85,bif c6_ then va (dm x19.row) else .undef),(86,bif c7_ then vc (.own 5504) else .undef),(87,bif c8_ then vc (.own 90000) else .undef),(88,bif c9_ then vc (.pb 99999999999 0) else .undef),(89,bif c10_ then vc (.pb 99999999999 0) else .undef),(90,bif c11_ then vc (.pb 99999999999 15) else .undef),(91,bif c12_ then wo12_ else .undef),(92,bif c13_ then vc (aI v9) else .undef),(93,bif c14_ then vc (.own 5952) else .undef),(94,bif c15_ then vc (.own 90001) else .undef),(95,bif c16_ then vc (.pb 99999999999 0) else .undef),(96,bif c17_ then vc (.pb 99999999999 14) else .undef),(97,bif c19_ then vc (.pb 99999999999 0) else .undef),(98,bif c20_ then vc (.pb 99999999999 15) else .undef)],bx_,rs_⟩
abbrev Eh(F_w0:FuncId)(caps_w0:P D)(a0:Xe)(x8:P X0)(v9:U)(v10:X6)(v11:P (P X0))(v12 v13:U)(v14:V)(v15:P X0)(v16 v17:P U)(x19:X0):St:=(Bg a0 x8 v9 x19 (vc (.undef)) (vc (.undef)) T T T T T T T T T T T T T T T T T T T T [(99999999999,([aI v10.Forecast.Tide.Mean,aL (Y zB v10.Forecast.Tide.Parts),aL (Y X9.row v10.Forecast.Surges),aL (Y X7.row v10.Chart.Points),aL (Y X2.row v10.Chart.Segments),aL (Y X4.row v10.Fleet),aI v10.Regime.Gap,aB v10.Regime.NoMeet]++dm v10.Crew.row++ [aL (Y (rL X0.row) v11),.dat (.clo F_w0 caps_w0),.own 90000,.own 90001,.own 90002,aI v12,aI v13,aB v14])),(5,(dm x19.row))] [(90000,4,Y X0.row (v15++([x19]:P X0))),(90001,1,Y rI (v16++([v9]:P U))),(90002,1,Y rI v17),(5504,4,Y X0.row ([x19]:P X0)),(5952,1,Y rI ([v9]:P U))])
theorem A3p(F_w0:FuncId)(caps_w0:P D)(a0:Xe)(x8:P X0)(v9)(v10:X6)(v11)(v12)(v13)(v14)(v15:P X0)(v16:P U)(v17)(x19)(h22:(A3 v15.length ([x19]:P X0).length 48)=T)(h23:(A3 v16.length ([v9]:P U).length 8)=T):∀(f:W) (b19:V),Ae Z G5 (Eh F_w0 caps_w0 a0 x8 v9 v10 v11 v12 v13 v14 v15 v16 v17 x19) f [T,T,T,T,T,T,T,T,T,T,T,T,T,T,T,T,T,T,T,b19,T,T] (Bg a0 x8 v9 x19 (vc (.undef)) (vc (.undef)) T T T T T T T T T T T T T T T T T T b19 T [(99999999999,([aI v10.Forecast.Tide.Mean,aL (Y zB v10.Forecast.Tide.Parts),aL (Y X9.row v10.Forecast.Surges),aL (Y X7.row v10.Chart.Points),aL (Y X2.row v10.Chart.Segments),aL (Y X4.row v10.Fleet),aI v10.Regime.Gap,aB v10.Regime.NoMeet]++dm v10.Crew.row++ [aL (Y (rL X0.row) v11),.dat (.clo F_w0 caps_w0),.own 90000,.own 90001,.own 90002,aI v12,aI v13,aB v14])),(5,(dm x19.row))] [(90000,4,Y X0.row (v15++([x19]:P X0))),(90001,1,Y rI (v16++([v9]:P U))),(90002,1,Y rI v17),(5504,4,Y X0.row ([x19]:P X0)),(5952,1,Y rI ([v9]:P U))]):=by
 intro f
 induction f with
 | zero=>
  intro b19 h;obtain rfl:b19=T:=zF.1 h b19 (by simp);rfl
 | succ f ih=>
  intro b19;refine Aj ⟨?_,?_,?_,?_,?_,?_,?_,?_,?_,?_,?_,?_,?_,?_,?_,?_,?_,?_,?_,?_,?_,?_,⟨⟩⟩<;>try first | (intro h; cases h; done) | (intro h0 hw; obtain rfl:=hz h0 rfl; refine np ?_; simp only[Bg,A6,A7,A2,C,E,F,G,H,J]; exact ih _)
theorem A3r(F_w0:FuncId)(caps_w0:P D)(a0:Xe)(x8:P X0)(v9)(v10:X6)(v11)(v12)(v13)(v14)(v15:P X0)(v16:P U)(v17)(x19)(h22:(A3 v15.length ([x19]:P X0).length 48)=T)(h23:(A3 v16.length ([v9]:P U).length 8)=T):∀(f:W) (b1 b9:V) (b10 b11:V) (b16 b19 b20:V),Ae Z G5 (Eh F_w0 caps_w0 a0 x8 v9 v10 v11 v12 v13 v14 v15 v16 v17 x19) f [T,b1,T,T,T,T,T,T,T,b9,b10,b11,T,T,T,T,b16,T,T,b19,b20,L] (Bg a0 x8 v9 x19 (vc (.undef)) (vc (.undef)) T b1 T T T T T T T b9 b10 b11 T T T T b16 T b19 b20 [(99999999999,([aI v10.Forecast.Tide.Mean,aL (Y zB v10.Forecast.Tide.Parts),aL (Y X9.row v10.Forecast.Surges),aL (Y X7.row v10.Chart.Points),aL (Y X2.row v10.Chart.Segments),aL (Y X4.row v10.Fleet),aI v10.Regime.Gap,aB v10.Regime.NoMeet]++dm v10.Crew.row++ [aL (Y (rL X0.row) v11),.dat (.clo F_w0 caps_w0),.own 90000,.undef,.own 90002,aI v12,aI v13,aB v14])),(5,(dm x19.row))] [(90000,4,Y X0.row (v15++([x19]:P X0))),(90001,1,Y rI (v16++([v9]:P U))),(90002,1,Y rI v17),(5504,4,Y X0.row ([x19]:P X0)),(5952,1,Y rI ([v9]:P U))]):=by
 intro f
 induction f with
 | zero=>intro b1 b9 b10 b11 b16 b19 b20 h; simp at h
 | succ f ih=>
  intro b1 b9 b10 b11 b16 b19 b20;refine Aj ⟨?_,?_,?_,?_,?_,?_,?_,?_,?_,?_,?_,?_,?_,?_,?_,?_,?_,?_,?_,?_,?_,?_,⟨⟩⟩<;>try first | (intro h; cases h; done) | (intro h0 hw; obtain rfl:=hz h0 rfl; (try obtain rfl:=hq hw 1 rfl rfl); (try obtain rfl:=hq hw 9 rfl rfl); (try obtain rfl:=hq hw 10 rfl rfl); (try obtain rfl:=hq hw 11 rfl rfl); (try obtain rfl:=hq hw 16 rfl rfl); (try obtain rfl:=hq hw 19 rfl rfl); refine np ?_; simp only[Bg,A6,A7,A2,C,E,F,G,H,J]; exact ih _ _ _ _ _ _ _)
  ·intro h0 hw;obtain rfl:=hq hw 1 rfl rfl;obtain rfl:=hq hw 9 rfl rfl;obtain rfl:=hq hw 10 rfl rfl;obtain rfl:=hq hw 11 rfl rfl;obtain rfl:=hq hw 16 rfl rfl;obtain rfl:=hq hw 20 rfl rfl;refine np ?_;try simp only[Bg,A6,A7,A2,C,E,F,G,H,J]
   exact A3p F_w0 caps_w0 a0 x8 v9 v10 v11 v12 v13 v14 v15 v16 v17 x19 h22 h23 _ b19
theorem A3s(F_w0:FuncId)(caps_w0:P D)(a0:Xe)(x8:P X0)(v9)(v10:X6)(v11)(v12)(v13)(v14)(v15:P X0)(v16:P U)(v17)(x19)(h22:(A3 v15.length ([x19]:P X0).length 48)=T)(h23:(A3 v16.length ([v9]:P U).length 8)=T):∀(f:W) (b0 b1:V) (b2 b3:V) (b4 b9:V) (b10 b11:V) (b16 b17:V),Ae Z G5 (Eh F_w0 caps_w0 a0 x8 v9 v10 v11 v12 v13 v14 v15 v16 v17 x19) f [b0,b1,b2,b3,b4,T,T,T,T,b9,b10,b11,T,T,T,T,b16,b17,L,L,L,L] (Bg a0 x8 v9 x19 (vc (.undef)) (vc (.undef)) b0 b1 b2 b3 b4 T T T T b9 b10 b11 T T T T b16 b17 L L [(99999999999,([aI v10.Forecast.Tide.Mean,aL (Y zB v10.Forecast.Tide.Parts),aL (Y X9.row v10.Forecast.Surges),aL (Y X7.row v10.Chart.Points),aL (Y X2.row v10.Chart.Segments),aL (Y X4.row v10.Fleet),aI v10.Regime.Gap,aB v10.Regime.NoMeet]++dm v10.Crew.row++ [aL (Y (rL X0.row) v11),.dat (.clo F_w0 caps_w0),.undef,.undef,.own 90002,aI v12,aI v13,aB v14])),(5,(dm x19.row))] [(90000,4,Y X0.row (v15++([x19]:P X0))),(90001,1,Y rI (v16++([v9]:P U))),(90002,1,Y rI v17),(5504,4,Y X0.row ([x19]:P X0)),(5952,1,Y rI ([v9]:P U))]):=by
 intro f
 induction f with
 | zero=>intro b0 b1 b2 b3 b4 b9 b10 b11 b16 b17 h; simp at h
 | succ f ih=>
  intro b0 b1 b2 b3 b4 b9 b10 b11 b16 b17;refine Aj ⟨?_,?_,?_,?_,?_,?_,?_,?_,?_,?_,?_,?_,?_,?_,?_,?_,?_,?_,?_,?_,?_,?_,⟨⟩⟩<;>try first | (intro h; cases h; done) | (intro _ hw; simp at hw; done) | (intro h0 hw; obtain rfl:=hz h0 rfl; (try obtain rfl:=hq hw 0 rfl rfl); (try obtain rfl:=hq hw 2 rfl rfl); (try obtain rfl:=hq hw 3 rfl rfl); (try obtain rfl:=hq hw 4 rfl rfl); (try obtain rfl:=hq hw 9 rfl rfl); (try obtain rfl:=hq hw 10 rfl rfl); (try obtain rfl:=hq hw 16 rfl rfl); refine np ?_; simp only[Bg,A6,A7,A2,C,E,F,G,H,J]; exact ih _ _ _ _ _ _ _ _ _ _)
  ·intro h0 hw;obtain rfl:=hq hw 0 rfl rfl;obtain rfl:=hq hw 2 rfl rfl;obtain rfl:=hq hw 3 rfl rfl;obtain rfl:=hq hw 4 rfl rfl;obtain rfl:=hq hw 17 rfl rfl;refine np ?_;try simp only[Bg,A6,A7,A2,C,E,F,G,H,J]
   exact A3r F_w0 caps_w0 a0 x8 v9 v10 v11 v12 v13 v14 v15 v16 v17 x19 h22 h23 _ b1 b9 b10 b11 b16 L L
theorem aU(F_w0:FuncId)(caps_w0:P D)(a0:Xe)(x8:P X0)(v9)(v10:X6)(v11)(v12)(v13)(v14)(v15:P X0)(v16:P U)(v17)(x19)(h22:(A3 v15.length ([x19]:P X0).length 48)=T)(h23:(A3 v16.length ([v9]:P U).length 8)=T):∀(f:W) (b0 b1:V) (b2 b3:V) (b4 b9:V) (b10 b11 b12:V),Ae Z G5 (Eh F_w0 caps_w0 a0 x8 v9 v10 v11 v12 v13 v14 v15 v16 v17 x19) f [b0,b1,b2,b3,b4,T,T,T,T,b9,b10,b11,b12,T,T,L,L,L,L,L,L,L] (Bg a0 x8 v9 x19 (vc (.undef)) (vc (.own 90001)) b0 b1 b2 b3 b4 T T T T b9 b10 b11 b12 T T L L L L L [(99999999999,([aI v10.Forecast.Tide.Mean,aL (Y zB v10.Forecast.Tide.Parts),aL (Y X9.row v10.Forecast.Surges),aL (Y X7.row v10.Chart.Points),aL (Y X2.row v10.Chart.Segments),aL (Y X4.row v10.Fleet),aI v10.Regime.Gap,aB v10.Regime.NoMeet]++dm v10.Crew.row++ [aL (Y (rL X0.row) v11),.dat (.clo F_w0 caps_w0),.undef,.own 90001,.own 90002,aI v12,aI v13,aB v14])),(5,(dm x19.row))] [(90000,4,Y X0.row (v15++([x19]:P X0))),(90001,1,Y rI v16),(90002,1,Y rI v17),(5504,4,Y X0.row ([x19]:P X0)),(5952,1,Y rI ([v9]:P U))]):=by
 intro f
 induction f with
 | zero=>intro b0 b1 b2 b3 b4 b9 b10 b11 b12 h; simp at h
 | succ f ih=>
  intro b0 b1 b2 b3 b4 b9 b10 b11 b12;refine Aj ⟨?_,?_,?_,?_,?_,?_,?_,?_,?_,?_,?_,?_,?_,?_,?_,?_,?_,?_,?_,?_,?_,?_,⟨⟩⟩<;>try first | (intro h; cases h; done) | (intro _ hw; simp at hw; done) | (intro h0 hw; obtain rfl:=hz h0 rfl; (try obtain rfl:=hq hw 2 rfl rfl); (try obtain rfl:=hq hw 3 rfl rfl); (try obtain rfl:=hq hw 9 rfl rfl); (try obtain rfl:=hq hw 10 rfl rfl); (try obtain rfl:=hq hw 11 rfl rfl); refine np ?_; simp only[Bg,A6,A7,A2,C,E,F,G,H,J]; exact ih _ _ _ _ _ _ _ _ _)
  ·intro h0 hw;obtain rfl:=hq hw 12 rfl rfl;refine np ?_;try simp only[h23,Bg,A6,A7,A2,C,E,F,G,H,J]
   exact A3s F_w0 caps_w0 a0 x8 v9 v10 v11 v12 v13 v14 v15 v16 v17 x19 h22 h23 _ b0 b1 b2 b3 b4 b9 b10 b11 L L
theorem A3t(F_w0:FuncId)(caps_w0:P D)(a0:Xe)(x8:P X0)(v9)(v10:X6)(v11)(v12)(v13)(v14)(v15:P X0)(v16:P U)(v17)(x19)(h22:(A3 v15.length ([x19]:P X0).length 48)=T)(h23:(A3 v16.length ([v9]:P U).length 8)=T):∀(f:W) (b0 b1:V) (b2 b3:V) (b4 b9:V) (b10 b11:V) (b12 b13:V),Ae Z G5 (Eh F_w0 caps_w0 a0 x8 v9 v10 v11 v12 v13 v14 v15 v16 v17 x19) f [b0,b1,b2,b3,b4,T,T,T,T,b9,b10,b11,b12,b13,L,L,L,L,L,L,L,L] (Bg a0 x8 v9 x19 (vc (.undef)) (vc (.own 90001)) b0 b1 b2 b3 b4 T T T T b9 b10 b11 b12 b13 L L L L L L [(99999999999,([aI v10.Forecast.Tide.Mean,aL (Y zB v10.Forecast.Tide.Parts),aL (Y X9.row v10.Forecast.Surges),aL (Y X7.row v10.Chart.Points),aL (Y X2.row v10.Chart.Segments),aL (Y X4.row v10.Fleet),aI v10.Regime.Gap,aB v10.Regime.NoMeet]++dm v10.Crew.row++ [aL (Y (rL X0.row) v11),.dat (.clo F_w0 caps_w0),.undef,.own 90001,.own 90002,aI v12,aI v13,aB v14])),(5,(dm x19.row))] [(90000,4,Y X0.row (v15++([x19]:P X0))),(90001,1,Y rI v16),(90002,1,Y rI v17),(5504,4,Y X0.row ([x19]:P X0))]):=by
 intro f
 induction f with
 | zero=>intro b0 b1 b2 b3 b4 b9 b10 b11 b12 b13 h; simp at h
 | succ f ih=>
  intro b0 b1 b2 b3 b4 b9 b10 b11 b12 b13;refine Aj ⟨?_,?_,?_,?_,?_,?_,?_,?_,?_,?_,?_,?_,?_,?_,?_,?_,?_,?_,?_,?_,?_,?_,⟨⟩⟩<;>try first | (intro h; cases h; done) | (intro _ hw; simp at hw; done) | (intro h0 hw; obtain rfl:=hz h0 rfl; (try obtain rfl:=hq hw 2 rfl rfl); (try obtain rfl:=hq hw 3 rfl rfl); (try obtain rfl:=hq hw 9 rfl rfl); (try obtain rfl:=hq hw 10 rfl rfl); (try obtain rfl:=hq hw 11 rfl rfl); refine np ?_; simp only[Bg,A6,A7,A2,C,E,F,G,H,J]; exact ih _ _ _ _ _ _ _ _ _ _)
  ·intro h0 hw;obtain rfl:=hq hw 13 rfl rfl;refine np ?_;try simp only[Bg,A6,A7,A2,C,E,F,G,H,J]
   refine At (es:=Y rI ([v9]:P U)) X (by simp only[St.fresh,zI,zJ,Ak]; simp[AV.cells,V1.cells,AC.uses]) ?_;try simp only[A2,C,E,F,G,H,J]
   exact aU F_w0 caps_w0 a0 x8 v9 v10 v11 v12 v13 v14 v15 v16 v17 x19 h22 h23 _ b0 b1 b2 b3 b4 b9 b10 b11 b12
theorem aV(F_w0:FuncId)(caps_w0:P D)(a0:Xe)(x8:P X0)(v9)(v10:X6)(v11)(v12)(v13)(v14)(v15:P X0)(v16:P U)(v17)(x19)(h22:(A3 v15.length ([x19]:P X0).length 48)=T)(h23:(A3 v16.length ([v9]:P U).length 8)=T):∀(f:W) (b0 b1:V) (b2 b3:V) (b4 b5:V) (b9 b10:V) (b11 b12:V),Ae Z G5 (Eh F_w0 caps_w0 a0 x8 v9 v10 v11 v12 v13 v14 v15 v16 v17 x19) f [b0,b1,b2,b3,b4,b5,T,T,L,b9,b10,b11,b12,T,T,L,L,L,L,L,L,L] (Bg a0 x8 v9 x19 (vc (.own 90000)) (vc (.own 90001)) b0 b1 b2 b3 b4 b5 T T L b9 b10 b11 b12 T T L L L L L [(99999999999,([aI v10.Forecast.Tide.Mean,aL (Y zB v10.Forecast.Tide.Parts),aL (Y X9.row v10.Forecast.Surges),aL (Y X7.row v10.Chart.Points),aL (Y X2.row v10.Chart.Segments),aL (Y X4.row v10.Fleet),aI v10.Regime.Gap,aB v10.Regime.NoMeet]++dm v10.Crew.row++ [aL (Y (rL X0.row) v11),.dat (.clo F_w0 caps_w0),.own 90000,.own 90001,.own 90002,aI v12,aI v13,aB v14])),(5,(dm x19.row))] [(90000,4,Y X0.row v15),(90001,1,Y rI v16),(90002,1,Y rI v17),(5504,4,Y X0.row ([x19]:P X0)),(5952,1,Y rI ([v9]:P U))]):=by
 intro f
 induction f with
 | zero=>intro b0 b1 b2 b3 b4 b5 b9 b10 b11 b12 h; simp at h
 | succ f ih=>
  intro b0 b1 b2 b3 b4 b5 b9 b10 b11 b12;refine Aj ⟨?_,?_,?_,?_,?_,?_,?_,?_,?_,?_,?_,?_,?_,?_,?_,?_,?_,?_,?_,?_,?_,?_,⟨⟩⟩<;>try first | (intro h; cases h; done) | (intro _ hw; simp at hw; done) | (intro h0 hw; obtain rfl:=hz h0 rfl; (try obtain rfl:=hq hw 2 rfl rfl); (try obtain rfl:=hq hw 3 rfl rfl); (try obtain rfl:=hq hw 4 rfl rfl); (try obtain rfl:=hq hw 9 rfl rfl); (try obtain rfl:=hq hw 10 rfl rfl); (try obtain rfl:=hq hw 11 rfl rfl); refine np ?_; simp only[Bg,A6,A7,A2,C,E,F,G,H,J]; exact ih _ _ _ _ _ _ _ _ _ _)
  ·intro h0 hw;obtain rfl:=hq hw 5 rfl rfl;refine np ?_;try simp only[h22,Bg,A6,A7,A2,C,E,F,G,H,J]
   exact aU F_w0 caps_w0 a0 x8 v9 v10 v11 v12 v13 v14 v15 v16 v17 x19 h22 h23 _ b0 b1 b2 b3 b4 b9 b10 b11 b12
theorem A3u(F_w0:FuncId)(caps_w0:P D)(a0:Xe)(x8:P X0)(v9)(v10:X6)(v11)(v12)(v13)(v14)(v15:P X0)(v16:P U)(v17)(x19)(h22:(A3 v15.length ([x19]:P X0).length 48)=T)(h23:(A3 v16.length ([v9]:P U).length 8)=T):∀(f:W) (b0 b1:V) (b2 b3:V) (b4 b5:V) (b9 b10:V) (b11 b12 b13:V),Ae Z G5 (Eh F_w0 caps_w0 a0 x8 v9 v10 v11 v12 v13 v14 v15 v16 v17 x19) f [b0,b1,b2,b3,b4,b5,T,T,L,b9,b10,b11,b12,b13,L,L,L,L,L,L,L,L] (Bg a0 x8 v9 x19 (vc (.own 90000)) (vc (.own 90001)) b0 b1 b2 b3 b4 b5 T T L b9 b10 b11 b12 b13 L L L L L L [(99999999999,([aI v10.Forecast.Tide.Mean,aL (Y zB v10.Forecast.Tide.Parts),aL (Y X9.row v10.Forecast.Surges),aL (Y X7.row v10.Chart.Points),aL (Y X2.row v10.Chart.Segments),aL (Y X4.row v10.Fleet),aI v10.Regime.Gap,aB v10.Regime.NoMeet]++dm v10.Crew.row++ [aL (Y (rL X0.row) v11),.dat (.clo F_w0 caps_w0),.own 90000,.own 90001,.own 90002,aI v12,aI v13,aB v14])),(5,(dm x19.row))] [(90000,4,Y X0.row v15),(90001,1,Y rI v16),(90002,1,Y rI v17),(5504,4,Y X0.row ([x19]:P X0))]):=by
 intro f
 induction f with
 | zero=>intro b0 b1 b2 b3 b4 b5 b9 b10 b11 b12 b13 h; simp at h
 | succ f ih=>
  intro b0 b1 b2 b3 b4 b5 b9 b10 b11 b12 b13;refine Aj ⟨?_,?_,?_,?_,?_,?_,?_,?_,?_,?_,?_,?_,?_,?_,?_,?_,?_,?_,?_,?_,?_,?_,⟨⟩⟩<;>try first | (intro h; cases h; done) | (intro _ hw; simp at hw; done) | (intro h0 hw; obtain rfl:=hz h0 rfl; (try obtain rfl:=hq hw 2 rfl rfl); (try obtain rfl:=hq hw 3 rfl rfl); (try obtain rfl:=hq hw 4 rfl rfl); (try obtain rfl:=hq hw 9 rfl rfl); (try obtain rfl:=hq hw 10 rfl rfl); (try obtain rfl:=hq hw 11 rfl rfl); refine np ?_; simp only[Bg,A6,A7,A2,C,E,F,G,H,J]; exact ih _ _ _ _ _ _ _ _ _ _ _)
  ·intro h0 hw;obtain rfl:=hq hw 5 rfl rfl;refine np ?_;try simp only[h22,Bg,A6,A7,A2,C,E,F,G,H,J]
   exact A3t F_w0 caps_w0 a0 x8 v9 v10 v11 v12 v13 v14 v15 v16 v17 x19 h22 h23 _ b0 b1 b2 b3 b4 b9 b10 b11 b12 b13
  ·intro h0 hw;obtain rfl:=hq hw 13 rfl rfl;refine np ?_;try simp only[Bg,A6,A7,A2,C,E,F,G,H,J]
   refine At (es:=Y rI ([v9]:P U)) X (by simp only[St.fresh,zI,zJ,Ak]; simp[AV.cells,V1.cells,AC.uses]) ?_;try simp only[A2,C,E,F,G,H,J]
   exact aV F_w0 caps_w0 a0 x8 v9 v10 v11 v12 v13 v14 v15 v16 v17 x19 h22 h23 _ b0 b1 b2 b3 b4 b5 b9 b10 b11 b12
theorem A3v(F_w0:FuncId)(caps_w0:P D)(a0:Xe)(x8:P X0)(v9)(v10:X6)(v11)(v12)(v13)(v14)(v15:P X0)(v16:P U)(v17)(x19)(h22:(A3 v15.length ([x19]:P X0).length 48)=T)(h23:(A3 v16.length ([v9]:P U).length 8)=T):∀(f:W) (b0 b1:V) (b2 b3:V) (b4 b5:V) (b6 b9:V) (b10 b11 b12:V),Ae Z G5 (Eh F_w0 caps_w0 a0 x8 v9 v10 v11 v12 v13 v14 v15 v16 v17 x19) f [b0,b1,b2,b3,b4,b5,b6,L,L,b9,b10,b11,b12,T,T,L,L,L,L,L,L,L] (Bg a0 x8 v9 x19 (vc (.own 90000)) (vc (.own 90001)) b0 b1 b2 b3 b4 b5 b6 L L b9 b10 b11 b12 T T L L L L L [(99999999999,([aI v10.Forecast.Tide.Mean,aL (Y zB v10.Forecast.Tide.Parts),aL (Y X9.row v10.Forecast.Surges),aL (Y X7.row v10.Chart.Points),aL (Y X2.row v10.Chart.Segments),aL (Y X4.row v10.Fleet),aI v10.Regime.Gap,aB v10.Regime.NoMeet]++dm v10.Crew.row++ [aL (Y (rL X0.row) v11),.dat (.clo F_w0 caps_w0),.own 90000,.own 90001,.own 90002,aI v12,aI v13,aB v14])),(5,(dm x19.row))] [(90000,4,Y X0.row v15),(90001,1,Y rI v16),(90002,1,Y rI v17),(5952,1,Y rI ([v9]:P U))]):=by
 intro f
 induction f with
 | zero=>intro b0 b1 b2 b3 b4 b5 b6 b9 b10 b11 b12 h; simp at h
 | succ f ih=>
  intro b0 b1 b2 b3 b4 b5 b6 b9 b10 b11 b12;refine Aj ⟨?_,?_,?_,?_,?_,?_,?_,?_,?_,?_,?_,?_,?_,?_,?_,?_,?_,?_,?_,?_,?_,?_,⟨⟩⟩<;>try first | (intro h; cases h; done) | (intro _ hw; simp at hw; done) | (intro h0 hw; obtain rfl:=hz h0 rfl; (try obtain rfl:=hq hw 2 rfl rfl); (try obtain rfl:=hq hw 3 rfl rfl); (try obtain rfl:=hq hw 4 rfl rfl); (try obtain rfl:=hq hw 9 rfl rfl); (try obtain rfl:=hq hw 10 rfl rfl); (try obtain rfl:=hq hw 11 rfl rfl); refine np ?_; simp only[Bg,A6,A7,A2,C,E,F,G,H,J]; exact ih _ _ _ _ _ _ _ _ _ _ _)
  ·intro h0 hw;obtain rfl:=hq hw 6 rfl rfl;refine⟨[],[(O,.keep [0,3,4,5,61,62,63,79,80,81,82,83,84,85,86,87,88,89,90,91,92,93,94,95,96,97,98] [99999999999,5] [90000,90001,90002,5504,5952])],X,X,?_⟩;try simp only[Bg,A6,A7,zH,zG,A2,C,E,F,G,H,J]
   refine At (es:=Y X0.row ([x19]:P X0)) X (by simp only[St.fresh,zI,zJ,Ak]; simp[AV.cells,V1.cells,AC.uses]) ?_;try simp only[A2,C,E,F,G,H,J]
   exact aV F_w0 caps_w0 a0 x8 v9 v10 v11 v12 v13 v14 v15 v16 v17 x19 h22 h23 _ b0 b1 b2 b3 b4 b5 b9 b10 b11 b12
theorem A3w(F_w0:FuncId)(caps_w0:P D)(a0:Xe)(x8:P X0)(v9)(v10:X6)(v11)(v12)(v13)(v14)(v15:P X0)(v16:P U)(v17)(x19)(h22:(A3 v15.length ([x19]:P X0).length 48)=T)(h23:(A3 v16.length ([v9]:P U).length 8)=T):∀(f:W) (b0 b1:V) (b2 b3:V) (b4 b5:V) (b6 b9:V) (b10 b11:V) (b12 b13:V),Ae Z G5 (Eh F_w0 caps_w0 a0 x8 v9 v10 v11 v12 v13 v14 v15 v16 v17 x19) f [b0,b1,b2,b3,b4,b5,b6,L,L,b9,b10,b11,b12,b13,L,L,L,L,L,L,L,L] (Bg a0 x8 v9 x19 (vc (.own 90000)) (vc (.own 90001)) b0 b1 b2 b3 b4 b5 b6 L L b9 b10 b11 b12 b13 L L L L L L [(99999999999,([aI v10.Forecast.Tide.Mean,aL (Y zB v10.Forecast.Tide.Parts),aL (Y X9.row v10.Forecast.Surges),aL (Y X7.row v10.Chart.Points),aL (Y X2.row v10.Chart.Segments),aL (Y X4.row v10.Fleet),aI v10.Regime.Gap,aB v10.Regime.NoMeet]++dm v10.Crew.row++ [aL (Y (rL X0.row) v11),.dat (.clo F_w0 caps_w0),.own 90000,.own 90001,.own 90002,aI v12,aI v13,aB v14])),(5,(dm x19.row))] [(90000,4,Y X0.row v15),(90001,1,Y rI v16),(90002,1,Y rI v17)]):=by
 intro f
 induction f with
 | zero=>intro b0 b1 b2 b3 b4 b5 b6 b9 b10 b11 b12 b13 h; simp at h
 | succ f ih=>
  intro b0 b1 b2 b3 b4 b5 b6 b9 b10 b11 b12 b13;refine Aj ⟨?_,?_,?_,?_,?_,?_,?_,?_,?_,?_,?_,?_,?_,?_,?_,?_,?_,?_,?_,?_,?_,?_,⟨⟩⟩<;>try first | (intro _ hw; simp at hw; done) | (intro h0 hw; obtain rfl:=hz h0 rfl; (try obtain rfl:=hq hw 2 rfl rfl); (try obtain rfl:=hq hw 3 rfl rfl); (try obtain rfl:=hq hw 4 rfl rfl); (try obtain rfl:=hq hw 9 rfl rfl); (try obtain rfl:=hq hw 10 rfl rfl); (try obtain rfl:=hq hw 11 rfl rfl); refine np ?_; simp only[Bg,A6,A7,A2,C,E,F,G,H,J]; exact ih _ _ _ _ _ _ _ _ _ _ _ _)
  ·intro h0 hw;obtain rfl:=hq hw 6 rfl rfl;refine np ?_;try simp only[Bg,A6,A7,A2,C,E,F,G,H,J]
   refine At (es:=Y X0.row ([x19]:P X0)) X (by simp only[St.fresh,zI,zJ,Ak]; simp[AV.cells,V1.cells,AC.uses]) ?_;try simp only[A2,C,E,F,G,H,J]
   exact A3u F_w0 caps_w0 a0 x8 v9 v10 v11 v12 v13 v14 v15 v16 v17 x19 h22 h23 _ b0 b1 b2 b3 b4 b5 b9 b10 b11 b12 b13
  ·intro h0 hw;obtain rfl:=hq hw 13 rfl rfl;refine np ?_;try simp only[Bg,A6,A7,A2,C,E,F,G,H,J]
   refine At (es:=Y rI ([v9]:P U)) X (by simp only[St.fresh,zI,zJ,Ak]; simp[AV.cells,V1.cells,AC.uses]) ?_;try simp only[A2,C,E,F,G,H,J]
   exact A3v F_w0 caps_w0 a0 x8 v9 v10 v11 v12 v13 v14 v15 v16 v17 x19 h22 h23 _ b0 b1 b2 b3 b4 b5 b6 b9 b10 b11 b12
abbrev BH(a0:Xe)(x8:P X0)(v9:U)(wo5_ wo11_:AV)(c0_ c1_:V)(c2_ c3_:V)(c4_ c5_:V)(c6_ c7_:V)(c8_ c9_:V)(c10_ c11_:V)(c12_ c13_:V)(c14_ c15_:V)(c17_ c18_:V)(bx_:P (W × P AC))(rs_:Rows):St:=⟨[(0,vc (.pb 99999999999 0)),(3,vc (aI (a0.plan.length:U))),(61,vc (aL (Y X0.row x8))),(62,vc (aI (x8.length:U))),(63,vc (aI v9)),(101,bif c0_ then vc (.pb 99999999999 0) else .undef),(102,bif c1_ then vc (.pb 99999999999 0) else .undef),(103,bif c2_ then vc (.pb 99999999999 0) else .undef),(104,bif c3_ then vc (.pb 99999999999 0) else .undef),(105,bif c4_ then vc (.pb 99999999999 14) else .undef),(106,bif c5_ then wo5_ else .undef),(107,bif c6_ then vc (aI (a0.plan.length:U)) else .undef),(108,bif c7_ then vc (.own 90000) else .undef),(109,bif c8_ then vc (.pb 99999999999 0) else .undef),(110,bif c9_ then vc (.pb 99999999999 0) else .undef),(111,bif c10_ then vc (.pb 99999999999 15) else .undef),(112,bif c11_ then wo11_ else .undef),(113,bif c12_ then vc (aI (a0.plan.length:U)) else .undef),(114,bif c13_ then vc (.own 90001) else .undef),(115,bif c14_ then vc (.pb 99999999999 0) else .undef),(116,bif c15_ then vc (.pb 99999999999 14) else .undef),(117,bif c17_ then vc (.pb 99999999999 0) else .undef),(118,bif c18_ then vc (.pb 99999999999 15) else .undef)],bx_,rs_⟩
abbrev G3(F_w0:FuncId)(caps_w0:P D)(a0:Xe)(x8:P X0)(v9:U)(r24:Xe)(p25 p26:W × W):St:=(BH a0 x8 v9 (vc (.undef)) (vc (.undef)) T T T T T T T T T T T T T T T T T T [(99999999999,([aI r24.h.Forecast.Tide.Mean,aL (Y zB r24.h.Forecast.Tide.Parts),aL (Y X9.row r24.h.Forecast.Surges),aL (Y X7.row r24.h.Chart.Points),aL (Y X2.row r24.h.Chart.Segments),aL (Y X4.row r24.h.Fleet),aI r24.h.Regime.Gap,aB r24.h.Regime.NoMeet]++dm r24.h.Crew.row++ [aL (Y (rL X0.row) r24.choices),.dat (.clo F_w0 caps_w0),.own 90000,.own 90001,.own 90002,aI r24.least.i0,aI r24.least.i1,aB r24.found]))] [(90000,4,Y X0.row (r24.plan.take p25.2)),(90001,1,Y rI (r24.choice.take p26.2)),(90002,1,Y rI r24.best)])
theorem A3x(F_w0:FuncId)(caps_w0:P D)(a0:Xe)(x8:P X0)(v9:U)(r24:Xe)(p25)(p26)(h25:bnd (r24.plan.length:U) (a0.plan.length:U) 0 r24.plan.length=N p25)(h26:bnd (r24.choice.length:U) (a0.plan.length:U) 0 r24.choice.length=N p26):∀(f:W) (b17:V),Ae Z Jr (G3 F_w0 caps_w0 a0 x8 v9 r24 p25 p26) f [T,T,T,T,T,T,T,T,T,T,T,T,T,T,T,T,T,b17,T,T] (BH a0 x8 v9 (vc (.undef)) (vc (.undef)) T T T T T T T T T T T T T T T T b17 T [(99999999999,([aI r24.h.Forecast.Tide.Mean,aL (Y zB r24.h.Forecast.Tide.Parts),aL (Y X9.row r24.h.Forecast.Surges),aL (Y X7.row r24.h.Chart.Points),aL (Y X2.row r24.h.Chart.Segments),aL (Y X4.row r24.h.Fleet),aI r24.h.Regime.Gap,aB r24.h.Regime.NoMeet]++dm r24.h.Crew.row++ [aL (Y (rL X0.row) r24.choices),.dat (.clo F_w0 caps_w0),.own 90000,.own 90001,.own 90002,aI r24.least.i0,aI r24.least.i1,aB r24.found]))] [(90000,4,Y X0.row (r24.plan.take p25.2)),(90001,1,Y rI (r24.choice.take p26.2)),(90002,1,Y rI r24.best)]):=by
 intro f
 induction f with
 | zero=>
  intro b17 h;obtain rfl:b17=T:=zF.1 h b17 (by simp);rfl
 | succ f ih=>
  intro b17;refine Aj ⟨?_,?_,?_,?_,?_,?_,?_,?_,?_,?_,?_,?_,?_,?_,?_,?_,?_,?_,?_,?_,⟨⟩⟩<;>try first | (intro h; cases h; done) | (intro h0 hw; obtain rfl:=hz h0 rfl; refine np ?_; simp only[BH,A6,A7,A2,C,E,F,G,H,J]; exact ih _)
theorem aW(F_w0:FuncId)(caps_w0:P D)(a0:Xe)(x8:P X0)(v9:U)(r24:Xe)(p25)(p26)(h25:bnd (r24.plan.length:U) (a0.plan.length:U) 0 r24.plan.length=N p25)(h26:bnd (r24.choice.length:U) (a0.plan.length:U) 0 r24.choice.length=N p26):∀(f:W) (b1 b8:V) (b9 b10:V) (b14 b17 b18:V),Ae Z Jr (G3 F_w0 caps_w0 a0 x8 v9 r24 p25 p26) f [T,b1,T,T,T,T,T,T,b8,b9,b10,T,T,T,b14,T,T,b17,b18,L] (BH a0 x8 v9 (vc (.undef)) (vc (.undef)) T b1 T T T T T T b8 b9 b10 T T T b14 T b17 b18 [(99999999999,([aI r24.h.Forecast.Tide.Mean,aL (Y zB r24.h.Forecast.Tide.Parts),aL (Y X9.row r24.h.Forecast.Surges),aL (Y X7.row r24.h.Chart.Points),aL (Y X2.row r24.h.Chart.Segments),aL (Y X4.row r24.h.Fleet),aI r24.h.Regime.Gap,aB r24.h.Regime.NoMeet]++dm r24.h.Crew.row++ [aL (Y (rL X0.row) r24.choices),.dat (.clo F_w0 caps_w0),.own 90000,.undef,.own 90002,aI r24.least.i0,aI r24.least.i1,aB r24.found]))] [(90000,4,Y X0.row (r24.plan.take p25.2)),(90001,1,Y rI (r24.choice.take p26.2)),(90002,1,Y rI r24.best)]):=by
 intro f
 induction f with
 | zero=>intro b1 b8 b9 b10 b14 b17 b18 h; simp at h
 | succ f ih=>
  intro b1 b8 b9 b10 b14 b17 b18;refine Aj ⟨?_,?_,?_,?_,?_,?_,?_,?_,?_,?_,?_,?_,?_,?_,?_,?_,?_,?_,?_,?_,⟨⟩⟩<;>try first | (intro h; cases h; done) | (intro h0 hw; obtain rfl:=hz h0 rfl; (try obtain rfl:=hq hw 1 rfl rfl); (try obtain rfl:=hq hw 8 rfl rfl); (try obtain rfl:=hq hw 9 rfl rfl); (try obtain rfl:=hq hw 10 rfl rfl); (try obtain rfl:=hq hw 14 rfl rfl); (try obtain rfl:=hq hw 17 rfl rfl); refine np ?_; simp only[BH,A6,A7,A2,C,E,F,G,H,J]; exact ih _ _ _ _ _ _ _)
  ·intro h0 hw;obtain rfl:=hq hw 1 rfl rfl;obtain rfl:=hq hw 8 rfl rfl;obtain rfl:=hq hw 9 rfl rfl;obtain rfl:=hq hw 10 rfl rfl;obtain rfl:=hq hw 14 rfl rfl;obtain rfl:=hq hw 18 rfl rfl;refine np ?_;try simp only[BH,A6,A7,A2,C,E,F,G,H,J]
   exact A3x F_w0 caps_w0 a0 x8 v9 r24 p25 p26 h25 h26 _ b17
theorem aX(F_w0:FuncId)(caps_w0:P D)(a0:Xe)(x8:P X0)(v9:U)(r24:Xe)(p25)(p26)(h25:bnd (r24.plan.length:U) (a0.plan.length:U) 0 r24.plan.length=N p25)(h26:bnd (r24.choice.length:U) (a0.plan.length:U) 0 r24.choice.length=N p26):∀(f:W) (b0 b1:V) (b2 b3:V) (b4 b8:V) (b9 b10:V) (b14 b15:V),Ae Z Jr (G3 F_w0 caps_w0 a0 x8 v9 r24 p25 p26) f [b0,b1,b2,b3,b4,T,T,T,b8,b9,b10,T,T,T,b14,b15,L,L,L,L] (BH a0 x8 v9 (vc (.undef)) (vc (.undef)) b0 b1 b2 b3 b4 T T T b8 b9 b10 T T T b14 b15 L L [(99999999999,([aI r24.h.Forecast.Tide.Mean,aL (Y zB r24.h.Forecast.Tide.Parts),aL (Y X9.row r24.h.Forecast.Surges),aL (Y X7.row r24.h.Chart.Points),aL (Y X2.row r24.h.Chart.Segments),aL (Y X4.row r24.h.Fleet),aI r24.h.Regime.Gap,aB r24.h.Regime.NoMeet]++dm r24.h.Crew.row++ [aL (Y (rL X0.row) r24.choices),.dat (.clo F_w0 caps_w0),.undef,.undef,.own 90002,aI r24.least.i0,aI r24.least.i1,aB r24.found]))] [(90000,4,Y X0.row (r24.plan.take p25.2)),(90001,1,Y rI (r24.choice.take p26.2)),(90002,1,Y rI r24.best)]):=by
 intro f
 induction f with
 | zero=>intro b0 b1 b2 b3 b4 b8 b9 b10 b14 b15 h; simp at h
 | succ f ih=>
  intro b0 b1 b2 b3 b4 b8 b9 b10 b14 b15;refine Aj ⟨?_,?_,?_,?_,?_,?_,?_,?_,?_,?_,?_,?_,?_,?_,?_,?_,?_,?_,?_,?_,⟨⟩⟩<;>try first | (intro h; cases h; done) | (intro _ hw; simp at hw; done) | (intro h0 hw; obtain rfl:=hz h0 rfl; (try obtain rfl:=hq hw 0 rfl rfl); (try obtain rfl:=hq hw 2 rfl rfl); (try obtain rfl:=hq hw 3 rfl rfl); (try obtain rfl:=hq hw 4 rfl rfl); (try obtain rfl:=hq hw 8 rfl rfl); (try obtain rfl:=hq hw 9 rfl rfl); (try obtain rfl:=hq hw 14 rfl rfl); refine np ?_; simp only[BH,A6,A7,A2,C,E,F,G,H,J]; exact ih _ _ _ _ _ _ _ _ _ _)
  ·intro h0 hw;obtain rfl:=hq hw 0 rfl rfl;obtain rfl:=hq hw 2 rfl rfl;obtain rfl:=hq hw 3 rfl rfl;obtain rfl:=hq hw 4 rfl rfl;obtain rfl:=hq hw 15 rfl rfl;refine np ?_;try simp only[BH,A6,A7,A2,C,E,F,G,H,J]
   exact aW F_w0 caps_w0 a0 x8 v9 r24 p25 p26 h25 h26 _ b1 b8 b9 b10 b14 L L
theorem A3y(F_w0:FuncId)(caps_w0:P D)(a0:Xe)(x8:P X0)(v9:U)(r24:Xe)(p25)(p26)(h25:bnd (r24.plan.length:U) (a0.plan.length:U) 0 r24.plan.length=N p25)(h26:bnd (r24.choice.length:U) (a0.plan.length:U) 0 r24.choice.length=N p26):∀(f:W) (b1 b8:V) (b9 b10:V) (b12 b14:V),Ae Z Jr (G3 F_w0 caps_w0 a0 x8 v9 r24 p25 p26) f [T,b1,T,T,T,T,T,T,b8,b9,b10,T,b12,L,b14,T,T,L,L,L] (BH a0 x8 v9 (vc (.undef)) (vc (.own 90001)) T b1 T T T T T T b8 b9 b10 T b12 L b14 T L L [(99999999999,([aI r24.h.Forecast.Tide.Mean,aL (Y zB r24.h.Forecast.Tide.Parts),aL (Y X9.row r24.h.Forecast.Surges),aL (Y X7.row r24.h.Chart.Points),aL (Y X2.row r24.h.Chart.Segments),aL (Y X4.row r24.h.Fleet),aI r24.h.Regime.Gap,aB r24.h.Regime.NoMeet]++dm r24.h.Crew.row++ [aL (Y (rL X0.row) r24.choices),.dat (.clo F_w0 caps_w0),.own 90000,.own 90001,.own 90002,aI r24.least.i0,aI r24.least.i1,aB r24.found]))] [(90000,4,Y X0.row (r24.plan.take p25.2)),(90001,1,Y rI r24.choice),(90002,1,Y rI r24.best)]):=by
 intro f
 induction f with
 | zero=>intro b1 b8 b9 b10 b12 b14 h; simp at h
 | succ f ih=>
  intro b1 b8 b9 b10 b12 b14;refine Aj ⟨?_,?_,?_,?_,?_,?_,?_,?_,?_,?_,?_,?_,?_,?_,?_,?_,?_,?_,?_,?_,⟨⟩⟩<;>try first | (intro h; cases h; done) | (intro _ hw; simp at hw; done) | (intro h0 hw; obtain rfl:=hz h0 rfl; (try obtain rfl:=hq hw 8 rfl rfl); (try obtain rfl:=hq hw 9 rfl rfl); refine np ?_; simp only[BH,A6,A7,A2,C,E,F,G,H,J]; exact ih _ _ _ _ _ _)
  ·intro h0 hw;obtain rfl:=hq hw 12 rfl rfl;refine⟨[],[(O,.cut 114)],X,X,?_⟩;try simp only[BH,A6,A7,zH,zG,A2,C,E,F,G,H,J]
   refine IV X X h26 (by rfl) ?_;try simp only[A2,C,E,F,G,H,J]
   exact aW F_w0 caps_w0 a0 x8 v9 r24 p25 p26 h25 h26 _ b1 b8 b9 b10 b14 L L
theorem A3z(F_w0:FuncId)(caps_w0:P D)(a0:Xe)(x8:P X0)(v9:U)(r24:Xe)(p25)(p26)(h25:bnd (r24.plan.length:U) (a0.plan.length:U) 0 r24.plan.length=N p25)(h26:bnd (r24.choice.length:U) (a0.plan.length:U) 0 r24.choice.length=N p26):∀(f:W) (b0 b1:V) (b2 b3:V) (b4 b8:V) (b9 b10:V) (b11 b12:V) (b14 b15:V),Ae Z Jr (G3 F_w0 caps_w0 a0 x8 v9 r24 p25 p26) f [b0,b1,b2,b3,b4,T,T,T,b8,b9,b10,b11,b12,L,b14,b15,L,L,L,L] (BH a0 x8 v9 (vc (.undef)) (vc (.own 90001)) b0 b1 b2 b3 b4 T T T b8 b9 b10 b11 b12 L b14 b15 L L [(99999999999,([aI r24.h.Forecast.Tide.Mean,aL (Y zB r24.h.Forecast.Tide.Parts),aL (Y X9.row r24.h.Forecast.Surges),aL (Y X7.row r24.h.Chart.Points),aL (Y X2.row r24.h.Chart.Segments),aL (Y X4.row r24.h.Fleet),aI r24.h.Regime.Gap,aB r24.h.Regime.NoMeet]++dm r24.h.Crew.row++ [aL (Y (rL X0.row) r24.choices),.dat (.clo F_w0 caps_w0),.undef,.own 90001,.own 90002,aI r24.least.i0,aI r24.least.i1,aB r24.found]))] [(90000,4,Y X0.row (r24.plan.take p25.2)),(90001,1,Y rI r24.choice),(90002,1,Y rI r24.best)]):=by
 intro f
 induction f with
 | zero=>intro b0 b1 b2 b3 b4 b8 b9 b10 b11 b12 b14 b15 h; simp at h
 | succ f ih=>
  intro b0 b1 b2 b3 b4 b8 b9 b10 b11 b12 b14 b15;refine Aj ⟨?_,?_,?_,?_,?_,?_,?_,?_,?_,?_,?_,?_,?_,?_,?_,?_,?_,?_,?_,?_,⟨⟩⟩<;>try first | (intro h; cases h; done) | (intro _ hw; simp at hw; done) | (intro h0 hw; obtain rfl:=hz h0 rfl; (try obtain rfl:=hq hw 0 rfl rfl); (try obtain rfl:=hq hw 2 rfl rfl); (try obtain rfl:=hq hw 3 rfl rfl); (try obtain rfl:=hq hw 4 rfl rfl); (try obtain rfl:=hq hw 8 rfl rfl); (try obtain rfl:=hq hw 9 rfl rfl); (try obtain rfl:=hq hw 10 rfl rfl); (try obtain rfl:=hq hw 11 rfl rfl); (try obtain rfl:=hq hw 14 rfl rfl); refine np ?_; simp only[BH,A6,A7,A2,C,E,F,G,H,J]; exact ih _ _ _ _ _ _ _ _ _ _ _ _)
  ·intro h0 hw;obtain rfl:=hq hw 11 rfl rfl;obtain rfl:=hq hw 12 rfl rfl;refine⟨[],[(O,.cut 114)],X,X,?_⟩;try simp only[BH,A6,A7,zH,zG,A2,C,E,F,G,H,J]
   refine IV X X h26 (by rfl) ?_;try simp only[A2,C,E,F,G,H,J]
   exact aX F_w0 caps_w0 a0 x8 v9 r24 p25 p26 h25 h26 _ b0 b1 b2 b3 b4 b8 b9 b10 b14 b15
  ·intro h0 hw;obtain rfl:=hq hw 0 rfl rfl;obtain rfl:=hq hw 2 rfl rfl;obtain rfl:=hq hw 3 rfl rfl;obtain rfl:=hq hw 4 rfl rfl;obtain rfl:=hq hw 11 rfl rfl;obtain rfl:=hq hw 15 rfl rfl;refine np ?_;try simp only[BH,A6,A7,A2,C,E,F,G,H,J]
   exact A3y F_w0 caps_w0 a0 x8 v9 r24 p25 p26 h25 h26 _ b1 b8 b9 b10 b12 b14
theorem A30(F_w0:FuncId)(caps_w0:P D)(a0:Xe)(x8:P X0)(v9:U)(r24:Xe)(p25)(p26)(h25:bnd (r24.plan.length:U) (a0.plan.length:U) 0 r24.plan.length=N p25)(h26:bnd (r24.choice.length:U) (a0.plan.length:U) 0 r24.choice.length=N p26):∀(f:W) (b0 b1:V) (b2 b3:V) (b4 b5:V) (b6 b8:V) (b9 b10:V),Ae Z Jr (G3 F_w0 caps_w0 a0 x8 v9 r24 p25 p26) f [b0,b1,b2,b3,b4,b5,b6,L,b8,b9,b10,T,T,T,L,L,L,L,L,L] (BH a0 x8 v9 (vc (.own 90000)) (vc (.undef)) b0 b1 b2 b3 b4 b5 b6 L b8 b9 b10 T T T L L L L [(99999999999,([aI r24.h.Forecast.Tide.Mean,aL (Y zB r24.h.Forecast.Tide.Parts),aL (Y X9.row r24.h.Forecast.Surges),aL (Y X7.row r24.h.Chart.Points),aL (Y X2.row r24.h.Chart.Segments),aL (Y X4.row r24.h.Fleet),aI r24.h.Regime.Gap,aB r24.h.Regime.NoMeet]++dm r24.h.Crew.row++ [aL (Y (rL X0.row) r24.choices),.dat (.clo F_w0 caps_w0),.own 90000,.undef,.own 90002,aI r24.least.i0,aI r24.least.i1,aB r24.found]))] [(90000,4,Y X0.row r24.plan),(90001,1,Y rI (r24.choice.take p26.2)),(90002,1,Y rI r24.best)]):=by
 intro f
 induction f with
 | zero=>intro b0 b1 b2 b3 b4 b5 b6 b8 b9 b10 h; simp at h
 | succ f ih=>
  intro b0 b1 b2 b3 b4 b5 b6 b8 b9 b10;refine Aj ⟨?_,?_,?_,?_,?_,?_,?_,?_,?_,?_,?_,?_,?_,?_,?_,?_,?_,?_,?_,?_,⟨⟩⟩<;>try first | (intro h; cases h; done) | (intro _ hw; simp at hw; done) | (intro h0 hw; obtain rfl:=hz h0 rfl; (try obtain rfl:=hq hw 2 rfl rfl); (try obtain rfl:=hq hw 3 rfl rfl); (try obtain rfl:=hq hw 4 rfl rfl); (try obtain rfl:=hq hw 8 rfl rfl); (try obtain rfl:=hq hw 9 rfl rfl); refine np ?_; simp only[BH,A6,A7,A2,C,E,F,G,H,J]; exact ih _ _ _ _ _ _ _ _ _ _)
  ·intro h0 hw;obtain rfl:=hq hw 5 rfl rfl;obtain rfl:=hq hw 6 rfl rfl;refine⟨[],[(O,.cut 108)],X,X,?_⟩;try simp only[BH,A6,A7,zH,zG,A2,C,E,F,G,H,J]
   refine IV X X h25 (by rfl) ?_;try simp only[A2,C,E,F,G,H,J]
   exact aX F_w0 caps_w0 a0 x8 v9 r24 p25 p26 h25 h26 _ b0 b1 b2 b3 b4 b8 b9 b10 L L
theorem A31(F_w0:FuncId)(caps_w0:P D)(a0:Xe)(x8:P X0)(v9:U)(r24:Xe)(p25)(p26)(h25:bnd (r24.plan.length:U) (a0.plan.length:U) 0 r24.plan.length=N p25)(h26:bnd (r24.choice.length:U) (a0.plan.length:U) 0 r24.choice.length=N p26):∀(f:W) (b0 b1:V) (b2 b3:V) (b4 b5:V) (b6 b8:V) (b9 b10:V) (b11 b12:V),Ae Z Jr (G3 F_w0 caps_w0 a0 x8 v9 r24 p25 p26) f [b0,b1,b2,b3,b4,b5,b6,L,b8,b9,b10,b11,b12,L,L,L,L,L,L,L] (BH a0 x8 v9 (vc (.own 90000)) (vc (.own 90001)) b0 b1 b2 b3 b4 b5 b6 L b8 b9 b10 b11 b12 L L L L L [(99999999999,([aI r24.h.Forecast.Tide.Mean,aL (Y zB r24.h.Forecast.Tide.Parts),aL (Y X9.row r24.h.Forecast.Surges),aL (Y X7.row r24.h.Chart.Points),aL (Y X2.row r24.h.Chart.Segments),aL (Y X4.row r24.h.Fleet),aI r24.h.Regime.Gap,aB r24.h.Regime.NoMeet]++dm r24.h.Crew.row++ [aL (Y (rL X0.row) r24.choices),.dat (.clo F_w0 caps_w0),.own 90000,.own 90001,.own 90002,aI r24.least.i0,aI r24.least.i1,aB r24.found]))] [(90000,4,Y X0.row r24.plan),(90001,1,Y rI r24.choice),(90002,1,Y rI r24.best)]):=by
 intro f
 induction f with
 | zero=>intro b0 b1 b2 b3 b4 b5 b6 b8 b9 b10 b11 b12 h; simp at h
 | succ f ih=>
  intro b0 b1 b2 b3 b4 b5 b6 b8 b9 b10 b11 b12;refine Aj ⟨?_,?_,?_,?_,?_,?_,?_,?_,?_,?_,?_,?_,?_,?_,?_,?_,?_,?_,?_,?_,⟨⟩⟩<;>try first | (intro _ hw; simp at hw; done) | (intro h0 hw; obtain rfl:=hz h0 rfl; (try obtain rfl:=hq hw 2 rfl rfl); (try obtain rfl:=hq hw 3 rfl rfl); (try obtain rfl:=hq hw 4 rfl rfl); (try obtain rfl:=hq hw 8 rfl rfl); (try obtain rfl:=hq hw 9 rfl rfl); (try obtain rfl:=hq hw 10 rfl rfl); refine np ?_; simp only[BH,A6,A7,A2,C,E,F,G,H,J]; exact ih _ _ _ _ _ _ _ _ _ _ _ _)
  ·intro h0 hw;obtain rfl:=hq hw 5 rfl rfl;obtain rfl:=hq hw 6 rfl rfl;refine⟨[],[(O,.cut 108)],X,X,?_⟩;try simp only[BH,A6,A7,zH,zG,A2,C,E,F,G,H,J]
   refine IV X X h25 (by rfl) ?_;try simp only[A2,C,E,F,G,H,J]
   exact A3z F_w0 caps_w0 a0 x8 v9 r24 p25 p26 h25 h26 _ b0 b1 b2 b3 b4 b8 b9 b10 b11 b12 L L
  ·intro h0 hw;obtain rfl:=hq hw 11 rfl rfl;obtain rfl:=hq hw 12 rfl rfl;refine⟨[],[(O,.cut 114)],X,X,?_⟩;try simp only[BH,A6,A7,zH,zG,A2,C,E,F,G,H,J]
   refine IV X X h26 (by rfl) ?_;try simp only[A2,C,E,F,G,H,J]
   exact A30 F_w0 caps_w0 a0 x8 v9 r24 p25 p26 h25 h26 _ b0 b1 b2 b3 b4 b5 b6 b8 b9 b10
def cQ:=fun F_w0 caps_w0 (a0:Xe) x8 (k_:U→X6→(P (P X0))→U→U→V→(P X0)→(P U)→(P U)→Q Xe)=>∀{v9 v10 v11 v12 v13 v14 v15 v16 v17} {zr},k_ v9 v10 v11 v12 v13 v14 v15 v16 v17=N zr→Kh Z 66 Q8 21 [0,3,61,62,63] [99999999999] [90000,90001,90002] ⟨[(0,vc (.pb 99999999999 0)),pI 3 (a0.plan.length:U),pL 61 X0.row x8,pI 62 (x8.length:U),pI 63 v9],[(99999999999,([aI v10.Forecast.Tide.Mean,aM zB v10.Forecast.Tide.Parts,aM X9.row v10.Forecast.Surges,aM X7.row v10.Chart.Points,aM X2.row v10.Chart.Segments,aM X4.row v10.Fleet,aI v10.Regime.Gap,aB v10.Regime.NoMeet]++dm v10.Crew.row++ [aM (rL X0.row) v11,.dat (.clo F_w0 caps_w0),.own 90000,.own 90001,.own 90002,aI v12,aI v13,aB v14]))],[(90000,4,Y X0.row v15),(90001,1,Y rI v16),(90002,1,Y rI v17)]⟩ (D3 [] [] (Da F_w0 caps_w0 zr) (Db zr))
def cP:=fun F_w0 caps_w0 (a0:Xe) (r1:Xj) (k_:V→Q Xe)=>∀{v5} {zr},k_ v5=N zr→Kh Z 66 Q8 8 [0,2] [99999999999,2] [90000,90001,90002] ⟨[(0,vc (.pb 99999999999 0)),pB 2],[(99999999999,([aI a0.h.Forecast.Tide.Mean,aM zB a0.h.Forecast.Tide.Parts,aM X9.row a0.h.Forecast.Surges,aM X7.row a0.h.Chart.Points,aM X2.row a0.h.Chart.Segments,aM X4.row a0.h.Fleet,aI a0.h.Regime.Gap,aB a0.h.Regime.NoMeet]++dm a0.h.Crew.row++ [aM (rL X0.row) a0.choices,.dat (.clo F_w0 caps_w0),.own 90000,.own 90001,.own 90002,aI a0.least.i0,aI a0.least.i1,aB v5])),(2,[aI r1.i0,aI r1.i1])],[(90000,4,Y X0.row a0.plan),(90001,1,Y rI a0.choice),(90002,1,Y rI a0.best)]⟩ (D3 [] [] (Da F_w0 caps_w0 zr) (Db zr))
theorem A32{w0:(P X0)→Q Xj}{rec_:Xe→Q Xe}{F_w0 caps_w0}(hF_w0:BV Z F_w0=T)(h_w0:∀z0 zr,w0 z0=N zr→FC Z F_w0 ([.sc (.sl (Y X0.row z0))]++caps_w0.map .sc) [.ag [.v (.int .i64 zr.i0),.v (.int .i64 zr.i1)]])(h_rec:∀(a0:Xe) zr,rec_ a0=N zr→FCz Z 66 [.p] (Da F_w0 caps_w0 a0) (Db a0) (Da F_w0 caps_w0 zr) (Db zr) []){a0 x8}{n:W}:cQ F_w0 caps_w0 a0 x8 (E1 w0 rec_ a0 x8 n):=by
 induction n with
 | zero=>intro _ _ _ _ _ _ _ _ _ r h; cases h
 | succ n ih=>
  intro v9 v10 v11 v12 v13 v14 v15 v16 v17 r h σ hσ S hS
  conv at hS=>rhs; reduce
  try simp only[zC,zA,Ah,UInt8.reduceOfNat] at hS
  subst hS;rw[E1] at h;refine AM (Ay ?_);obtain⟨h18,h⟩|⟨h18,h⟩:=ic h
  ·obtain⟨x19,h19,h⟩:=ob h;try simp only[hσ,h18,h19,C,E,F,G,H,J]
   refine By ?_;try simp only[h18,h19,C,E,F,G,H,J]
   refine An ?_;obtain⟨r20,h20,h⟩:=ob h;try simp only[h18,h19,C,E,F,G,H,J]
   refine GQ (Ac xU h20) (by first | rfl | kernel_rfl) (Ce X) X (uf X) ?_;obtain⟨h21,h⟩|⟨h21,h⟩:=ic h
   ·try simp only[h18,h19,h21,C,E,F,G,H,J]
    obtain⟨h22,h⟩:=AW h;obtain⟨h23,h⟩:=AW h;refine EA (ks:= [0,3,4,5,61,62,63]) (bs:= [99999999999,5]) (rs:= [90000,90001,90002]) (τ:=(Eh F_w0 caps_w0 a0 x8 v9 v10 v11 v12 v13 v14 v15 v16 v17 x19)) X (A3w F_w0 caps_w0 a0 x8 v9 v10 v11 v12 v13 v14 v15 v16 v17 x19 h22 h23 _ L L L L L L L L L L L L) ?_;simp only[Eh,Bg,A6];try simp only[h18,h19,h21,h22,h23,C,E,F,G,H,J]
    refine KR ?_;obtain⟨r24,h24,h⟩:=ob h;try simp only[h18,h19,h21,h22,h23,C,E,F,G,H,J]
    refine FI (h_rec _ _ h24) 99999999999 [90000,90001,90002] rfl X X X (by decide) X X X ?_;try simp only[h18,h19,h21,h22,h23,C,E,F,G,H,J]
    obtain⟨p25,h25,h⟩:=ob h;obtain⟨p26,h26,h⟩:=ob h;refine EA (ks:= [0,3,61,62,63]) (bs:= [99999999999]) (rs:= [90000,90001,90002]) (τ:=(G3 F_w0 caps_w0 a0 x8 v9 r24 p25 p26)) X (A31 F_w0 caps_w0 a0 x8 v9 r24 p25 p26 h25 h26 _ L L L L L L L L L L L L) ?_;simp only[G3,BH,A6];try simp only[h18,h19,h21,h22,h23,C,E,F,G,H,J]
    refine ih h ?_ (by kernel_rfl);try simp only[h18,h19,h21,h22,h23,C,E,F,G,H,J,pL,aM,zD]
   ·try simp only[h18,h19,h21,C,E,F,G,H,J]
    refine ih h ?_ (by kernel_rfl);try simp only[h18,h19,h21,C,E,F,G,H,J,pL,aM,zD]
  ·try simp only[hσ,h18,C,E,F,G,H,J]
   cases h;exact⟨trivial,[90000,90001,90002],by decide,by decide,X,X⟩
theorem aY{w0:(P X0)→Q Xj}{rec_:Xe→Q Xe}{F_w0 caps_w0}(hF_w0:BV Z F_w0=T)(h_w0:∀z0 zr,w0 z0=N zr→FC Z F_w0 ([.sc (.sl (Y X0.row z0))]++caps_w0.map .sc) [.ag [.v (.int .i64 zr.i0),.v (.int .i64 zr.i1)]])(h_rec:∀(a0:Xe) zr,rec_ a0=N zr→FCz Z 66 [.p] (Da F_w0 caps_w0 a0) (Db a0) (Da F_w0 caps_w0 zr) (Db zr) []){a0 r1}:cP F_w0 caps_w0 a0 r1 (HU w0 rec_ a0 r1):=by
 intro v5 r h σ hσ S hS
 conv at hS=>rhs; reduce
 try simp only[zC,zA,Ah,UInt8.reduceOfNat] at hS
 subst hS;refine Ay ?_;unfold HU at h;obtain⟨h6,h⟩|⟨h6,h⟩:=ic h
 ·try simp only[hσ,h6,C,E,F,G,H,J]
  obtain⟨r7,h7,h⟩:=ob h;refine EA (ks:= [0,2]) (bs:= [99999999999,2]) (rs:= [90000,90001,90002]) (τ:=(Jo F_w0 caps_w0 a0 r1 r7)) X (A3o F_w0 caps_w0 a0 r1 v5 r7 h7 _ L L L L L L L L) ?_;simp only[Jo,CT,A6];try simp only[h6,C,E,F,G,H,J]
  cases h;exact⟨trivial,[90000,90001,3008],by decide,by decide,X,X⟩
 ·obtain⟨x8,h8,h⟩:=ob h;try simp only[hσ,h6,h8,C,E,F,G,H,J]
  refine A32 hF_w0 h_w0 h_rec h ?_ (by kernel_rfl);try simp only[h6,h8,C,E,F,G,H,J,pL,aM,zD]
theorem kb:B4 Z 66=N ((BY Z 66 Q8).strip,[],120):=by kernel_rfl
theorem xb(w0:(P X0)→Q Xj)(rec_:Xe→Q Xe)(a0 r:Xe)(F_w0:FuncId)(caps_w0:P D)(hF_w0:BV Z F_w0=T)(h_w0:∀z0 zr,w0 z0=N zr→FC Z F_w0 ([.sc (.sl (Y X0.row z0))]++caps_w0.map .sc) [.ag [.v (.int .i64 zr.i0),.v (.int .i64 zr.i1)]])(h_rec:∀(a0:Xe) zr,rec_ a0=N zr→FCz Z 66 [.p] (Da F_w0 caps_w0 a0) (Db a0) (Da F_w0 caps_w0 zr) (Db zr) [])(h:Mh w0 rec_ a0=N r):FCz Z 66 [.p] (Da F_w0 caps_w0 a0) (Db a0) (Da F_w0 caps_w0 r) (Db r) []:=by
 unfold Mh at h;refine Lq (σ:=⟨[(0,vc (.pb 99999999999 0))],[(99999999999,[aI a0.h.Forecast.Tide.Mean,aL (Y zB a0.h.Forecast.Tide.Parts),aL (Y X9.row a0.h.Forecast.Surges),aL (Y X7.row a0.h.Chart.Points),aL (Y X2.row a0.h.Chart.Segments),aL (Y X4.row a0.h.Fleet),aI a0.h.Regime.Gap,aB a0.h.Regime.NoMeet,aI a0.h.Crew.Tugs,aI a0.h.Crew.Pilots,aI a0.h.Crew.Rest,aL (Y rI a0.h.Crew.Moves),aL (Y (rL X0.row) a0.choices),.dat (.clo F_w0 caps_w0),.own 90000,.own 90001,.own 90002,aI a0.least.i0,aI a0.least.i1,aB a0.found])],[(90000,4,Y X0.row a0.plan),(90001,1,Y rI a0.choice),(90002,1,Y rI a0.best)]⟩) A4 kb X X X X ?_;refine C9 Q8 ?_;intro S hS
 conv at hS=>rhs; reduce
 try simp only[zC,zA,Ah,UInt8.reduceOfNat] at hS
 subst hS;try simp only[C,E,F,G,H,J]
 refine An ?_;obtain⟨r1,h1,h⟩:=ob h;try simp only[C,E,F,G,H,J]
 refine nJ (h_w0 _ _ h1) hF_w0 (by first | rfl | kernel_rfl) (by first | rfl | kernel_rfl) (Ce X) X (uf X) ?_;try simp only[C,E,F,G,H,J]
 refine FJ (m:= .box 2 [aI (0:U),aI (0:U)]) X X (J2 X X) ?_;try simp only[C,E,F,G,H,J]
 refine An ?_;try simp only[C,E,F,G,H,J]
 refine An ?_;obtain⟨h2,h⟩|⟨h2,h⟩:=ic h
 ·obtain⟨r3,h3,h⟩:=ob h;try simp only[h2,C,E,F,G,H,J]
  refine BS (Ac xd h3) ?_;obtain⟨h4,h⟩|⟨h4,h⟩:=ic h
  ·try simp only[h2,h4,C,E,F,G,H,J]
   refine aY hF_w0 h_w0 h_rec h ?_ (by kernel_rfl);try simp only[h2,h4,C,E,F,G,H,J,pL,aM,zD]
  ·try simp only[h2,h4,C,E,F,G,H,J]
   cases h;exact⟨trivial,[90000,90001,90002],by decide,by decide,X,X⟩
 ·try simp only[h2,C,E,F,G,H,J]
  refine aY hF_w0 h_w0 h_rec h ?_ (by kernel_rfl);try simp only[h2,C,E,F,G,H,J,pL,aM,zD]
theorem xc(w0:(P X0)→Q Xj)(F_w0:FuncId)(caps_w0:P D)(hF_w0:BV Z F_w0=T)(h_w0:∀z0 zr,w0 z0=N zr→FC Z F_w0 ([.sc (.sl (Y X0.row z0))]++caps_w0.map .sc) [.ag [.v (.int .i64 zr.i0),.v (.int .i64 zr.i1)]]):∀(n:W) (a0 r:Xe),DD w0 n a0=N r→FCz Z 66 [.p] (Da F_w0 caps_w0 a0) (Db a0) (Da F_w0 caps_w0 r) (Db r) []:=by
 intro n
 induction n with
 | zero=>intro _ r h; cases h
 | succ n ih=>intro a0 r h; rw[DD] at h; exact xb w0 (DD w0 n) a0 r F_w0 caps_w0 hF_w0 h_w0 ih h
theorem xa{w0}{a0}{r}(F_w0:FuncId)(caps_w0:P D)(hF_w0:BV Z F_w0=T)(h_w0:∀z0 zr,w0 z0=N zr→FC Z F_w0 ([.sc (.sl (Y X0.row z0))]++caps_w0.map .sc) [.ag [.v (.int .i64 zr.i0),.v (.int .i64 zr.i1)]])(h:RI w0 a0=N r):FCz Z 66 [.p] (Da F_w0 caps_w0 a0) (Db a0) (Da F_w0 caps_w0 r) (Db r) []:=xc w0 F_w0 caps_w0 hF_w0 h_w0 bigN a0 r h
/- 32:impl_leastPlan -/
def az:P (P W × AItem):= [([],(O,.mv 17 (S 9))),([0],(O,.nilc 18 (S 17))),([1],(O,.faddr 19 (S 18) 16)),([2],(O,.load 20 (S 19) L 1)),([],(O,.mv 21 (S 9))),([4],(O,.nilc 22 (S 21))),([5],(O,.faddr 23 (S 22) 17)),([6],(O,.load 24 (S 23) T 2)),([],(O,.mv 25 (S 9))),([8],(O,.nilc 26 (S 25))),([9],(O,.faddr 27 (S 26) 19)),([10],(O,.load 28 (S 27) L 1)),([3,0,1,2,3],(O,.mv 6 (S 20))),([7,12,0,1,2,3,4,5,6,7,12],(O,.store (S 7) (S 24) 2)),([11,13,0,1,2,3,4,5,6,7,8,9,10,11,12,13],(O,.mv 8 (S 28)))]
def oY:Hw:=([],[(3,5,(O,.ownb 14 14 143232 4)),(3,6,(O,.ownb 14 15 143296 1)),(3,7,(O,.ownb 14 16 143360 1))])
abbrev Jh(r1:Xe)(c0_ c1_:V)(c2_ c3_:V)(c4_ c5_:V)(c6_ c7_:V)(c8_ c9_:V)(c10_ c11_:V)(c12_ c14_:V)(bx_:P (W × P AC))(rs_:Rows):St:=⟨[(7,vc (.pb 7 0)),(9,vc (.pb 14 0)),(17,bif c0_ then vc (.pb 14 0) else .undef),(18,bif c1_ then vc (.pb 14 0) else .undef),(19,bif c2_ then vc (.pb 14 16) else .undef),(20,bif c3_ then vc (.own 143360) else .undef),(21,bif c4_ then vc (.pb 14 0) else .undef),(22,bif c5_ then vc (.pb 14 0) else .undef),(23,bif c6_ then vc (.pb 14 17) else .undef),(24,bif c7_ then va [aI r1.least.i0,aI r1.least.i1] else .undef),(25,bif c8_ then vc (.pb 14 0) else .undef),(26,bif c9_ then vc (.pb 14 0) else .undef),(27,bif c10_ then vc (.pb 14 19) else .undef),(28,bif c11_ then vc (aB r1.found) else .undef),(6,bif c12_ then vc (.own 143360) else .undef),(8,bif c14_ then vc (aB r1.found) else .undef)],bx_,rs_⟩
abbrev QL(F_a2:FuncId)(caps_a2:P D)(r1:Xe):St:=(Jh r1 T T T T T T T T T T T T T T [(7,[aI r1.least.i0,aI r1.least.i1]),(14,([aI r1.h.Forecast.Tide.Mean,aL (Y zB r1.h.Forecast.Tide.Parts),aL (Y X9.row r1.h.Forecast.Surges),aL (Y X7.row r1.h.Chart.Points),aL (Y X2.row r1.h.Chart.Segments),aL (Y X4.row r1.h.Fleet),aI r1.h.Regime.Gap,aB r1.h.Regime.NoMeet]++dm r1.h.Crew.row++ [aL (Y (rL X0.row) r1.choices),.dat (.clo F_a2 caps_a2),.own 143232,.own 143296,.own 143360,aI r1.least.i0,aI r1.least.i1,aB r1.found]))] [(143232,4,Y X0.row r1.plan),(143296,1,Y rI r1.choice),(143360,1,Y rI r1.best)])
theorem A33(F_a2:FuncId)(caps_a2:P D)(r1:Xe):∀(f:W) (b8 b9:V) (b10 b11 b14:V),Ae Z az (QL F_a2 caps_a2 r1) f [T,T,T,T,T,T,T,T,b8,b9,b10,b11,T,T,b14] (Jh r1 T T T T T T T T b8 b9 b10 b11 T b14 [(7,[aI r1.least.i0,aI r1.least.i1]),(14,([aI r1.h.Forecast.Tide.Mean,aL (Y zB r1.h.Forecast.Tide.Parts),aL (Y X9.row r1.h.Forecast.Surges),aL (Y X7.row r1.h.Chart.Points),aL (Y X2.row r1.h.Chart.Segments),aL (Y X4.row r1.h.Fleet),aI r1.h.Regime.Gap,aB r1.h.Regime.NoMeet]++dm r1.h.Crew.row++ [aL (Y (rL X0.row) r1.choices),.dat (.clo F_a2 caps_a2),.own 143232,.own 143296,.own 143360,aI r1.least.i0,aI r1.least.i1,aB r1.found]))] [(143232,4,Y X0.row r1.plan),(143296,1,Y rI r1.choice),(143360,1,Y rI r1.best)]):=by
 intro f
 induction f with
 | zero=>
  intro b8 b9 b10 b11 b14 h;obtain rfl:b8=T:=zF.1 h b8 (by simp);obtain rfl:b9=T:=zF.1 h b9 (by simp);obtain rfl:b10=T:=zF.1 h b10 (by simp);obtain rfl:b11=T:=zF.1 h b11 (by simp);obtain rfl:b14=T:=zF.1 h b14 (by simp);rfl
 | succ f ih=>
  intro b8 b9 b10 b11 b14;refine Aj ⟨?_,?_,?_,?_,?_,?_,?_,?_,?_,?_,?_,?_,?_,?_,?_,⟨⟩⟩<;>try first | (intro h; cases h; done) | (intro h0 hw; obtain rfl:=hz h0 rfl; (try obtain rfl:=hq hw 8 rfl rfl); (try obtain rfl:=hq hw 9 rfl rfl); (try obtain rfl:=hq hw 10 rfl rfl); (try obtain rfl:=hq hw 11 rfl rfl); refine np ?_; simp only[Jh,A6,A7,A2,C,E,F,G,H,J]; exact ih _ _ _ _ _)
theorem A35(F_a2:FuncId)(caps_a2:P D)(r1:Xe):∀(f:W) (b0 b1:V) (b2 b3:V) (b4 b5:V) (b6 b7:V) (b8 b9:V) (b10 b11 b12:V),Ae Z az (QL F_a2 caps_a2 r1) f [b0,b1,b2,b3,b4,b5,b6,b7,b8,b9,b10,b11,b12,L,L] (Jh r1 b0 b1 b2 b3 b4 b5 b6 b7 b8 b9 b10 b11 b12 L [(7,[aI (0:U),aI (0:U)]),(14,([aI r1.h.Forecast.Tide.Mean,aL (Y zB r1.h.Forecast.Tide.Parts),aL (Y X9.row r1.h.Forecast.Surges),aL (Y X7.row r1.h.Chart.Points),aL (Y X2.row r1.h.Chart.Segments),aL (Y X4.row r1.h.Fleet),aI r1.h.Regime.Gap,aB r1.h.Regime.NoMeet]++dm r1.h.Crew.row++ [aL (Y (rL X0.row) r1.choices),.dat (.clo F_a2 caps_a2),.own 143232,.own 143296,.own 143360,aI r1.least.i0,aI r1.least.i1,aB r1.found]))] [(143232,4,Y X0.row r1.plan),(143296,1,Y rI r1.choice),(143360,1,Y rI r1.best)]):=by
 intro f
 induction f with
 | zero=>intro b0 b1 b2 b3 b4 b5 b6 b7 b8 b9 b10 b11 b12 h; simp at h
 | succ f ih=>
  intro b0 b1 b2 b3 b4 b5 b6 b7 b8 b9 b10 b11 b12;refine Aj ⟨?_,?_,?_,?_,?_,?_,?_,?_,?_,?_,?_,?_,?_,?_,?_,⟨⟩⟩<;>try first | (intro _ hw; simp at hw; done) | (intro h0 hw; obtain rfl:=hz h0 rfl; (try obtain rfl:=hq hw 0 rfl rfl); (try obtain rfl:=hq hw 1 rfl rfl); (try obtain rfl:=hq hw 2 rfl rfl); (try obtain rfl:=hq hw 3 rfl rfl); (try obtain rfl:=hq hw 4 rfl rfl); (try obtain rfl:=hq hw 5 rfl rfl); (try obtain rfl:=hq hw 6 rfl rfl); (try obtain rfl:=hq hw 8 rfl rfl); (try obtain rfl:=hq hw 9 rfl rfl); (try obtain rfl:=hq hw 10 rfl rfl); refine np ?_; simp only[Jh,A6,A7,A2,C,E,F,G,H,J]; exact ih _ _ _ _ _ _ _ _ _ _ _ _ _)
  ·intro h0 hw;obtain rfl:=hq hw 0 rfl rfl;obtain rfl:=hq hw 1 rfl rfl;obtain rfl:=hq hw 2 rfl rfl;obtain rfl:=hq hw 3 rfl rfl;obtain rfl:=hq hw 4 rfl rfl;obtain rfl:=hq hw 5 rfl rfl;obtain rfl:=hq hw 6 rfl rfl;obtain rfl:=hq hw 7 rfl rfl;obtain rfl:=hq hw 12 rfl rfl;refine np ?_;try simp only[Jh,A6,A7,A2,C,E,F,G,H,J]
   exact A33 F_a2 caps_a2 r1 _ b8 b9 b10 b11 L
theorem xX{a0}{a1}{a2}{r}(F_a2:FuncId)(caps_a2:P D)(hF_a2:BV Z F_a2=T)(h_a2:∀z0 zr,a2 z0=N zr→FC Z F_a2 ([.sc (.sl (Y X0.row z0))]++caps_a2.map .sc) [.ag [.v (.int .i64 zr.i0),.v (.int .i64 zr.i1)]])(h:Pq a0 a1 a2=N r):FC Z 32 [.ag (X6.row a0),.sc (.sl (Y (rL X0.row) a1)),.sc (.clo F_a2 caps_a2)] [.sc (.o 1 (Y rI r.1)),.ag [.v (.int .i64 r.2.1.i0),.v (.int .i64 r.2.1.i1)],.sc (.v (.bool r.2.2))]:=by
 unfold Pq at h;refine A5 A4 oY [6,.c 7 T 2,8] 29 ?_;intro S hS
 conv at hS=>rhs; reduce
 try simp only[zC,zA,Ah,UInt8.reduceOfNat] at hS
 subst hS;simp only[C,E,F,G,H,J];try simp only[C,E,F,G,H,J]
 refine Bk ?_;try simp only[C,E,F,G,H,J]
 refine By ?_;try simp only[C,E,F,G,H,J]
 refine Bk ?_;try simp only[C,E,F,G,H,J]
 refine FL (cs':= [aI a0.Forecast.Tide.Mean,aL (Y zB a0.Forecast.Tide.Parts),aL (Y X9.row a0.Forecast.Surges),aL (Y X7.row a0.Chart.Points),aL (Y X2.row a0.Chart.Segments),aL (Y X4.row a0.Fleet),aI a0.Regime.Gap,aB a0.Regime.NoMeet,aI a0.Crew.Tugs,aI a0.Crew.Pilots,aI a0.Crew.Rest,aL (Y rI a0.Crew.Moves),aL (Y (rL X0.row) a1),.dat (.clo F_a2 caps_a2),.own 143232,.nil,.nil,aI (0:U),aI (0:U),aB L]) X X X X ?_;try simp only[C,E,F,G,H,J]
 refine FL (cs':= [aI a0.Forecast.Tide.Mean,aL (Y zB a0.Forecast.Tide.Parts),aL (Y X9.row a0.Forecast.Surges),aL (Y X7.row a0.Chart.Points),aL (Y X2.row a0.Chart.Segments),aL (Y X4.row a0.Fleet),aI a0.Regime.Gap,aB a0.Regime.NoMeet,aI a0.Crew.Tugs,aI a0.Crew.Pilots,aI a0.Crew.Rest,aL (Y rI a0.Crew.Moves),aL (Y (rL X0.row) a1),.dat (.clo F_a2 caps_a2),.own 143232,.own 143296,.nil,aI (0:U),aI (0:U),aB L]) X X X X ?_;try simp only[C,E,F,G,H,J]
 refine FL (cs':= [aI a0.Forecast.Tide.Mean,aL (Y zB a0.Forecast.Tide.Parts),aL (Y X9.row a0.Forecast.Surges),aL (Y X7.row a0.Chart.Points),aL (Y X2.row a0.Chart.Segments),aL (Y X4.row a0.Fleet),aI a0.Regime.Gap,aB a0.Regime.NoMeet,aI a0.Crew.Tugs,aI a0.Crew.Pilots,aI a0.Crew.Rest,aL (Y rI a0.Crew.Moves),aL (Y (rL X0.row) a1),.dat (.clo F_a2 caps_a2),.own 143232,.own 143296,.own 143360,aI (0:U),aI (0:U),aB L]) X X X X ?_;try simp only[C,E,F,G,H,J]
 refine KR ?_;obtain⟨r1,h1,h⟩:=ob h;try simp only[C,E,F,G,H,J]
 refine FI (xa F_a2 caps_a2 hF_a2 h_a2 h1) 14 [143232,143296,143360] rfl X X X (by decide) X X X ?_;try simp only[C,E,F,G,H,J]
 refine EA (ks:= [7,9]) (bs:= [7,14]) (rs:= [143232,143296,143360]) (τ:=(QL F_a2 caps_a2 r1)) X (A35 F_a2 caps_a2 r1 _ L L L L L L L L L L L L L) ?_;simp only[QL,Jh,A6];try simp only[C,E,F,G,H,J]
 cases h;try simp only[H4,C,E,F,G,H,J]
 trivial
/- 35:impl_account -/
def We:Hw:=([(8,[1,3,6,7,14,15,16],[3,6,7],[704,768])],[])
def bv:=fun a1 a2 (a0:X6) (k_:U→(P U)→(P U)→Q Xo)=>∀{v3 v4 v5} {zr},k_ v3 v4 v5=N zr→Kh Z 35 We 8 [1,3,6,7,14,15,16] [3,6,7] [704,768] ⟨[pL 1 zE a1,pB 3,pB 6,pB 7,pL 14 X0.row a2,pI 15 (a2.length:U),pI 16 v3],[(3,([aI a0.Forecast.Tide.Mean,aM zB a0.Forecast.Tide.Parts,aM X9.row a0.Forecast.Surges,aM X7.row a0.Chart.Points,aM X2.row a0.Chart.Segments,aM X4.row a0.Fleet,aI a0.Regime.Gap,aB a0.Regime.NoMeet]++dm a0.Crew.row)),(6,[.nil,.nil]),(7,[.own 704,.own 768])],[(704,1,Y rI v4),(768,1,Y rI v5)]⟩ (A8 [.c 6 T 2] [.ag [.o 1 (Y rI zr.Waits),.o 1 (Y rI zr.Calls)]])
theorem A36{a1 a2 a0}{n:W}:bv a1 a2 a0 (Ep a1 a2 a0 n):=by
 induction n with
 | zero=>intro _ _ _ r h; cases h
 | succ n ih=>
  intro v3 v4 v5 r h σ hσ S hS
  conv at hS=>rhs; reduce
  try simp only[zC,zA,Ah,UInt8.reduceOfNat] at hS
  subst hS;rw[Ep] at h;refine AM (Ay ?_);obtain⟨h6,h⟩|⟨h6,h⟩:=ic h
  ·obtain⟨x7,h7,h⟩:=ob h;try simp only[hσ,h6,h7,C,E,F,G,H,J]
   refine By ?_;try simp only[h6,h7,C,E,F,G,H,J]
   refine An ?_;obtain⟨x8,h8,h⟩:=ob h;obtain⟨x9,h9,h⟩:=ob h;try simp only[h6,h7,h8,h9,C,E,F,G,H,J]
   refine An ?_;obtain⟨x10,h10,h⟩:=ob h;have h10n:=Av h10;try simp only[h6,h7,h8,h9,h10,h10n,C,E,F,G,H,J]
   refine AS (row:=rI) (y:=(zK .i64 (x10+x7.Cost))) X X h10n X X (by rfl) ?_;try simp only[h6,h7,h8,h9,h10,h10n,C,E,F,G,H,J]
   refine An ?_;obtain⟨x11,h11,h⟩:=ob h;have h11n:=Av h11;try simp only[h6,h7,h8,h9,h10,h10n,h11,h11n,C,E,F,G,H,J]
   refine AS (row:=rI) (y:=(zK .i64 (x11+(1:U)))) X X h11n X X (by rfl) ?_;try simp only[h6,h7,h8,h9,h10,h10n,h11,h11n,C,E,F,G,H,J]
   refine ih h ?_ (by kernel_rfl);try simp only[h6,h7,h8,h9,h10,h10n,h11,h11n,C,E,F,G,H,J,pL,aM,zD]
  ·try simp only[hσ,h6,C,E,F,G,H,J]
   cases h;try simp only[H4,C,E,F,G,H,J]
   trivial
instance A7t:Ct 35 (∀{a0} {a1} {a2} {r},HK a0 a1 a2=N r→FC Z 35 [.ag (X6.row a0),.sc (.sl (Y zE a1)),.sc (.sl (Y X0.row a2))] [.ag [.o 1 (Y rI r.Waits),.o 1 (Y rI r.Calls)]]):=by
 refine⟨fun{a0} {a1} {a2} {r} h=> ?_⟩;unfold HK at h;refine A5 A4 We [.c 6 T 2] 49 ?_;intro S hS
 conv at hS=>rhs; reduce
 try simp only[zC,zA,Ah,UInt8.reduceOfNat] at hS
 subst hS;simp only[C,E,F,G,H,J];try simp only[C,E,F,G,H,J]
 refine Bk ?_;try simp only[C,E,F,G,H,J]
 refine By ?_;try simp only[C,E,F,G,H,J]
 refine An ?_;obtain⟨n1,hn1,h⟩:=ob h;try simp only[C,E,F,G,H,J]
 refine FJ (m:= .row 11 1 (Y rI (List.replicate n1 (0:U)))) (Og X X hn1 X (Jd X)) X (L5 X) ?_;obtain⟨n2,hn2,h⟩:=ob h;try simp only[C,E,F,G,H,J]
 refine FJ (m:= .row 12 1 (Y rI (List.replicate n2 (0:U)))) (Og X X hn2 X (Jd X)) X (L5 X) ?_;try simp only[C,E,F,G,H,J]
 refine FJ (m:= .box 7 [.nil,.nil]) X X (J2 X X) ?_;try simp only[C,E,F,G,H,J]
 refine An ?_;try simp only[C,E,F,G,H,J]
 refine A36 h ?_ (by kernel_rfl);try simp only[C,E,F,G,H,J,pL,aM,zD]
/- 36:impl_CostOf -/
def Wf:Hw:=([(8,[3,6,7,8],[],[])],[])
def bV:=fun a0 (k_:U→U→Q U)=>∀{v1 v2} {zr},k_ v1 v2=N zr→Kh Z 36 Wf 8 [3,6,7,8] [] [] ⟨[pI 3 v1,pL 6 X0.row a0,pI 7 (a0.length:U),pI 8 v2],[],[]⟩ (A8 [2] [.sc (.v (.int .i64 zr))])
theorem A37{a0}{n:W}:bV a0 (F7 a0 n):=by
 induction n with
 | zero=>intro _ _ r h; cases h
 | succ n ih=>
  intro v1 v2 r h σ hσ;rw[F7] at h;exact gc
instance xI:Ct 36 (∀{a0} {r},Pg a0=N r→FC Z 36 [.sc (.sl (Y X0.row a0))] [.sc (.v (.int .i64 r))]):=by
 refine⟨fun{a0} {r} h=> ?_⟩;unfold Pg at h;refine A5 A4 Wf [2] 18 ?_;have k0:= @A37;exact gc
/- 34:impl_FairPlan_1 -/
def Wg:Hw:=([(8,[0,4,5,12,13,14],[4],[704])],[])
def bX:=fun a0 (r1:Xo) (k_:U→U→Q Xj)=>∀{v2 v3} {zr},k_ v2 v3=N zr→Kh Z 34 Wg 8 [0,4,5,12,13,14] [4] [704] ⟨[pL 0 X0.row a0,pB 4,pI 5 v2,pW 12 704,pI 13 (r1.Waits.length:U),pI 14 v3],[(4,[aI (0:U),aI (0:U)])],[(704,1,Y rI r1.Waits)]⟩ (A8 [.c 4 T 2] [.ag [.v (.int .i64 zr.i0),.v (.int .i64 zr.i1)]])
theorem A38{a0 r1}{n:W}:bX a0 r1 (Hz a0 r1 n):=by
 induction n with
 | zero=>intro _ _ r h; cases h
 | succ n ih=>
  intro v2 v3 r h σ hσ S hS
  conv at hS=>rhs; reduce
  try simp only[zC,zA,Ah,UInt8.reduceOfNat] at hS
  subst hS;rw[Hz] at h;refine AM (Ay ?_);obtain⟨h4,h⟩|⟨h4,h⟩:=ic h
  ·obtain⟨x5,h5,h⟩:=ob h;have h5n:=Av h5;try simp only[hσ,h4,h5,h5n,C,E,F,G,H,J]
   refine ih h ?_ (by kernel_rfl);try simp only[h4,h5,h5n,C,E,F,G,H,J,pL,aM,zD]
  ·obtain⟨r6,h6,h⟩:=ob h;try simp only[hσ,h4,C,E,F,G,H,J]
   refine AJ (Ac xI h6) ?_;try simp only[h4,C,E,F,G,H,J]
   cases h;try simp only[H4,C,E,F,G,H,J]
   trivial
theorem A39{a0}{c0}{c1}{r}(h:CX a0 c0 c1=N r):FC Z 34 [.sc (.sl (Y X0.row a0)),.sc (.pd (X6.row c0)),.sc (.pd ((rL zE) c1))] [.ag [.v (.int .i64 r.i0),.v (.int .i64 r.i1)]]:=by
 unfold CX at h;refine A5 A4 Wg [.c 4 T 2] 26 ?_;have k0:= @A38;exact gc
/- 9:impl_FairPlan -/
instance ZM:Ct 9 (∀{a0} {a1} {r},JQ a0 a1=N r→FC Z 9 [.ag (X6.row a0),.sc (.sl (Y zE a1))] [.sc (.o 1 (Y rI r.1)),.sc (.v (.int .i64 r.2.1)),.sc (.v (.bool r.2.2))]):=by
 refine⟨fun{a0} {a1} {r} h=> ?_⟩;unfold JQ at h;refine A5 A4 h0 [4,5,6] 28 ?_;intro S hS
 conv at hS=>rhs; reduce
 try simp only[zC,zA,Ah,UInt8.reduceOfNat] at hS
 subst hS;simp only[C,E,F,G,H,J];try simp only[C,E,F,G,H,J]
 refine Bk ?_;try simp only[C,E,F,G,H,J]
 refine Bk ?_;obtain⟨r1,h1,h⟩:=ob h;try simp only[C,E,F,G,H,J]
 refine AJ (Ac xD h1) ?_;obtain⟨h2,h⟩|⟨h2,h⟩:=ic h
 ·try simp only[h2,C,E,F,G,H,J]
  refine An ?_;obtain⟨r3,h3,h⟩:=ob h;try simp only[h2,C,E,F,G,H,J]
  refine BS (Ac xN h3) ?_;obtain⟨r4,h4,h⟩:=ob h;try simp only[h2,C,E,F,G,H,J]
  refine GQ (xX 34 [.pd (X6.row a0),.pd ((rL zE) a1)] (by kernel_rfl) (fun z0 zr zh=>A39 zh) h4) (by first | rfl | kernel_rfl) (CN X ⟨CB,X,X,X,⟨⟩⟩) X (uf X) ?_;try simp only[h2,C,E,F,G,H,J]
  refine FJ (m:= .box 8 [aI (0:U),aI (0:U)]) X X (J2 X X) ?_;try simp only[h2,C,E,F,G,H,J]
  refine An ?_;try simp only[h2,C,E,F,G,H,J]
  refine An ?_;try simp only[h2,C,E,F,G,H,J]
  cases h;trivial
 ·try simp only[h2,C,E,F,G,H,J]
  cases h;trivial
/- 10:laws_eqIntS -/
def Wh:Hw:=([(14,[0,1,5],[],[])],[])
def cY:=fun a0 a1 (k_:U→Q V)=>∀{v2} {zr},k_ v2=N zr→Kh Z 10 Wh 14 [0,1,5] [] [] ⟨[pL 0 rI a0,pL 1 rI a1,pI 5 v2],[],[]⟩ (A8 [4] [.sc (.v (.bool zr))])
theorem A4a{a0 a1}{n:W}:cY a0 a1 (I1 a0 a1 n):=by
 induction n with
 | zero=>intro _ r h; cases h
 | succ n ih=>
  intro v2 r h σ hσ;rw[I1] at h;exact gc
instance Tg:Ct 10 (∀{a0} {a1} {r},Fj a0 a1=N r→FC Z 10 [.sc (.sl (Y rI a0)),.sc (.sl (Y rI a1))] [.sc (.v (.bool r))]):=by
 refine⟨fun{a0} {a1} {r} h=> ?_⟩;unfold Fj at h;refine A5 A4 Wh [4] 26 ?_;have k0:= @A4a;exact gc
/- 161:laws_eqPart -/
instance A8c:Ct 161 (∀{a0} {a1} {r},Mr a0 a1=N r→FC Z 161 [.ag (zB a0),.ag (zB a1)] [.sc (.v (.bool r))]):=by
 refine⟨fun{a0} {a1} {r} h=> ?_⟩;unfold Mr at h;refine A5 A4 h0 [4] 20 ?_;exact gc
/- 115:laws_eqPartS -/
def Wj:Hw:=([(14,[0,1,5],[],[])],[])
def cZ:=fun a0 a1 (k_:U→Q V)=>∀{v2} {zr},k_ v2=N zr→Kh Z 115 Wj 14 [0,1,5] [] [] ⟨[pL 0 zB a0,pL 1 zB a1,pI 5 v2],[],[]⟩ (A8 [4] [.sc (.v (.bool zr))])
theorem A4b{a0 a1}{n:W}:cZ a0 a1 (I2 a0 a1 n):=by
 induction n with
 | zero=>intro _ r h; cases h
 | succ n ih=>
  intro v2 r h σ hσ;rw[I2] at h;exact gc
instance A8d:Ct 115 (∀{a0} {a1} {r},Ms a0 a1=N r→FC Z 115 [.sc (.sl (Y zB a0)),.sc (.sl (Y zB a1))] [.sc (.v (.bool r))]):=by
 refine⟨fun{a0} {a1} {r} h=> ?_⟩;unfold Ms at h;refine A5 A4 Wj [4] 27 ?_;have k0:= @A4b;exact gc
/- 68:laws_eqTide -/
instance A8n:Ct 68 (∀{a0} {a1} {r},Pv a0 a1=N r→FC Z 68 [.ag (Xl.row a0),.ag (Xl.row a1)] [.sc (.v (.bool r))]):=by
 refine⟨fun{a0} {a1} {r} h=> ?_⟩;unfold Pv at h;refine A5 A4 h0 [4] 16 ?_;exact gc
/- 116:laws_eqSurge -/
instance A8l:Ct 116 (∀{a0} {a1} {r},MA a0 a1=N r→FC Z 116 [.ag (X9.row a0),.ag (X9.row a1)] [.sc (.v (.bool r))]):=by
 refine⟨fun{a0} {a1} {r} h=> ?_⟩;unfold MA at h;refine A5 A4 h0 [4] 20 ?_;exact gc
/- 69:laws_eqSurgeS -/
def Wk:Hw:=([(14,[0,1,5],[],[])],[])
def cf:=fun a0 a1 (k_:U→Q V)=>∀{v2} {zr},k_ v2=N zr→Kh Z 69 Wk 14 [0,1,5] [] [] ⟨[pL 0 X9.row a0,pL 1 X9.row a1,pI 5 v2],[],[]⟩ (A8 [4] [.sc (.v (.bool zr))])
theorem A4c{a0 a1}{n:W}:cf a0 a1 (I6 a0 a1 n):=by
 induction n with
 | zero=>intro _ r h; cases h
 | succ n ih=>
  intro v2 r h σ hσ;rw[I6] at h;exact gc
instance A8m:Ct 69 (∀{a0} {a1} {r},MB a0 a1=N r→FC Z 69 [.sc (.sl (Y X9.row a0)),.sc (.sl (Y X9.row a1))] [.sc (.v (.bool r))]):=by
 refine⟨fun{a0} {a1} {r} h=> ?_⟩;unfold MB at h;refine A5 A4 Wk [4] 27 ?_;have k0:= @A4c;exact gc
/- 37:laws_eqForecast -/
instance A8b:Ct 37 (∀{a0} {a1} {r},Mp a0 a1=N r→FC Z 37 [.ag (Xd.row a0),.ag (Xd.row a1)] [.sc (.v (.bool r))]):=by
 refine⟨fun{a0} {a1} {r} h=> ?_⟩;unfold Mp at h;refine A5 A4 h0 [4] 17 ?_;exact gc
/- 117:laws_eqPoint -/
instance A8e:Ct 117 (∀{a0} {a1} {r},Mu a0 a1=N r→FC Z 117 [.ag (X7.row a0),.ag (X7.row a1)] [.sc (.v (.bool r))]):=by
 refine⟨fun{a0} {a1} {r} h=> ?_⟩;unfold Mu at h;refine A5 A4 h0 [4] 15 ?_;exact gc
/- 70:laws_eqPointS -/
def Wl:Hw:=([(14,[0,1,5],[],[])],[])
def cb:=fun a0 a1 (k_:U→Q V)=>∀{v2} {zr},k_ v2=N zr→Kh Z 70 Wl 14 [0,1,5] [] [] ⟨[pL 0 X7.row a0,pL 1 X7.row a1,pI 5 v2],[],[]⟩ (A8 [4] [.sc (.v (.bool zr))])
theorem A4d{a0 a1}{n:W}:cb a0 a1 (I3 a0 a1 n):=by
 induction n with
 | zero=>intro _ r h; cases h
 | succ n ih=>
  intro v2 r h σ hσ;rw[I3] at h;exact gc
instance A8f:Ct 70 (∀{a0} {a1} {r},Mv a0 a1=N r→FC Z 70 [.sc (.sl (Y X7.row a0)),.sc (.sl (Y X7.row a1))] [.sc (.v (.bool r))]):=by
 refine⟨fun{a0} {a1} {r} h=> ?_⟩;unfold Mv at h;refine A5 A4 Wl [4] 27 ?_;have k0:= @A4d;exact gc
/- 118:laws_eqSegment -/
instance A8h:Ct 118 (∀{a0} {a1} {r},Mw a0 a1=N r→FC Z 118 [.ag (X2.row a0),.ag (X2.row a1)] [.sc (.v (.bool r))]):=by
 refine⟨fun{a0} {a1} {r} h=> ?_⟩;unfold Mw at h;refine A5 A4 h0 [4] 30 ?_;exact gc
/- 71:laws_eqSegmentS -/
def Wm:Hw:=([(14,[0,1,5],[],[])],[])
def cd:=fun a0 a1 (k_:U→Q V)=>∀{v2} {zr},k_ v2=N zr→Kh Z 71 Wm 14 [0,1,5] [] [] ⟨[pL 0 X2.row a0,pL 1 X2.row a1,pI 5 v2],[],[]⟩ (A8 [4] [.sc (.v (.bool zr))])
theorem A4e{a0 a1}{n:W}:cd a0 a1 (I4 a0 a1 n):=by
 induction n with
 | zero=>intro _ r h; cases h
 | succ n ih=>
  intro v2 r h σ hσ;rw[I4] at h;exact gc
instance A8i:Ct 71 (∀{a0} {a1} {r},Mx a0 a1=N r→FC Z 71 [.sc (.sl (Y X2.row a0)),.sc (.sl (Y X2.row a1))] [.sc (.v (.bool r))]):=by
 refine⟨fun{a0} {a1} {r} h=> ?_⟩;unfold Mx at h;refine A5 A4 Wm [4] 27 ?_;have k0:= @A4e;exact gc
/- 38:laws_eqChart -/
instance A79:Ct 38 (∀{a0} {a1} {r},Mo a0 a1=N r→FC Z 38 [.ag (X1.row a0),.ag (X1.row a1)] [.sc (.v (.bool r))]):=by
 refine⟨fun{a0} {a1} {r} h=> ?_⟩;unfold Mo at h;refine A5 A4 h0 [4] 17 ?_;exact gc
/- 72:laws_eqShip -/
instance A8j:Ct 72 (∀{a0} {a1} {r},My a0 a1=N r→FC Z 72 [.ag (X4.row a0),.ag (X4.row a1)] [.sc (.v (.bool r))]):=by
 refine⟨fun{a0} {a1} {r} h=> ?_⟩;unfold My at h;refine A5 A4 h0 [4] 35 ?_;exact gc
/- 39:laws_eqShipS -/
def Wn:Hw:=([(14,[0,1,5],[],[])],[])
def ce:=fun a0 a1 (k_:U→Q V)=>∀{v2} {zr},k_ v2=N zr→Kh Z 39 Wn 14 [0,1,5] [] [] ⟨[pL 0 X4.row a0,pL 1 X4.row a1,pI 5 v2],[],[]⟩ (A8 [4] [.sc (.v (.bool zr))])
theorem A4f{a0 a1}{n:W}:ce a0 a1 (I5 a0 a1 n):=by
 induction n with
 | zero=>intro _ r h; cases h
 | succ n ih=>
  intro v2 r h σ hσ;rw[I5] at h;exact gc
instance A8k:Ct 39 (∀{a0} {a1} {r},Mz a0 a1=N r→FC Z 39 [.sc (.sl (Y X4.row a0)),.sc (.sl (Y X4.row a1))] [.sc (.v (.bool r))]):=by
 refine⟨fun{a0} {a1} {r} h=> ?_⟩;unfold Mz at h;refine A5 A4 Wn [4] 27 ?_;have k0:= @A4f;exact gc
/- 40:laws_eqRegime -/
instance A8g:Ct 40 (∀{a0} {a1} {r},Pu a0 a1=N r→FC Z 40 [.ag (Xi.row a0),.ag (Xi.row a1)] [.sc (.v (.bool r))]):=by
 refine⟨fun{a0} {a1} {r} h=> ?_⟩;unfold Pu at h;refine A5 A4 h0 [4] 15 ?_;exact gc
/- 41:laws_eqCrew -/
instance A8a:Ct 41 (∀{a0} {a1} {r},Pt a0 a1=N r→FC Z 41 [.ag (Xn.row a0),.ag (Xn.row a1)] [.sc (.v (.bool r))]):=by
 refine⟨fun{a0} {a1} {r} h=> ?_⟩;unfold Pt at h;refine A5 A4 h0 [4] 26 ?_;exact gc
/- 11:laws_eqHarbour -/
instance xg:Ct 11 (∀{a0} {a1} {r},Mq a0 a1=N r→FC Z 11 [.ag (X6.row a0),.ag (X6.row a1)] [.sc (.v (.bool r))]):=by
 refine⟨fun{a0} {a1} {r} h=> ?_⟩;unfold Mq at h;refine A5 A4 h0 [4] 35 ?_;exact gc
/- 42:laws_eqCall -/
instance A78:Ct 42 (∀{a0} {a1} {r},Ps a0 a1=N r→FC Z 42 [.ag (zE a0),.ag (zE a1)] [.sc (.v (.bool r))]):=by
 refine⟨fun{a0} {a1} {r} h=> ?_⟩;unfold Ps at h;refine A5 A4 h0 [4] 30 ?_;exact gc
/- 12:laws_eqCallS -/
def Wo:Hw:=([(14,[0,1,5],[],[])],[])
def cX:=fun a0 a1 (k_:U→Q V)=>∀{v2} {zr},k_ v2=N zr→Kh Z 12 Wo 14 [0,1,5] [] [] ⟨[pL 0 zE a0,pL 1 zE a1,pI 5 v2],[],[]⟩ (A8 [4] [.sc (.v (.bool zr))])
theorem A4h{a0 a1}{n:W}:cX a0 a1 (I0 a0 a1 n):=by
 induction n with
 | zero=>intro _ r h; cases h
 | succ n ih=>
  intro v2 r h σ hσ;rw[I0] at h;exact gc
instance xf:Ct 12 (∀{a0} {a1} {r},Mn a0 a1=N r→FC Z 12 [.sc (.sl (Y zE a0)),.sc (.sl (Y zE a1))] [.sc (.v (.bool r))]):=by
 refine⟨fun{a0} {a1} {r} h=> ?_⟩;unfold Mn at h;refine A5 A4 Wo [4] 27 ?_;have k0:= @A4h;exact gc
/- 119:laws_markPartS -/
def Sa:Hw:=([(6,[0,1,5],[],[99999999999])],[])
def cl:=fun(k_:U→U→(P Xc)→Q (U × P Xc))=>∀{v1 v2 v3} {zr},k_ v1 v2 v3=N zr→Kh Z 119 Sa 6 [0,1,5] [] [99999999999] ⟨[pW 0 99999999999,pI 1 v1,pI 5 v2],[],[(99999999999,3,Y zB v3)]⟩ (Ej [4] (.int .i64 zr.1) [(3,Y zB zr.2)] [(0,0)])
theorem A4i{n:W}:cl (Fo n):=by
 induction n with
 | zero=>intro _ _ _ r h; cases h
 | succ n ih=>
  intro v1 v2 v3 r h σ hσ S hS
  conv at hS=>rhs; reduce
  try simp only[zC,zA,Ah,UInt8.reduceOfNat] at hS
  subst hS;rw[Fo] at h;refine AM (Ay ?_);obtain⟨h4,h⟩|⟨h4,h⟩:=ic h
  ·obtain⟨x5,h5,h⟩:=ob h;have h5n:=Av h5;try simp only[hσ,h4,h5,C,E,F,G,H,J]
   refine AS (row:=zB) (y:=(⟨v1,x5.Period,x5.Phase⟩:Xc)) X X h5n X X (by rfl) ?_;obtain⟨x6,h6,h⟩:=ob h;have h6n:=Av h6;try simp only[h4,h5,h6,C,E,F,G,H,J]
   refine AS (row:=zB) (y:=(⟨x6.Amp,(zK .i64 (v1+(1:U))),x6.Phase⟩:Xc)) X X h6n X X (by rfl) ?_;obtain⟨x7,h7,h⟩:=ob h;have h7n:=Av h7;try simp only[h4,h5,h6,h7,C,E,F,G,H,J]
   refine AS (row:=zB) (y:=(⟨x7.Amp,x7.Period,(zK .i64 ((zK .i64 (v1+(1:U)))+(1:U)))⟩:Xc)) X X h7n X X (by rfl) ?_;try simp only[h4,h5,h6,h7,C,E,F,G,H,J]
   refine ih h ?_ (by kernel_rfl);try simp only[h4,h5,h6,h7,C,E,F,G,H,J,pL,aM,zD]
  ·try simp only[hσ,h4,C,E,F,G,H,J]
   cases h;exact⟨⟨X,⟨⟩⟩,⟨⟨⟨_,X,X⟩,X⟩,⟨⟩⟩⟩
theorem ke:B4 Z 119=N ((BY Z 119 Sa).strip,[4],34):=by kernel_rfl
theorem rE:∀(n:W) (v1 v2:U) (v3:P Xc) (r:U × P Xc),Fo n v1 v2 v3=N r→r.2.length=v3.length:=by
 intro n
 induction n with
 | zero=>intro _ _ _ r h; cases h
 | succ n ih=>
  intro v1 v2 v3 r h;rw[Fo] at h;obtain⟨h4,h⟩|⟨h4,h⟩:=ic h
  ·obtain⟨x5,h5,h⟩:=ob h;obtain⟨x6,h6,h⟩:=ob h;obtain⟨x7,h7,h⟩:=ob h;have hl:=ih _ _ _ _ h;try simp only[I] at hl
   omega
  ·cases h;all_goals (try dsimp only); first | done | omega | (simp only[I] at *; omega) | simp_all
theorem Su{a0}{a1}{r}(h:Ke a0 a1=N r):r.2.length=a0.length:=by
 unfold Ke at h;have hl:=rE _ _ _ _ _ h;try simp only[I] at hl
 omega
theorem xn{a0}{a1}{r}(h:Ke a0 a1=N r):Cv Z 119 [.sc (.r 0),.sc (.d (.int .i64 a1))] [(3,Y zB a0)] [(3,Y zB r.2)] (.int .i64 r.1):=by
 unfold Ke at h;refine Dx (ps:= [(0,0)]) (σ:=⟨[(0,vc (.own 99999999999)),(1,vc (aI a1))],[],[(99999999999,3,Y zB a0)]⟩) A4 ke X X X (AR BA) X ?_;refine C9 Sa ?_;have k0:= @A4i;exact gc
/- 73:laws_markTide -/
theorem kf:B4 Z 73=N ((BY Z 73 h0).strip,[4],10):=by kernel_rfl
theorem SA{a0}{a1}{r}(h:Kl a0 a1=N r):r.2.length=a0.Parts.length:=by
 unfold Kl at h;obtain⟨r1,h1,h⟩:=ob h;have lrr1:=(Su h1);cases h;all_goals (try dsimp only); first | done | omega | (simp only[I] at *; omega) | simp_all
theorem xu{a0}{a1}{r}(h:Kl a0 a1=N r):Cv Z 73 [.ag [.d (.int .i64 a0.Mean),.r 0],.sc (.d (.int .i64 a1))] [(3,Y zB a0.Parts)] [(3,Y zB r.2)] (.int .i64 r.1):=by
 unfold Kl at h;refine Dx (ps:= [(0,1)]) (σ:=⟨[(0,va [aI a0.Mean,.own 99999999999]),(1,vc (aI a1))],[],[(99999999999,3,Y zB a0.Parts)]⟩) A4 kf X X X (AR BA) X ?_;refine C9 h0 ?_;intro S hS
 conv at hS=>rhs; reduce
 try simp only[zC,zA,Ah,UInt8.reduceOfNat] at hS
 subst hS;try simp only[C,E,F,G,H,J]
 refine Bk ?_;obtain⟨r1,h1,h⟩:=ob h;try simp only[C,E,F,G,H,J]
 have lrr1:=(Su h1);refine Dl (ids:= [99999999999]) (xn h1) X X X (AR BA) (C8 (Su h1) Dv) ?_;try simp only[C,E,F,G,H,J]
 cases h;exact⟨⟨X,⟨⟩⟩,⟨⟨⟨_,X,X⟩,X⟩,⟨⟩⟩⟩
/- 74:laws_markSurgeS -/
def Sb:Hw:=([(6,[0,1,5],[],[99999999999])],[])
def cp:=fun(k_:U→U→(P X9)→Q (U × P X9))=>∀{v1 v2 v3} {zr},k_ v1 v2 v3=N zr→Kh Z 74 Sb 6 [0,1,5] [] [99999999999] ⟨[pW 0 99999999999,pI 1 v1,pI 5 v2],[],[(99999999999,3,Y X9.row v3)]⟩ (Ej [4] (.int .i64 zr.1) [(3,Y X9.row zr.2)] [(0,0)])
theorem A4j{n:W}:cp (Ft n):=by
 induction n with
 | zero=>intro _ _ _ r h; cases h
 | succ n ih=>
  intro v1 v2 v3 r h σ hσ S hS
  conv at hS=>rhs; reduce
  try simp only[zC,zA,Ah,UInt8.reduceOfNat] at hS
  subst hS;rw[Ft] at h;refine AM (Ay ?_);obtain⟨h4,h⟩|⟨h4,h⟩:=ic h
  ·obtain⟨x5,h5,h⟩:=ob h;have h5n:=Av h5;try simp only[hσ,h4,h5,C,E,F,G,H,J]
   refine AS (row:=X9.row) (y:=(⟨v1,x5.Low,x5.High⟩:X9)) X X h5n X X (by rfl) ?_;obtain⟨x6,h6,h⟩:=ob h;have h6n:=Av h6;try simp only[h4,h5,h6,C,E,F,G,H,J]
   refine AS (row:=X9.row) (y:=(⟨x6.From,(zK .i64 (v1+(1:U))),x6.High⟩:X9)) X X h6n X X (by rfl) ?_;obtain⟨x7,h7,h⟩:=ob h;have h7n:=Av h7;try simp only[h4,h5,h6,h7,C,E,F,G,H,J]
   refine AS (row:=X9.row) (y:=(⟨x7.From,x7.Low,(zK .i64 ((zK .i64 (v1+(1:U)))+(1:U)))⟩:X9)) X X h7n X X (by rfl) ?_;try simp only[h4,h5,h6,h7,C,E,F,G,H,J]
   refine ih h ?_ (by kernel_rfl);try simp only[h4,h5,h6,h7,C,E,F,G,H,J,pL,aM,zD]
  ·try simp only[hσ,h4,C,E,F,G,H,J]
   cases h;exact⟨⟨X,⟨⟩⟩,⟨⟨⟨_,X,X⟩,X⟩,⟨⟩⟩⟩
theorem kg:B4 Z 74=N ((BY Z 74 Sb).strip,[4],34):=by kernel_rfl
theorem rJ:∀(n:W) (v1 v2:U) (v3:P X9) (r:U × P X9),Ft n v1 v2 v3=N r→r.2.length=v3.length:=by
 intro n
 induction n with
 | zero=>intro _ _ _ r h; cases h
 | succ n ih=>
  intro v1 v2 v3 r h;rw[Ft] at h;obtain⟨h4,h⟩|⟨h4,h⟩:=ic h
  ·obtain⟨x5,h5,h⟩:=ob h;obtain⟨x6,h6,h⟩:=ob h;obtain⟨x7,h7,h⟩:=ob h;have hl:=ih _ _ _ _ h;try simp only[I] at hl
   omega
  ·cases h;all_goals (try dsimp only); first | done | omega | (simp only[I] at *; omega) | simp_all
theorem Sz{a0}{a1}{r}(h:Kj a0 a1=N r):r.2.length=a0.length:=by
 unfold Kj at h;have hl:=rJ _ _ _ _ _ h;try simp only[I] at hl
 omega
theorem xr{a0}{a1}{r}(h:Kj a0 a1=N r):Cv Z 74 [.sc (.r 0),.sc (.d (.int .i64 a1))] [(3,Y X9.row a0)] [(3,Y X9.row r.2)] (.int .i64 r.1):=by
 unfold Kj at h;refine Dx (ps:= [(0,0)]) (σ:=⟨[(0,vc (.own 99999999999)),(1,vc (aI a1))],[],[(99999999999,3,Y X9.row a0)]⟩) A4 kg X X X (AR BA) X ?_;refine C9 Sb ?_;have k0:= @A4j;exact gc
/- 43:laws_markForecast -/
theorem kh:B4 Z 43=N ((BY Z 43 h0).strip,[4],14):=by kernel_rfl
theorem Qt{a0}{a1}{r}(h:Kd a0 a1=N r):r.2.1.length=a0.Tide.Parts.length∧r.2.2.length=a0.Surges.length:=by
 unfold Kd at h;obtain⟨r1,h1,h⟩:=ob h;have lrr1:=(SA h1);obtain⟨r2,h2,h⟩:=ob h;have lrr2:=(Sz h2);cases h;all_goals (try dsimp only); first | done | omega | (simp only[I] at *; omega) | simp_all
theorem xk{a0}{a1}{r}(h:Kd a0 a1=N r):Cv Z 43 [.ag [.d (.int .i64 a0.Tide.Mean),.r 0,.r 1],.sc (.d (.int .i64 a1))] [(3,Y zB a0.Tide.Parts),(3,Y X9.row a0.Surges)] [(3,Y zB r.2.1),(3,Y X9.row r.2.2)] (.int .i64 r.1):=by
 unfold Kd at h;refine Dx (ps:= [(0,1),(0,2)]) (σ:=⟨[(0,va [aI a0.Tide.Mean,.own 99999999999,.own 100000000000]),(1,vc (aI a1))],[],[(99999999999,3,Y zB a0.Tide.Parts),(100000000000,3,Y X9.row a0.Surges)]⟩) A4 kh X X X (AR (AR BA)) X ?_;refine C9 h0 ?_;intro S hS
 conv at hS=>rhs; reduce
 try simp only[zC,zA,Ah,UInt8.reduceOfNat] at hS
 subst hS;try simp only[C,E,F,G,H,J]
 refine Bk ?_;obtain⟨r1,h1,h⟩:=ob h;try simp only[C,E,F,G,H,J]
 have lrr1:=(SA h1);refine Dl (ids:= [99999999999]) (xu h1) X X X (AR BA) (C8 (SA h1) Dv) ?_;obtain⟨r2,h2,h⟩:=ob h;try simp only[C,E,F,G,H,J]
 have lrr2:=(Sz h2);refine Dl (ids:= [100000000000]) (xr h2) X X X (AR BA) (C8 (Sz h2) Dv) ?_;try simp only[C,E,F,G,H,J]
 cases h;exact⟨⟨X,⟨⟩⟩,⟨⟨⟨_,X,X⟩,X⟩,⟨⟨⟨_,X,X⟩,X⟩,⟨⟩⟩⟩⟩
/- 77:laws_markText -/
def Wq:Hw:=([(14,[0,3],[],[])],[])
def cq:=fun(k_:U→(P UInt8)→Q (P UInt8))=>∀{v2 v3} {zr},k_ v2 v3=N zr→Kh Z 77 Wq 14 [0,3] [] [] ⟨[pI 0 v2,(3,vc (aS v3))],[],[]⟩ (A8 [2] [.sc (.v (.str zr))])
theorem A4k{n:W}:cq (I9 n):=by
 induction n with
 | zero=>intro _ _ r h; cases h
 | succ n ih=>
  intro v2 v3 r h σ hσ S hS
  conv at hS=>rhs; reduce
  try simp only[zC,zA,Ah,UInt8.reduceOfNat] at hS
  subst hS;rw[I9] at h;refine AM (Ay ?_);obtain⟨h4,h⟩|⟨h4,h⟩:=ic h
  ·try simp only[hσ,h4,C,E,F,G,H,J]
   refine B7 (es:=Y r8 ([(IntKind.u8.wrap (zK .i64 ((48:U)+(zK .i64 (Int.tmod v2 (10:U))))))]:P U)) ?_;obtain⟨h5,h⟩:=AW h;try simp only[h4,h5,C,E,F,G,H,J]
   refine ih h ?_ (by kernel_rfl);try simp only[h4,h5,C,E,F,G,H,J,pL,aM,zD]
  ·obtain⟨h6,h⟩:=AW h;try simp only[hσ,h4,h6,C,E,F,G,H,J]
   cases h;exact t0
instance ZU:Ct 77 (∀{a0} {r},Kk a0=N r→FC Z 77 [.sc (.int .i64 a0)] [.sc (.v (.str r))]):=by
 refine⟨fun{a0} {r} h=> ?_⟩;unfold Kk at h;refine A5 A4 Wq [2] 20 ?_;have k0:= @A4k;exact gc
/- 75:laws_markPointS -/
def Sc:Hw:=([(6,[0,1,5],[],[99999999999])],[])
def cm:=fun(k_:U→U→(P X7)→Q (U × P X7))=>∀{v1 v2 v3} {zr},k_ v1 v2 v3=N zr→Kh Z 75 Sc 6 [0,1,5] [] [99999999999] ⟨[pW 0 99999999999,pI 1 v1,pI 5 v2],[],[(99999999999,2,Y X7.row v3)]⟩ (Ej [4] (.int .i64 zr.1) [(2,Y X7.row zr.2)] [(0,0)])
theorem A4l{n:W}:cm (Fp n):=by
 induction n with
 | zero=>intro _ _ _ r h; cases h
 | succ n ih=>
  intro v1 v2 v3 r h σ hσ S hS
  conv at hS=>rhs; reduce
  try simp only[zC,zA,Ah,UInt8.reduceOfNat] at hS
  subst hS;rw[Fp] at h;refine AM (Ay ?_);obtain⟨h4,h⟩|⟨h4,h⟩:=ic h
  ·obtain⟨r5,h5,h⟩:=ob h;try simp only[hσ,h4,C,E,F,G,H,J]
   refine AJ (Ac ZU h5) ?_;obtain⟨x6,h6,h⟩:=ob h;have h6n:=Av h6;try simp only[h4,h6,C,E,F,G,H,J]
   refine AS (row:=X7.row) (y:=(⟨r5,x6.Wait⟩:X7)) X X h6n X X (by rfl) ?_;obtain⟨x7,h7,h⟩:=ob h;have h7n:=Av h7;try simp only[h4,h6,h7,C,E,F,G,H,J]
   refine AS (row:=X7.row) (y:=(⟨x7.Name,((zK .i64 (Int.tmod (zK .i64 (v1+(1:U))) (3:U)))==(0:U))⟩:X7)) X X h7n X X (by rfl) ?_;try simp only[h4,h6,h7,C,E,F,G,H,J]
   refine ih h ?_ (by kernel_rfl);try simp only[h4,h6,h7,C,E,F,G,H,J,pL,aM,zD]
  ·try simp only[hσ,h4,C,E,F,G,H,J]
   cases h;exact⟨⟨X,⟨⟩⟩,⟨⟨⟨_,X,X⟩,X⟩,⟨⟩⟩⟩
theorem ki:B4 Z 75=N ((BY Z 75 Sc).strip,[4],30):=by kernel_rfl
theorem rF:∀(n:W) (v1 v2:U) (v3:P X7) (r:U × P X7),Fp n v1 v2 v3=N r→r.2.length=v3.length:=by
 intro n
 induction n with
 | zero=>intro _ _ _ r h; cases h
 | succ n ih=>
  intro v1 v2 v3 r h;rw[Fp] at h;obtain⟨h4,h⟩|⟨h4,h⟩:=ic h
  ·obtain⟨r5,h5,h⟩:=ob h;obtain⟨x6,h6,h⟩:=ob h;obtain⟨x7,h7,h⟩:=ob h;have hl:=ih _ _ _ _ h;try simp only[I] at hl
   omega
  ·cases h;all_goals (try dsimp only); first | done | omega | (simp only[I] at *; omega) | simp_all
theorem Sv{a0}{a1}{r}(h:Kf a0 a1=N r):r.2.length=a0.length:=by
 unfold Kf at h;have hl:=rF _ _ _ _ _ h;try simp only[I] at hl
 omega
theorem xo{a0}{a1}{r}(h:Kf a0 a1=N r):Cv Z 75 [.sc (.r 0),.sc (.d (.int .i64 a1))] [(2,Y X7.row a0)] [(2,Y X7.row r.2)] (.int .i64 r.1):=by
 unfold Kf at h;refine Dx (ps:= [(0,0)]) (σ:=⟨[(0,vc (.own 99999999999)),(1,vc (aI a1))],[],[(99999999999,2,Y X7.row a0)]⟩) A4 ki X X X (AR BA) X ?_;refine C9 Sc ?_;have k0:= @A4l;exact gc
/- 76:laws_markSegmentS -/
def Sd:Hw:=([(6,[0,1,5],[],[99999999999])],[])
def cn:=fun(k_:U→U→(P X2)→Q (U × P X2))=>∀{v1 v2 v3} {zr},k_ v1 v2 v3=N zr→Kh Z 76 Sd 6 [0,1,5] [] [99999999999] ⟨[pW 0 99999999999,pI 1 v1,pI 5 v2],[],[(99999999999,5,Y X2.row v3)]⟩ (Ej [4] (.int .i64 zr.1) [(5,Y X2.row zr.2)] [(0,0)])
theorem A4m{n:W}:cn (Fq n):=by
 induction n with
 | zero=>intro _ _ _ r h; cases h
 | succ n ih=>
  intro v1 v2 v3 r h σ hσ S hS
  conv at hS=>rhs; reduce
  try simp only[zC,zA,Ah,UInt8.reduceOfNat] at hS
  subst hS;rw[Fq] at h;refine AM (Ay ?_);obtain⟨h4,h⟩|⟨h4,h⟩:=ic h
  ·obtain⟨x5,h5,h⟩:=ob h;have h5n:=Av h5;try simp only[hσ,h4,h5,C,E,F,G,H,J]
   refine AS (row:=X2.row) (y:=(⟨v1,x5.B,x5.Depth,x5.Minutes,x5.Meet⟩:X2)) X X h5n X X (by rfl) ?_;obtain⟨x6,h6,h⟩:=ob h;have h6n:=Av h6;try simp only[h4,h5,h6,C,E,F,G,H,J]
   refine AS (row:=X2.row) (y:=(⟨x6.A,(zK .i64 (v1+(1:U))),x6.Depth,x6.Minutes,x6.Meet⟩:X2)) X X h6n X X (by rfl) ?_;obtain⟨x7,h7,h⟩:=ob h;have h7n:=Av h7;try simp only[h4,h5,h6,h7,C,E,F,G,H,J]
   refine AS (row:=X2.row) (y:=(⟨x7.A,x7.B,(zK .i64 ((zK .i64 (v1+(1:U)))+(1:U))),x7.Minutes,x7.Meet⟩:X2)) X X h7n X X (by rfl) ?_;obtain⟨x8,h8,h⟩:=ob h;have h8n:=Av h8;try simp only[h4,h5,h6,h7,h8,C,E,F,G,H,J]
   refine AS (row:=X2.row) (y:=(⟨x8.A,x8.B,x8.Depth,(zK .i64 ((zK .i64 ((zK .i64 (v1+(1:U)))+(1:U)))+(1:U))),x8.Meet⟩:X2)) X X h8n X X (by rfl) ?_;obtain⟨x9,h9,h⟩:=ob h;have h9n:=Av h9;try simp only[h4,h5,h6,h7,h8,h9,C,E,F,G,H,J]
   refine AS (row:=X2.row) (y:=(⟨x9.A,x9.B,x9.Depth,x9.Minutes,((zK .i64 (Int.tmod (zK .i64 ((zK .i64 ((zK .i64 ((zK .i64 (v1+(1:U)))+(1:U)))+(1:U)))+(1:U))) (3:U)))==(0:U))⟩:X2)) X X h9n X X (by rfl) ?_;try simp only[h4,h5,h6,h7,h8,h9,C,E,F,G,H,J]
   refine ih h ?_ (by kernel_rfl);try simp only[h4,h5,h6,h7,h8,h9,C,E,F,G,H,J,pL,aM,zD]
  ·try simp only[hσ,h4,C,E,F,G,H,J]
   cases h;exact⟨⟨X,⟨⟩⟩,⟨⟨⟨_,X,X⟩,X⟩,⟨⟩⟩⟩
theorem kj:B4 Z 76=N ((BY Z 76 Sd).strip,[4],50):=by kernel_rfl
theorem rG:∀(n:W) (v1 v2:U) (v3:P X2) (r:U × P X2),Fq n v1 v2 v3=N r→r.2.length=v3.length:=by
 intro n
 induction n with
 | zero=>intro _ _ _ r h; cases h
 | succ n ih=>
  intro v1 v2 v3 r h;rw[Fq] at h;obtain⟨h4,h⟩|⟨h4,h⟩:=ic h
  ·obtain⟨x5,h5,h⟩:=ob h;obtain⟨x6,h6,h⟩:=ob h;obtain⟨x7,h7,h⟩:=ob h;obtain⟨x8,h8,h⟩:=ob h;obtain⟨x9,h9,h⟩:=ob h;have hl:=ih _ _ _ _ h;try simp only[I] at hl
   omega
  ·cases h;all_goals (try dsimp only); first | done | omega | (simp only[I] at *; omega) | simp_all
theorem Sw{a0}{a1}{r}(h:Kg a0 a1=N r):r.2.length=a0.length:=by
 unfold Kg at h;have hl:=rG _ _ _ _ _ h;try simp only[I] at hl
 omega
theorem xp{a0}{a1}{r}(h:Kg a0 a1=N r):Cv Z 76 [.sc (.r 0),.sc (.d (.int .i64 a1))] [(5,Y X2.row a0)] [(5,Y X2.row r.2)] (.int .i64 r.1):=by
 unfold Kg at h;refine Dx (ps:= [(0,0)]) (σ:=⟨[(0,vc (.own 99999999999)),(1,vc (aI a1))],[],[(99999999999,5,Y X2.row a0)]⟩) A4 kj X X X (AR BA) X ?_;refine C9 Sd ?_;have k0:= @A4m;exact gc
/- 44:laws_markChart -/
theorem kk:B4 Z 44=N ((BY Z 44 h0).strip,[4],14):=by kernel_rfl
theorem Qs{a0}{a1}{r}(h:Kb a0 a1=N r):r.2.1.length=a0.Points.length∧r.2.2.length=a0.Segments.length:=by
 unfold Kb at h;obtain⟨r1,h1,h⟩:=ob h;have lrr1:=(Sv h1);obtain⟨r2,h2,h⟩:=ob h;have lrr2:=(Sw h2);cases h;all_goals (try dsimp only); first | done | omega | (simp only[I] at *; omega) | simp_all
theorem xi{a0}{a1}{r}(h:Kb a0 a1=N r):Cv Z 44 [.ag [.r 0,.r 1],.sc (.d (.int .i64 a1))] [(2,Y X7.row a0.Points),(5,Y X2.row a0.Segments)] [(2,Y X7.row r.2.1),(5,Y X2.row r.2.2)] (.int .i64 r.1):=by
 unfold Kb at h;refine Dx (ps:= [(0,0),(0,1)]) (σ:=⟨[(0,va [.own 99999999999,.own 100000000000]),(1,vc (aI a1))],[],[(99999999999,2,Y X7.row a0.Points),(100000000000,5,Y X2.row a0.Segments)]⟩) A4 kk X X X (AR (AR BA)) X ?_;refine C9 h0 ?_;intro S hS
 conv at hS=>rhs; reduce
 try simp only[zC,zA,Ah,UInt8.reduceOfNat] at hS
 subst hS;try simp only[C,E,F,G,H,J]
 refine Bk ?_;obtain⟨r1,h1,h⟩:=ob h;try simp only[C,E,F,G,H,J]
 have lrr1:=(Sv h1);refine Dl (ids:= [99999999999]) (xo h1) X X X (AR BA) (C8 (Sv h1) Dv) ?_;obtain⟨r2,h2,h⟩:=ob h;try simp only[C,E,F,G,H,J]
 have lrr2:=(Sw h2);refine Dl (ids:= [100000000000]) (xp h2) X X X (AR BA) (C8 (Sw h2) Dv) ?_;try simp only[C,E,F,G,H,J]
 cases h;exact⟨⟨X,⟨⟩⟩,⟨⟨⟨_,X,X⟩,X⟩,⟨⟨⟨_,X,X⟩,X⟩,⟨⟩⟩⟩⟩
/- 45:laws_markShipS -/
def Se:Hw:=([(6,[0,1,5],[],[99999999999])],[])
def co:=fun(k_:U→U→(P X4)→Q (U × P X4))=>∀{v1 v2 v3} {zr},k_ v1 v2 v3=N zr→Kh Z 45 Se 6 [0,1,5] [] [99999999999] ⟨[pW 0 99999999999,pI 1 v1,pI 5 v2],[],[(99999999999,6,Y X4.row v3)]⟩ (Ej [4] (.int .i64 zr.1) [(6,Y X4.row zr.2)] [(0,0)])
theorem A4o{n:W}:co (Fs n):=by
 induction n with
 | zero=>intro _ _ _ r h; cases h
 | succ n ih=>
  intro v1 v2 v3 r h σ hσ S hS
  conv at hS=>rhs; reduce
  try simp only[zC,zA,Ah,UInt8.reduceOfNat] at hS
  subst hS;rw[Fs] at h;refine AM (Ay ?_);obtain⟨h4,h⟩|⟨h4,h⟩:=ic h
  ·obtain⟨r5,h5,h⟩:=ob h;try simp only[hσ,h4,C,E,F,G,H,J]
   refine AJ (Ac ZU h5) ?_;obtain⟨x6,h6,h⟩:=ob h;have h6n:=Av h6;try simp only[h4,h6,C,E,F,G,H,J]
   refine AS (row:=X4.row) (y:=(⟨r5,x6.Length,x6.Draught,x6.Line,x6.Tugs,x6.Slow⟩:X4)) X X h6n X X (by rfl) ?_;obtain⟨x7,h7,h⟩:=ob h;have h7n:=Av h7;try simp only[h4,h6,h7,C,E,F,G,H,J]
   refine AS (row:=X4.row) (y:=(⟨x7.Name,(zK .i64 (v1+(1:U))),x7.Draught,x7.Line,x7.Tugs,x7.Slow⟩:X4)) X X h7n X X (by rfl) ?_;obtain⟨x8,h8,h⟩:=ob h;have h8n:=Av h8;try simp only[h4,h6,h7,h8,C,E,F,G,H,J]
   refine AS (row:=X4.row) (y:=(⟨x8.Name,x8.Length,(zK .i64 ((zK .i64 (v1+(1:U)))+(1:U))),x8.Line,x8.Tugs,x8.Slow⟩:X4)) X X h8n X X (by rfl) ?_;obtain⟨x9,h9,h⟩:=ob h;have h9n:=Av h9;try simp only[h4,h6,h7,h8,h9,C,E,F,G,H,J]
   refine AS (row:=X4.row) (y:=(⟨x9.Name,x9.Length,x9.Draught,(zK .i64 ((zK .i64 ((zK .i64 (v1+(1:U)))+(1:U)))+(1:U))),x9.Tugs,x9.Slow⟩:X4)) X X h9n X X (by rfl) ?_;obtain⟨x10,h10,h⟩:=ob h;have h10n:=Av h10;try simp only[h4,h6,h7,h8,h9,h10,C,E,F,G,H,J]
   refine AS (row:=X4.row) (y:=(⟨x10.Name,x10.Length,x10.Draught,x10.Line,(zK .i64 ((zK .i64 ((zK .i64 ((zK .i64 (v1+(1:U)))+(1:U)))+(1:U)))+(1:U))),x10.Slow⟩:X4)) X X h10n X X (by rfl) ?_;obtain⟨x11,h11,h⟩:=ob h;have h11n:=Av h11;try simp only[h4,h6,h7,h8,h9,h10,h11,C,E,F,G,H,J]
   refine AS (row:=X4.row) (y:=(⟨x11.Name,x11.Length,x11.Draught,x11.Line,x11.Tugs,((zK .i64 (Int.tmod (zK .i64 ((zK .i64 ((zK .i64 ((zK .i64 ((zK .i64 (v1+(1:U)))+(1:U)))+(1:U)))+(1:U)))+(1:U))) (3:U)))==(0:U))⟩:X4)) X X h11n X X (by rfl) ?_;try simp only[h4,h6,h7,h8,h9,h10,h11,C,E,F,G,H,J]
   refine ih h ?_ (by kernel_rfl);try simp only[h4,h6,h7,h8,h9,h10,h11,C,E,F,G,H,J,pL,aM,zD]
  ·try simp only[hσ,h4,C,E,F,G,H,J]
   cases h;exact⟨⟨X,⟨⟩⟩,⟨⟨⟨_,X,X⟩,X⟩,⟨⟩⟩⟩
theorem kn:B4 Z 45=N ((BY Z 45 Se).strip,[4],58):=by kernel_rfl
theorem rH:∀(n:W) (v1 v2:U) (v3:P X4) (r:U × P X4),Fs n v1 v2 v3=N r→r.2.length=v3.length:=by
 intro n
 induction n with
 | zero=>intro _ _ _ r h; cases h
 | succ n ih=>
  intro v1 v2 v3 r h;rw[Fs] at h;obtain⟨h4,h⟩|⟨h4,h⟩:=ic h
  ·obtain⟨r5,h5,h⟩:=ob h;obtain⟨x6,h6,h⟩:=ob h;obtain⟨x7,h7,h⟩:=ob h;obtain⟨x8,h8,h⟩:=ob h;obtain⟨x9,h9,h⟩:=ob h;obtain⟨x10,h10,h⟩:=ob h;obtain⟨x11,h11,h⟩:=ob h;have hl:=ih _ _ _ _ h;try simp only[I] at hl
   omega
  ·cases h;all_goals (try dsimp only); first | done | omega | (simp only[I] at *; omega) | simp_all
theorem Sy{a0}{a1}{r}(h:Ki a0 a1=N r):r.2.length=a0.length:=by
 unfold Ki at h;have hl:=rH _ _ _ _ _ h;try simp only[I] at hl
 omega
theorem xq{a0}{a1}{r}(h:Ki a0 a1=N r):Cv Z 45 [.sc (.r 0),.sc (.d (.int .i64 a1))] [(6,Y X4.row a0)] [(6,Y X4.row r.2)] (.int .i64 r.1):=by
 unfold Ki at h;refine Dx (ps:= [(0,0)]) (σ:=⟨[(0,vc (.own 99999999999)),(1,vc (aI a1))],[],[(99999999999,6,Y X4.row a0)]⟩) A4 kn X X X (AR BA) X ?_;refine C9 Se ?_;have k0:= @A4o;exact gc
/- 15:laws_markIntS -/
def Sf:Hw:=([(6,[0,1,5],[],[99999999999])],[])
def ck:=fun(k_:U→U→(P U)→Q (U × P U))=>∀{v1 v2 v3} {zr},k_ v1 v2 v3=N zr→Kh Z 15 Sf 6 [0,1,5] [] [99999999999] ⟨[pW 0 99999999999,pI 1 v1,pI 5 v2],[],[(99999999999,1,Y rI v3)]⟩ (Ej [4] (.int .i64 zr.1) [(1,Y rI zr.2)] [(0,0)])
theorem A4p{n:W}:ck (DE n):=by
 induction n with
 | zero=>intro _ _ _ r h; cases h
 | succ n ih=>
  intro v1 v2 v3 r h σ hσ S hS
  conv at hS=>rhs; reduce
  try simp only[zC,zA,Ah,UInt8.reduceOfNat] at hS
  subst hS;rw[DE] at h;refine AM (Ay ?_);obtain⟨h4,h⟩|⟨h4,h⟩:=ic h
  ·obtain⟨x5,h5,h⟩:=ob h;have h5n:=Av h5;try simp only[hσ,h4,h5,C,E,F,G,H,J]
   refine AS (row:=rI) (y:=v1) X X h5n X X (by rfl) ?_;try simp only[h4,h5,C,E,F,G,H,J]
   refine ih h ?_ (by kernel_rfl);try simp only[h4,h5,C,E,F,G,H,J,pL,aM,zD]
  ·try simp only[hσ,h4,C,E,F,G,H,J]
   cases h;exact⟨⟨X,⟨⟩⟩,⟨⟨⟨_,X,X⟩,X⟩,⟨⟩⟩⟩
theorem ko:B4 Z 15=N ((BY Z 15 Sf).strip,[4],19):=by kernel_rfl
theorem rD:∀(n:W) (v1 v2:U) (v3:P U) (r:U × P U),DE n v1 v2 v3=N r→r.2.length=v3.length:=by
 intro n
 induction n with
 | zero=>intro _ _ _ r h; cases h
 | succ n ih=>
  intro v1 v2 v3 r h;rw[DE] at h;obtain⟨h4,h⟩|⟨h4,h⟩:=ic h
  ·obtain⟨x5,h5,h⟩:=ob h;have hl:=ih _ _ _ _ h;try simp only[I] at hl
   omega
  ·cases h;all_goals (try dsimp only); first | done | omega | (simp only[I] at *; omega) | simp_all
theorem Ob{a0}{a1}{r}(h:Fm a0 a1=N r):r.2.length=a0.length:=by
 unfold Fm at h;have hl:=rD _ _ _ _ _ h;try simp only[I] at hl
 omega
theorem ZT{a0}{a1}{r}(h:Fm a0 a1=N r):Cv Z 15 [.sc (.r 0),.sc (.d (.int .i64 a1))] [(1,Y rI a0)] [(1,Y rI r.2)] (.int .i64 r.1):=by
 unfold Fm at h;refine Dx (ps:= [(0,0)]) (σ:=⟨[(0,vc (.own 99999999999)),(1,vc (aI a1))],[],[(99999999999,1,Y rI a0)]⟩) A4 ko X X X (AR BA) X ?_;refine C9 Sf ?_;have k0:= @A4p;exact gc
/- 46:laws_markCrew -/
theorem kp:B4 Z 46=N ((BY Z 46 h0).strip,[4],10):=by kernel_rfl
theorem Ss{a0}{a1}{r}(h:Kc a0 a1=N r):r.2.length=a0.Moves.length:=by
 unfold Kc at h;obtain⟨r1,h1,h⟩:=ob h;have lrr1:=(Ob h1);cases h;all_goals (try dsimp only); first | done | omega | (simp only[I] at *; omega) | simp_all
theorem xj{a0}{a1}{r}(h:Kc a0 a1=N r):Cv Z 46 [.ag [.d (.int .i64 a0.Tugs),.d (.int .i64 a0.Pilots),.d (.int .i64 a0.Rest),.r 0],.sc (.d (.int .i64 a1))] [(1,Y rI a0.Moves)] [(1,Y rI r.2)] (.int .i64 r.1):=by
 unfold Kc at h;refine Dx (ps:= [(0,3)]) (σ:=⟨[(0,va [aI a0.Tugs,aI a0.Pilots,aI a0.Rest,.own 99999999999]),(1,vc (aI a1))],[],[(99999999999,1,Y rI a0.Moves)]⟩) A4 kp X X X (AR BA) X ?_;refine C9 h0 ?_;intro S hS
 conv at hS=>rhs; reduce
 try simp only[zC,zA,Ah,UInt8.reduceOfNat] at hS
 subst hS;try simp only[C,E,F,G,H,J]
 refine Bk ?_;obtain⟨r1,h1,h⟩:=ob h;try simp only[C,E,F,G,H,J]
 have lrr1:=(Ob h1);refine Dl (ids:= [99999999999]) (ZT h1) X X X (AR BA) (C8 (Ob h1) Dv) ?_;try simp only[C,E,F,G,H,J]
 cases h;exact⟨⟨X,⟨⟩⟩,⟨⟨⟨_,X,X⟩,X⟩,⟨⟩⟩⟩
/- 13:laws_markHarbour -/
theorem kq:B4 Z 13=N ((BY Z 13 h0).strip,[4],22):=by kernel_rfl
theorem J0{a0}{a1}{r}(h:I8 a0 a1=N r):r.2.1.length=a0.Forecast.Tide.Parts.length∧r.2.2.1.length=a0.Forecast.Surges.length∧r.2.2.2.1.length=a0.Chart.Points.length∧r.2.2.2.2.1.length=a0.Chart.Segments.length∧r.2.2.2.2.2.1.length=a0.Fleet.length∧r.2.2.2.2.2.2.length=a0.Crew.Moves.length:=by
 unfold I8 at h;obtain⟨r1,h1,h⟩:=ob h;have lrr1:=(Qt h1);obtain⟨r2,h2,h⟩:=ob h;have lrr2:=(Qs h2);obtain⟨r3,h3,h⟩:=ob h;have lrr3:=(Sy h3);obtain⟨r4,h4,h⟩:=ob h;have lrr4:=(Ss h4);cases h;all_goals (try dsimp only); first | done | omega | (simp only[I] at *; omega) | simp_all
theorem xl{a0}{a1}{r}(h:I8 a0 a1=N r):Cv Z 13 [.ag [.d (.int .i64 a0.Forecast.Tide.Mean),.r 0,.r 1,.r 2,.r 3,.r 4,.d (.int .i64 a0.Regime.Gap),.d (.bool a0.Regime.NoMeet),.d (.int .i64 a0.Crew.Tugs),.d (.int .i64 a0.Crew.Pilots),.d (.int .i64 a0.Crew.Rest),.r 5],.sc (.d (.int .i64 a1))] [(3,Y zB a0.Forecast.Tide.Parts),(3,Y X9.row a0.Forecast.Surges),(2,Y X7.row a0.Chart.Points),(5,Y X2.row a0.Chart.Segments),(6,Y X4.row a0.Fleet),(1,Y rI a0.Crew.Moves)] [(3,Y zB r.2.1),(3,Y X9.row r.2.2.1),(2,Y X7.row r.2.2.2.1),(5,Y X2.row r.2.2.2.2.1),(6,Y X4.row r.2.2.2.2.2.1),(1,Y rI r.2.2.2.2.2.2)] (.int .i64 r.1):=by
 unfold I8 at h;refine Dx (ps:= [(0,1),(0,2),(0,3),(0,4),(0,5),(0,11)]) (σ:=⟨[(0,va [aI a0.Forecast.Tide.Mean,.own 99999999999,.own 100000000000,.own 100000000001,.own 100000000002,.own 100000000003,aI a0.Regime.Gap,aB a0.Regime.NoMeet,aI a0.Crew.Tugs,aI a0.Crew.Pilots,aI a0.Crew.Rest,.own 100000000004]),(1,vc (aI a1))],[],[(99999999999,3,Y zB a0.Forecast.Tide.Parts),(100000000000,3,Y X9.row a0.Forecast.Surges),(100000000001,2,Y X7.row a0.Chart.Points),(100000000002,5,Y X2.row a0.Chart.Segments),(100000000003,6,Y X4.row a0.Fleet),(100000000004,1,Y rI a0.Crew.Moves)]⟩) A4 kq X X X (AR (AR (AR (AR (AR (AR BA)))))) X ?_;refine C9 h0 ?_;intro S hS
 conv at hS=>rhs; reduce
 try simp only[zC,zA,Ah,UInt8.reduceOfNat] at hS
 subst hS;try simp only[C,E,F,G,H,J]
 refine Bk ?_;obtain⟨r1,h1,h⟩:=ob h;try simp only[C,E,F,G,H,J]
 have lrr1:=(Qt h1);refine Dl (ids:= [99999999999,100000000000]) (xk h1) X X X (AR (AR BA)) (C8 (Qt h1).1 (C8 (Qt h1).2 Dv)) ?_;obtain⟨r2,h2,h⟩:=ob h;try simp only[C,E,F,G,H,J]
 have lrr2:=(Qs h2);refine Dl (ids:= [100000000001,100000000002]) (xi h2) X X X (AR (AR BA)) (C8 (Qs h2).1 (C8 (Qs h2).2 Dv)) ?_;obtain⟨r3,h3,h⟩:=ob h;try simp only[C,E,F,G,H,J]
 have lrr3:=(Sy h3);refine Dl (ids:= [100000000003]) (xq h3) X X X (AR BA) (C8 (Sy h3) Dv) ?_;obtain⟨r4,h4,h⟩:=ob h;try simp only[C,E,F,G,H,J]
 have lrr4:=(Ss h4);refine Dl (ids:= [100000000004]) (xj h4) X X X (AR BA) (C8 (Ss h4) Dv) ?_;try simp only[C,E,F,G,H,J]
 cases h;exact⟨⟨X,⟨⟩⟩,⟨⟨⟨_,X,X⟩,X⟩,⟨⟨⟨_,X,X⟩,X⟩,⟨⟨⟨_,X,X⟩,X⟩,⟨⟨⟨_,X,X⟩,X⟩,⟨⟨⟨_,X,X⟩,X⟩,⟨⟨⟨_,X,X⟩,X⟩,⟨⟩⟩⟩⟩⟩⟩⟩⟩
/- 14:laws_markCallS -/
def Sg:Hw:=([(6,[0,1,5],[],[99999999999])],[])
def cj:=fun(k_:U→U→(P Xa)→Q (U × P Xa))=>∀{v1 v2 v3} {zr},k_ v1 v2 v3=N zr→Kh Z 14 Sg 6 [0,1,5] [] [99999999999] ⟨[pW 0 99999999999,pI 1 v1,pI 5 v2],[],[(99999999999,5,Y zE v3)]⟩ (Ej [4] (.int .i64 zr.1) [(5,Y zE zr.2)] [(0,0)])
theorem A4q{n:W}:cj (Fl n):=by
 induction n with
 | zero=>intro _ _ _ r h; cases h
 | succ n ih=>
  intro v1 v2 v3 r h σ hσ S hS
  conv at hS=>rhs; reduce
  try simp only[zC,zA,Ah,UInt8.reduceOfNat] at hS
  subst hS;rw[Fl] at h;refine AM (Ay ?_);obtain⟨h4,h⟩|⟨h4,h⟩:=ic h
  ·obtain⟨x5,h5,h⟩:=ob h;have h5n:=Av h5;try simp only[hσ,h4,h5,C,E,F,G,H,J]
   refine AS (row:=zE) (y:=(⟨v1,x5.From,x5.To,x5.Ready,x5.Due⟩:Xa)) X X h5n X X (by rfl) ?_;obtain⟨x6,h6,h⟩:=ob h;have h6n:=Av h6;try simp only[h4,h5,h6,C,E,F,G,H,J]
   refine AS (row:=zE) (y:=(⟨x6.Ship,(zK .i64 (v1+(1:U))),x6.To,x6.Ready,x6.Due⟩:Xa)) X X h6n X X (by rfl) ?_;obtain⟨x7,h7,h⟩:=ob h;have h7n:=Av h7;try simp only[h4,h5,h6,h7,C,E,F,G,H,J]
   refine AS (row:=zE) (y:=(⟨x7.Ship,x7.From,(zK .i64 ((zK .i64 (v1+(1:U)))+(1:U))),x7.Ready,x7.Due⟩:Xa)) X X h7n X X (by rfl) ?_;obtain⟨x8,h8,h⟩:=ob h;have h8n:=Av h8;try simp only[h4,h5,h6,h7,h8,C,E,F,G,H,J]
   refine AS (row:=zE) (y:=(⟨x8.Ship,x8.From,x8.To,(zK .i64 ((zK .i64 ((zK .i64 (v1+(1:U)))+(1:U)))+(1:U))),x8.Due⟩:Xa)) X X h8n X X (by rfl) ?_;obtain⟨x9,h9,h⟩:=ob h;have h9n:=Av h9;try simp only[h4,h5,h6,h7,h8,h9,C,E,F,G,H,J]
   refine AS (row:=zE) (y:=(⟨x9.Ship,x9.From,x9.To,x9.Ready,(zK .i64 ((zK .i64 ((zK .i64 ((zK .i64 (v1+(1:U)))+(1:U)))+(1:U)))+(1:U)))⟩:Xa)) X X h9n X X (by rfl) ?_;try simp only[h4,h5,h6,h7,h8,h9,C,E,F,G,H,J]
   refine ih h ?_ (by kernel_rfl);try simp only[h4,h5,h6,h7,h8,h9,C,E,F,G,H,J,pL,aM,zD]
  ·try simp only[hσ,h4,C,E,F,G,H,J]
   cases h;exact⟨⟨X,⟨⟩⟩,⟨⟨⟨_,X,X⟩,X⟩,⟨⟩⟩⟩
theorem kr:B4 Z 14=N ((BY Z 14 Sg).strip,[4],48):=by kernel_rfl
theorem rC:∀(n:W) (v1 v2:U) (v3:P Xa) (r:U × P Xa),Fl n v1 v2 v3=N r→r.2.length=v3.length:=by
 intro n
 induction n with
 | zero=>intro _ _ _ r h; cases h
 | succ n ih=>
  intro v1 v2 v3 r h;rw[Fl] at h;obtain⟨h4,h⟩|⟨h4,h⟩:=ic h
  ·obtain⟨x5,h5,h⟩:=ob h;obtain⟨x6,h6,h⟩:=ob h;obtain⟨x7,h7,h⟩:=ob h;obtain⟨x8,h8,h⟩:=ob h;obtain⟨x9,h9,h⟩:=ob h;have hl:=ih _ _ _ _ h;try simp only[I] at hl
   omega
  ·cases h;all_goals (try dsimp only); first | done | omega | (simp only[I] at *; omega) | simp_all
theorem XF{a0}{a1}{r}(h:Ka a0 a1=N r):r.2.length=a0.length:=by
 unfold Ka at h;have hl:=rC _ _ _ _ _ h;try simp only[I] at hl
 omega
theorem xh{a0}{a1}{r}(h:Ka a0 a1=N r):Cv Z 14 [.sc (.r 0),.sc (.d (.int .i64 a1))] [(5,Y zE a0)] [(5,Y zE r.2)] (.int .i64 r.1):=by
 unfold Ka at h;refine Dx (ps:= [(0,0)]) (σ:=⟨[(0,vc (.own 99999999999)),(1,vc (aI a1))],[],[(99999999999,5,Y zE a0)]⟩) A4 kr X X X (AR BA) X ?_;refine C9 Sg ?_;have k0:= @A4q;exact gc
/- 16:laws_heldIntS -/
def Wr:Hw:=([(6,[0,1,5],[],[])],[])
def cg:=fun a0 (k_:U→U→Q U)=>∀{v1 v2} {zr},k_ v1 v2=N zr→Kh Z 16 Wr 6 [0,1,5] [] [] ⟨[pL 0 rI a0,pI 1 v1,pI 5 v2],[],[]⟩ (A8 [4] [.sc (.v (.int .i64 zr))])
theorem A4r{a0}{n:W}:cg a0 (I7 a0 n):=by
 induction n with
 | zero=>intro _ _ r h; cases h
 | succ n ih=>
  intro v1 v2 r h σ hσ;rw[I7] at h;exact gc
instance ZS:Ct 16 (∀{a0} {a1} {r},K9 a0 a1=N r→FC Z 16 [.sc (.sl (Y rI a0)),.sc (.int .i64 a1)] [.sc (.v (.int .i64 r))]):=by
 refine⟨fun{a0} {a1} {r} h=> ?_⟩;unfold K9 at h;refine A5 A4 Wr [4] 21 ?_;have k0:= @A4r;exact gc
/- 3:laws_FnExactFairPlan -/
theorem w_laws_FnExactFairPlan(a0:X6)(a1:P Xa)(r:V)(h:Pr a0 a1=N r):FC Z 3 [.ag (X6.row a0),.sc (.sl (Y zE a1))] [.sc (.v (.bool r))]:=by
 unfold Pr at h;refine A5 A4 h0 [4] 140 ?_;intro S hS
 conv at hS=>rhs; reduce
 try simp only[zC,zA,Ah,UInt8.reduceOfNat] at hS
 subst hS;simp only[C,E,F,G,H,J];try simp only[C,E,F,G,H,J]
 refine Bk ?_;obtain⟨r1,h1,h⟩:=ob h;try simp only[C,E,F,G,H,J]
 refine AJ (Ac xw h1) ?_;obtain⟨h2,h⟩|⟨h2,h⟩:=ic h
 ·try simp only[h2,C,E,F,G,H,J]
  cases h;exact t0
 ·obtain⟨r3,h3,h⟩:=ob h;try simp only[h2,C,E,F,G,H,J]
  refine AJ (Ac xv h3) ?_;obtain⟨h4,h⟩|⟨h4,h⟩:=ic h
  ·try simp only[h2,h4,C,E,F,G,H,J]
   cases h;exact t0
  ·obtain⟨r5,h5,h⟩:=ob h;try simp only[h2,h4,C,E,F,G,H,J]
   refine AJ (Ac QR h5) ?_;obtain⟨r6,h6,h⟩:=ob h;try simp only[h2,h4,C,E,F,G,H,J]
   refine AJ (Ac QQ h6) ?_;obtain⟨r7,h7,h⟩:=ob h;try simp only[h2,h4,C,E,F,G,H,J]
   refine Cf (Ac yc h7) X (CN X ⟨CB,X,X,⟨⟩⟩) X (uf X) ?_;obtain⟨r9,h9,h⟩:=ob h;try simp only[h2,h4,C,E,F,G,H,J]
   refine AJ (Ac QR h9) ?_;try simp only[h2,h4,C,E,F,G,H,J]
   refine By ?_;obtain⟨r10,h10,h⟩:=ob h;try simp only[h2,h4,C,E,F,G,H,J]
   refine AJ (Ac QQ h10) ?_;obtain⟨r11,h11,h⟩:=ob h;try simp only[h2,h4,C,E,F,G,H,J]
   refine Cf (Ac ZM h11) X (CN X ⟨CB,X,X,⟨⟩⟩) X (uf X) ?_;obtain⟨r12,h12,h⟩:=ob h;try simp only[h2,h4,C,E,F,G,H,J]
   refine Cf (Ac Tg h12) X (Ce X) X (uf X) ?_;obtain⟨h13,h⟩|⟨h13,h⟩:=ic h
   ·obtain⟨h14,h⟩|⟨h14,h⟩:=ic h
    ·try simp only[h2,h4,h13,h14,C,E,F,G,H,J]
     cases h;exact t0
    ·obtain⟨h15,h⟩|⟨h15,h⟩:=ic h
     ·try simp only[h2,h4,h13,h14,h15,C,E,F,G,H,J]
      refine An ?_;obtain⟨r16,h16,h⟩:=ob h;try simp only[h2,h4,h13,h14,h15,C,E,F,G,H,J]
      refine BS (Ac QR h16) ?_;obtain⟨r17,h17,h⟩:=ob h;try simp only[h2,h4,h13,h14,h15,C,E,F,G,H,J]
      refine GQ (Ac xg h17) (by first | rfl | kernel_rfl) (Ce X) X (uf X) ?_;obtain⟨h18,h⟩|⟨h18,h⟩:=ic h
      ·obtain⟨r19,h19,h⟩:=ob h;try simp only[h2,h4,h13,h14,h15,h18,C,E,F,G,H,J]
       refine AJ (Ac QQ h19) ?_;obtain⟨r20,h20,h⟩:=ob h;try simp only[h2,h4,h13,h14,h15,h18,C,E,F,G,H,J]
       refine Cf (Ac xf h20) X (Ce X) X (uf X) ?_;obtain⟨h21,h⟩|⟨h21,h⟩:=ic h
       ·obtain⟨r22,h22,h⟩:=ob h;try simp only[h2,h4,h13,h14,h15,h18,h21,C,E,F,G,H,J]
        have lrr22:=(J0 h22);refine Dl (ids:= [2561,2562,2563,2564,2565,2571]) (xl h22) X X X (AR (AR (AR (AR (AR (AR BA)))))) (C8 (J0 h22).1 (C8 (J0 h22).2.1 (C8 (J0 h22).2.2.1 (C8 (J0 h22).2.2.2.1 (C8 (J0 h22).2.2.2.2.1 (C8 (J0 h22).2.2.2.2.2 Dv)))))) ?_;obtain⟨r23,h23,h⟩:=ob h;try simp only[h2,h4,h13,h14,h15,h18,h21,C,E,F,G,H,J]
        have lrr23:=(XF h23);refine Dl (ids:= [2688]) (xh h23) X X X (AR BA) (C8 (XF h23) Dv) ?_;obtain⟨h24,h⟩|⟨h24,h⟩:=ic h
        ·try simp only[h2,h4,h13,h14,h15,h18,h21,h24,C,E,F,G,H,J]
         cases h;exact t0
        ·obtain⟨r25,h25,h⟩:=ob h;try simp only[h2,h4,h13,h14,h15,h18,h21,h24,C,E,F,G,H,J]
         refine Cf (Ac Tg h25) X (Ce X) X (uf X) ?_;obtain⟨h26,h⟩|⟨h26,h⟩:=ic h
         ·obtain⟨r27,h27,h⟩:=ob h;try simp only[h2,h4,h13,h14,h15,h18,h21,h24,h26,C,E,F,G,H,J]
          have lrr27:=(Ob h27);refine Dl (ids:= [2944]) (ZT h27) X X X (AR BA) (C8 (Ob h27) Dv) ?_;obtain⟨r28,h28,h⟩:=ob h;try simp only[h2,h4,h13,h14,h15,h18,h21,h24,h26,C,E,F,G,H,J]
          refine Cf (Ac ZS h28) X (Ce X) X (uf X) ?_;obtain⟨h29,h⟩|⟨h29,h⟩:=ic h
          ·try simp only[h2,h4,h13,h14,h15,h18,h21,h24,h26,h29,C,E,F,G,H,J]
           cases h;exact t0
          ·obtain⟨h30,h⟩|⟨h30,h⟩:=ic h
           ·try simp only[h2,h4,h13,h14,h15,h18,h21,h24,h26,h29,h30,C,E,F,G,H,J]
            cases h;exact t0
           ·obtain⟨r31,h31,h⟩:=ob h;try simp only[h2,h4,h13,h14,h15,h18,h21,h24,h26,h29,h30,C,E,F,G,H,J]
            refine AJ (Ac QR h31) ?_;obtain⟨r32,h32,h⟩:=ob h;try simp only[h2,h4,h13,h14,h15,h18,h21,h24,h26,h29,h30,C,E,F,G,H,J]
            refine AJ (Ac QQ h32) ?_;obtain⟨r33,h33,h⟩:=ob h;try simp only[h2,h4,h13,h14,h15,h18,h21,h24,h26,h29,h30,C,E,F,G,H,J]
            refine Cf (Ac ZM h33) X (CN X ⟨CB,X,X,⟨⟩⟩) X (uf X) ?_;obtain⟨r34,h34,h⟩:=ob h;try simp only[h2,h4,h13,h14,h15,h18,h21,h24,h26,h29,h30,C,E,F,G,H,J]
            refine Cf (Ac Tg h34) X (Ce X) X (uf X) ?_;obtain⟨h35,h⟩|⟨h35,h⟩:=ic h
            ·obtain⟨h36,h⟩|⟨h36,h⟩:=ic h
             ·try simp only[h2,h4,h13,h14,h15,h18,h21,h24,h26,h29,h30,h35,h36,C,E,F,G,H,J]
              cases h;exact t0
             ·obtain⟨h37,h⟩|⟨h37,h⟩:=ic h
              ·obtain⟨r38,h38,h⟩:=ob h;try simp only[h2,h4,h13,h14,h15,h18,h21,h24,h26,h29,h30,h35,h36,h37,C,E,F,G,H,J]
               refine Cf (Ac ZS h38) X (Ce X) X (uf X) ?_;obtain⟨h39,h⟩|⟨h39,h⟩:=ic h
               ·try simp only[h2,h4,h13,h14,h15,h18,h21,h24,h26,h29,h30,h35,h36,h37,h39,C,E,F,G,H,J]
                cases h;exact t0
               ·obtain⟨h40,h⟩|⟨h40,h⟩:=ic h
                ·try simp only[h2,h4,h13,h14,h15,h18,h21,h24,h26,h29,h30,h35,h36,h37,h39,h40,C,E,F,G,H,J]
                 cases h;exact t0
                ·try simp only[h2,h4,h13,h14,h15,h18,h21,h24,h26,h29,h30,h35,h36,h37,h39,h40,C,E,F,G,H,J]
                 cases h;exact t0
              ·try simp only[h2,h4,h13,h14,h15,h18,h21,h24,h26,h29,h30,h35,h36,h37,C,E,F,G,H,J]
               cases h;exact t0
            ·try simp only[h2,h4,h13,h14,h15,h18,h21,h24,h26,h29,h30,h35,C,E,F,G,H,J]
             cases h;exact t0
         ·try simp only[h2,h4,h13,h14,h15,h18,h21,h24,h26,C,E,F,G,H,J]
          cases h;exact t0
       ·try simp only[h2,h4,h13,h14,h15,h18,h21,C,E,F,G,H,J]
        cases h;exact t0
      ·try simp only[h2,h4,h13,h14,h15,h18,C,E,F,G,H,J]
       cases h;exact t0
     ·try simp only[h2,h4,h13,h14,h15,C,E,F,G,H,J]
      cases h;exact t0
   ·try simp only[h2,h4,h13,C,E,F,G,H,J]
    cases h;exact t0
end Go.Vi
